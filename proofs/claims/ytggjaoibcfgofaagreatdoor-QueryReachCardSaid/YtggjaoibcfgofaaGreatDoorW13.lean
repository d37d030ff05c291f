/- Part 13 of the proof of the laws of the queries: CodeA. -/
import Derived.Test.YtggjaoibcfgofaaGreatDoorProg
import Derived.Test.YtggjaoibcfgofaaGreatDoorW12
namespace Go.Proofs.YtggjaoibcfgofaaGreatDoor
open Am Go.Proofs
set_option maxRecDepth 100000
namespace C
def n_weftlaw17_GreatFacts : FuncId := 7
def n_least_find_1 : FuncId := 60
def n_slices_IndexFunc_api_Fact_api_Fact : FuncId := 59
def n_least_find : FuncId := 41
def n_slices_Clone_string_string : FuncId := 40
def n_least_Of : FuncId := 25
def n_slices_Index_string_string : FuncId := 43
def n_slices_Contains_string_string : FuncId := 28
def n_query_Alias_1 : FuncId := 27
def n_slices_IndexFunc_string_string : FuncId := 42
def n_slices_ContainsFunc_string_string : FuncId := 26
def n_query_Alias : FuncId := 8
def n_weftref05_Number : FuncId := 23
def n_strings_IndexByte : FuncId := 61
def n_digits_class : FuncId := 85
def n_strconv_Atoi : FuncId := 99
def n_digits_Read : FuncId := 84
def n_names_number : FuncId := 62
def n_strings_TrimLeft : FuncId := 86
def n_digits_Split : FuncId := 63
def n_names_read : FuncId := 44
def n_digits_Name : FuncId := 64
def n_names_Node_cellRight : FuncId := 65
def n_names_Node_right : FuncId := 45
def n_names_Node_write : FuncId := 46
def n_names_Read : FuncId := 30
def n_cmp_isNaN_string : FuncId := 82
def n_cmp_Compare_string : FuncId := 91
def n_intern_Table_string_place_1 : FuncId := 90
def n_slices_BinarySearchFunc_int_int_string : FuncId := 89
def n_intern_Table_string_place : FuncId := 70
def n_slices_Insert_int_int : FuncId := 71
def n_intern_Table_string_Put : FuncId := 47
def n_slices_Clone_int_int : FuncId := 73
def n_intern_Table_string_Rising_1 : FuncId := 72
def n_intern_Table_string_Rising : FuncId := 48
def n_intern_Sorted_string : FuncId := 31
def n_query_Callees : FuncId := 11
def n_weftref05_Into : FuncId := 33
def n_weftref05_Same : FuncId := 10
def n_query_Holders : FuncId := 13
def n_cmp_Less_string : FuncId := 57
def n_slices_isNaN_string : FuncId := 58
def n_slices_BinarySearch_string_string : FuncId := 37
def n_query_numbered : FuncId := 34
def n_tarjan_made : FuncId := 52
def n_tarjan_search_visit : FuncId := 78
def n_tarjan_search_leave : FuncId := 79
def n_tarjan_graph_run : FuncId := 53
def n_slices_Index_int_int : FuncId := 80
def n_slices_Contains_int_int : FuncId := 54
def n_tarjan_Parts : FuncId := 35
def n_query_Order : FuncId := 18
def n_tarjan_Leads : FuncId := 38
def n_query_Reach : FuncId := 21
def n_weftlaw32_works : FuncId := 15
def n_weftlaw32_greatEdges : FuncId := 16
def n_weftlaw21_GreatTexts : FuncId := 17
def n_weftlaw32_edges : FuncId := 19
def weftlaw17_GreatFacts.r0 : List AStep := [
  ⟨some 2, none, .op (.mov (.c (.b false)))⟩]
def weftlaw17_GreatFacts.r1 : List AStep := [
  ⟨some 6, none, .op (.mov (.t 0))⟩,
  ⟨some 7, none, .op (.len false (.t 6))⟩,
  ⟨some 8, none, .op (.bin .gtr (.t 7) (.c (.i .i64 100)))⟩]
def weftlaw17_GreatFacts.r2 : List AStep := [
  ⟨some 2, none, .op (.mov (.c (.b true)))⟩]
def weftlaw17_GreatFacts.r3 : List AStep := [
  ⟨some 3, none, .op (.mov (.c (.i .i64 0)))⟩]
def weftlaw17_GreatFacts.r4 : List AStep := [
  ⟨some 4, none, .op (.mov (.c (.i .i64 0)))⟩]
def weftlaw17_GreatFacts.r5 : List AStep := [
  ⟨some 9, none, .op (.mov (.t 4))⟩,
  ⟨some 10, none, .op (.mov (.t 0))⟩,
  ⟨some 11, none, .op (.len false (.t 10))⟩,
  ⟨some 12, none, .op (.bin .lss (.t 9) (.t 11))⟩]
def weftlaw17_GreatFacts.r6 : List AStep := [
  ⟨some 15, none, .op (.mov (.t 3))⟩,
  ⟨some 16, none, .op (.mov (.t 0))⟩,
  ⟨some 17, none, .op (.mov (.t 4))⟩,
  ⟨some 18, none, .op (.iad 2 (.t 16) (.t 17))⟩,
  ⟨some 19, none, .op (.fadr 0 (.t 18))⟩,
  ⟨some 20, none, .op (.load false 1 (.t 19))⟩,
  ⟨some 21, none, .op (.len true (.t 20))⟩,
  ⟨some 22, none, .op (.bin .add (.t 15) (.t 21))⟩,
  ⟨some 23, none, .op (.mov (.t 0))⟩,
  ⟨some 24, none, .op (.mov (.t 4))⟩,
  ⟨some 25, none, .op (.iad 2 (.t 23) (.t 24))⟩,
  ⟨some 26, none, .op (.fadr 1 (.t 25))⟩,
  ⟨some 27, none, .op (.load false 1 (.t 26))⟩,
  ⟨some 28, none, .op (.len false (.t 27))⟩,
  ⟨some 29, none, .op (.bin .mul (.c (.i .i64 10)) (.t 28))⟩,
  ⟨some 30, none, .op (.bin .add (.t 22) (.t 29))⟩,
  ⟨some 3, none, .op (.mov (.t 30))⟩]
def weftlaw17_GreatFacts.r7 : List AStep := [
  ⟨some 5, none, .op (.mov (.c (.i .i64 0)))⟩]
def weftlaw17_GreatFacts.r8 : List AStep := [
  ⟨some 31, none, .op (.mov (.t 5))⟩,
  ⟨some 32, none, .op (.mov (.t 0))⟩,
  ⟨some 33, none, .op (.mov (.t 4))⟩,
  ⟨some 34, none, .op (.iad 2 (.t 32) (.t 33))⟩,
  ⟨some 35, none, .op (.fadr 1 (.t 34))⟩,
  ⟨some 36, none, .op (.load false 1 (.t 35))⟩,
  ⟨some 37, none, .op (.len false (.t 36))⟩,
  ⟨some 38, none, .op (.bin .lss (.t 31) (.t 37))⟩,
  ⟨some 39, none, .op (.mov (.t 38))⟩,
  ⟨some 40, (some (39, true)), .op (.mov (.t 5))⟩,
  ⟨some 41, (some (39, true)), .op (.bin .lss (.t 40) (.c (.i .i64 500)))⟩,
  ⟨some 42, none, .op (.pick (.t 39) (.t 41) (.c (.b false)))⟩]
def weftlaw17_GreatFacts.r9 : List AStep := [
  ⟨some 45, none, .op (.mov (.t 3))⟩,
  ⟨some 46, none, .op (.mov (.t 0))⟩,
  ⟨some 47, none, .op (.mov (.t 4))⟩,
  ⟨some 48, none, .op (.iad 2 (.t 46) (.t 47))⟩,
  ⟨some 49, none, .op (.fadr 1 (.t 48))⟩,
  ⟨some 50, none, .op (.load false 1 (.t 49))⟩,
  ⟨some 51, none, .op (.mov (.t 5))⟩,
  ⟨some 52, none, .op (.iad 1 (.t 50) (.t 51))⟩,
  ⟨some 53, none, .op (.load false 1 (.t 52))⟩,
  ⟨some 54, none, .op (.len true (.t 53))⟩,
  ⟨some 55, none, .op (.bin .add (.t 45) (.t 54))⟩,
  ⟨some 3, none, .op (.mov (.t 55))⟩]
def weftlaw17_GreatFacts.r10 : List AStep := [
  ⟨some 43, none, .op (.mov (.t 5))⟩,
  ⟨some 44, none, .op (.bin .add (.t 43) (.c (.i .i64 1)))⟩,
  ⟨some 5, none, .op (.mov (.t 44))⟩]
def weftlaw17_GreatFacts.l1 : ACode := .seq (.seq (.post [0, 3, 4, 5, 42] (.region weftlaw17_GreatFacts.r8)) (.post [0, 3, 4, 5] (.cond (.t 42) (.skip) (.exit 2)))) (.seq (.post [0, 3, 4, 5] (.block 3 (.post [0, 3, 4, 5] (.region weftlaw17_GreatFacts.r9)))) (.post [0, 3, 4, 5] (.region weftlaw17_GreatFacts.r10)))
def weftlaw17_GreatFacts.r11 : List AStep := [
  ⟨some 56, none, .op (.mov (.t 3))⟩,
  ⟨some 57, none, .op (.bin .gtr (.t 56) (.c (.i .i64 50000)))⟩]
def weftlaw17_GreatFacts.r12 : List AStep := [
  ⟨some 2, none, .op (.mov (.c (.b true)))⟩]
def weftlaw17_GreatFacts.r13 : List AStep := [
  ⟨some 13, none, .op (.mov (.t 4))⟩,
  ⟨some 14, none, .op (.bin .add (.t 13) (.c (.i .i64 1)))⟩,
  ⟨some 4, none, .op (.mov (.t 14))⟩]
def weftlaw17_GreatFacts.l0 : ACode := .seq (.seq (.post [0, 3, 4, 12] (.region weftlaw17_GreatFacts.r5)) (.post [0, 3, 4] (.cond (.t 12) (.skip) (.exit 0)))) (.seq (.post [0, 3, 4] (.block 1 (.seq (.post [0, 3, 4] (.draw [0, 0, 0, 6, 14, 30, 62, 127, 0, 0, 768, 1792, 3840, 7936, 16128, 32767, 65535] weftlaw17_GreatFacts.r6)) (.seq (.seq (.post [0, 3, 4, 5] (.region weftlaw17_GreatFacts.r7)) (.post [0, 3, 4] (.block 2 (.loop weftlaw17_GreatFacts.l1)))) (.seq (.post [0, 3, 4, 57] (.region weftlaw17_GreatFacts.r11)) (.post [0, 3, 4] (.cond (.t 57) (.seq (.post [2] (.region weftlaw17_GreatFacts.r12)) (.ret)) (.skip)))))))) (.post [0, 3, 4] (.region weftlaw17_GreatFacts.r13)))
def weftlaw17_GreatFacts.r14 : List AStep := [
  ⟨some 2, none, .op (.mov (.c (.b false)))⟩]
def weftlaw17_GreatFacts : AFunc := ⟨58, [.t 2], .seq (.post [0] (.region weftlaw17_GreatFacts.r0)) (.seq (.seq (.post [0, 8] (.region weftlaw17_GreatFacts.r1)) (.post [0] (.cond (.t 8) (.seq (.post [2] (.region weftlaw17_GreatFacts.r2)) (.ret)) (.skip)))) (.seq (.post [0, 3] (.region weftlaw17_GreatFacts.r3)) (.seq (.seq (.post [0, 3, 4] (.region weftlaw17_GreatFacts.r4)) (.post [] (.block 0 (.loop weftlaw17_GreatFacts.l0)))) (.seq (.post [2] (.region weftlaw17_GreatFacts.r14)) (.ret)))))⟩
theorem weftlaw17_GreatFacts.ok : okFunc Tryz.prog Tryz.f7 weftlaw17_GreatFacts = true := by kernel_rfl
theorem weftlaw17_GreatFacts.at : Tryz.prog.funcs[n_weftlaw17_GreatFacts]? = some Tryz.f7 := Tryz.func7
def least_find_1.r0 : List AStep := [
  ⟨some 2, none, .op (.boxf (.t 0))⟩,
  ⟨some 3, none, .op (.mov (.c (.b false)))⟩]
def least_find_1.r1 : List AStep := [
  ⟨some 4, none, .op (.fadr 0 (.t 2))⟩,
  ⟨some 5, none, .op (.load false 1 (.t 4))⟩,
  ⟨some 6, none, .op (.load false 1 (.t 1))⟩,
  ⟨some 7, none, .op (.bin .eql (.t 5) (.t 6))⟩,
  ⟨some 3, none, .op (.mov (.t 7))⟩]
def least_find_1 : AFunc := ⟨8, [.t 3], .seq (.post [1, 2] (.region least_find_1.r0)) (.seq (.post [3] (.region least_find_1.r1)) (.ret))⟩
theorem least_find_1.ok : okFunc Tryz.prog Tryz.f60 least_find_1 = true := by kernel_rfl
theorem least_find_1.at : Tryz.prog.funcs[n_least_find_1]? = some Tryz.f60 := Tryz.func60
def slices_IndexFunc_api_Fact_api_Fact.r0 : List AStep := [
  ⟨some 4, none, .op (.mov (.c (.i .i64 0)))⟩]
def slices_IndexFunc_api_Fact_api_Fact.r1 : List AStep := [
  ⟨some 6, none, .op (.mov (.t 0))⟩,
  ⟨some 7, none, .op (.len false (.t 6))⟩,
  ⟨some 8, none, .op (.mov (.c (.i .i64 0)))⟩]
def slices_IndexFunc_api_Fact_api_Fact.r2 : List AStep := [
  ⟨some 9, none, .op (.bin .lss (.t 8) (.t 7))⟩]
def slices_IndexFunc_api_Fact_api_Fact.r3 : List AStep := [
  ⟨some 10, none, .op (.mov (.t 8))⟩,
  ⟨some 5, none, .op (.mov (.t 10))⟩]
def slices_IndexFunc_api_Fact_api_Fact.r4 : List AStep := [
  ⟨some 11, none, .op (.mov (.t 1))⟩,
  ⟨some 12, none, .op (.mov (.t 0))⟩,
  ⟨some 13, none, .op (.mov (.t 5))⟩,
  ⟨some 14, none, .op (.iad 2 (.t 12) (.t 13))⟩,
  ⟨some 15, none, .op (.load true 2 (.t 14))⟩,
  ⟨some 16, none, .callv (.t 11) [.t 15]⟩]
def slices_IndexFunc_api_Fact_api_Fact.r5 : List AStep := [
  ⟨some 17, none, .op (.mov (.t 5))⟩,
  ⟨some 4, none, .op (.mov (.t 17))⟩]
def slices_IndexFunc_api_Fact_api_Fact.r6 : List AStep := [
  ⟨some 18, none, .op (.bin .add (.t 8) (.c (.i .i64 1)))⟩,
  ⟨some 8, none, .op (.mov (.t 18))⟩]
def slices_IndexFunc_api_Fact_api_Fact.l0 : ACode := .seq (.post [0, 1, 7, 8, 9] (.region slices_IndexFunc_api_Fact_api_Fact.r2)) (.seq (.post [0, 1, 7, 8] (.cond (.t 9) (.skip) (.exit 0))) (.seq (.post [0, 1, 7, 8] (.block 1 (.seq (.post [0, 1, 5, 7, 8] (.region slices_IndexFunc_api_Fact_api_Fact.r3)) (.seq (.post [0, 1, 5, 7, 8, 16] (.region slices_IndexFunc_api_Fact_api_Fact.r4)) (.post [0, 1, 7, 8] (.cond (.t 16) (.seq (.post [4] (.region slices_IndexFunc_api_Fact_api_Fact.r5)) (.ret)) (.skip))))))) (.post [0, 1, 7, 8] (.region slices_IndexFunc_api_Fact_api_Fact.r6))))
def slices_IndexFunc_api_Fact_api_Fact.r7 : List AStep := [
  ⟨some 4, none, .op (.mov (.c (.i .i64 (-1))))⟩]
def slices_IndexFunc_api_Fact_api_Fact : AFunc := ⟨19, [.t 4], .seq (.post [0, 1] (.region slices_IndexFunc_api_Fact_api_Fact.r0)) (.seq (.seq (.post [0, 1, 7, 8] (.region slices_IndexFunc_api_Fact_api_Fact.r1)) (.post [] (.block 0 (.loop slices_IndexFunc_api_Fact_api_Fact.l0)))) (.seq (.post [4] (.region slices_IndexFunc_api_Fact_api_Fact.r7)) (.ret)))⟩
theorem slices_IndexFunc_api_Fact_api_Fact.ok : okFunc Tryz.prog Tryz.f59 slices_IndexFunc_api_Fact_api_Fact = true := by kernel_rfl
theorem slices_IndexFunc_api_Fact_api_Fact.at : Tryz.prog.funcs[n_slices_IndexFunc_api_Fact_api_Fact]? = some Tryz.f59 := Tryz.func59
def least_find.r0 : List AStep := [
  ⟨some 3, none, .op (.box (.t 1))⟩,
  ⟨some 4, none, .op (.mov (.c (.sl none 0 0)))⟩]
def least_find.r1 : List AStep := [
  ⟨some 6, none, .op (.mov (.t 0))⟩,
  ⟨some 7, none, .op (.mkfn n_least_find_1 [.t 3])⟩,
  ⟨some 8, none, .call n_slices_IndexFunc_api_Fact_api_Fact [.t 6, .t 7]⟩,
  ⟨some 5, none, .op (.mov (.t 8))⟩]
def least_find.r2 : List AStep := [
  ⟨some 9, none, .op (.mov (.t 5))⟩,
  ⟨some 10, none, .op (.bin .lss (.t 9) (.c (.i .i64 0)))⟩]
def least_find.r3 : List AStep := [
  ⟨some 4, none, .op (.mov (.c (.sl none 0 0)))⟩]
def least_find.r4 : List AStep := [
  ⟨some 11, none, .op (.mov (.t 0))⟩,
  ⟨some 12, none, .op (.mov (.t 5))⟩,
  ⟨some 13, none, .op (.iad 2 (.t 11) (.t 12))⟩,
  ⟨some 14, none, .op (.fadr 1 (.t 13))⟩,
  ⟨some 15, none, .op (.load false 1 (.t 14))⟩,
  ⟨some 4, none, .op (.mov (.t 15))⟩]
def least_find : AFunc := ⟨16, [.t 4], .seq (.post [0, 3] (.region least_find.r0)) (.seq (.post [0, 5] (.region least_find.r1)) (.seq (.seq (.post [0, 5, 10] (.region least_find.r2)) (.post [0, 5] (.cond (.t 10) (.seq (.post [4] (.region least_find.r3)) (.ret)) (.skip)))) (.seq (.post [4] (.region least_find.r4)) (.ret))))⟩
theorem least_find.ok : okFunc Tryz.prog Tryz.f41 least_find = true := by kernel_rfl
theorem least_find.at : Tryz.prog.funcs[n_least_find]? = some Tryz.f41 := Tryz.func41
def least_Of.r0 : List AStep := [
  ⟨some 4, none, .op (.mov (.c (.sl none 0 0)))⟩]
def least_Of.r1 : List AStep := [
  ⟨some 5, none, .op (.mov (.t 0))⟩,
  ⟨some 6, none, .op (.mov (.t 1))⟩,
  ⟨some 7, none, .call n_least_find [.t 5, .t 6]⟩,
  ⟨some 8, none, .call n_slices_Clone_string_string [.t 7]⟩,
  ⟨some 4, none, .op (.mov (.t 8))⟩]
def least_Of : AFunc := ⟨9, [.t 4], .seq (.post [0, 1] (.region least_Of.r0)) (.seq (.post [4] (.region least_Of.r1)) (.ret))⟩
theorem least_Of.ok : okFunc Tryz.prog Tryz.f25 least_Of = true := by kernel_rfl
theorem least_Of.at : Tryz.prog.funcs[n_least_Of]? = some Tryz.f25 := Tryz.func25
def slices_Index_string_string.r0 : List AStep := [
  ⟨some 4, none, .op (.mov (.c (.i .i64 0)))⟩]
def slices_Index_string_string.r1 : List AStep := [
  ⟨some 6, none, .op (.mov (.t 0))⟩,
  ⟨some 7, none, .op (.len false (.t 6))⟩,
  ⟨some 8, none, .op (.mov (.c (.i .i64 0)))⟩]
def slices_Index_string_string.r2 : List AStep := [
  ⟨some 9, none, .op (.bin .lss (.t 8) (.t 7))⟩]
def slices_Index_string_string.r3 : List AStep := [
  ⟨some 10, none, .op (.mov (.t 8))⟩,
  ⟨some 5, none, .op (.mov (.t 10))⟩]
def slices_Index_string_string.r4 : List AStep := [
  ⟨some 11, none, .op (.mov (.t 1))⟩,
  ⟨some 12, none, .op (.mov (.t 0))⟩,
  ⟨some 13, none, .op (.mov (.t 5))⟩,
  ⟨some 14, none, .op (.iad 1 (.t 12) (.t 13))⟩,
  ⟨some 15, none, .op (.load false 1 (.t 14))⟩,
  ⟨some 16, none, .op (.bin .eql (.t 11) (.t 15))⟩]
def slices_Index_string_string.r5 : List AStep := [
  ⟨some 17, none, .op (.mov (.t 5))⟩,
  ⟨some 4, none, .op (.mov (.t 17))⟩]
def slices_Index_string_string.r6 : List AStep := [
  ⟨some 18, none, .op (.bin .add (.t 8) (.c (.i .i64 1)))⟩,
  ⟨some 8, none, .op (.mov (.t 18))⟩]
def slices_Index_string_string.l0 : ACode := .seq (.post [0, 1, 7, 8, 9] (.region slices_Index_string_string.r2)) (.seq (.post [0, 1, 7, 8] (.cond (.t 9) (.skip) (.exit 0))) (.seq (.post [0, 1, 7, 8] (.block 1 (.seq (.post [0, 1, 5, 7, 8] (.region slices_Index_string_string.r3)) (.seq (.post [0, 1, 5, 7, 8, 16] (.region slices_Index_string_string.r4)) (.post [0, 1, 7, 8] (.cond (.t 16) (.seq (.post [4] (.region slices_Index_string_string.r5)) (.ret)) (.skip))))))) (.post [0, 1, 7, 8] (.region slices_Index_string_string.r6))))
def slices_Index_string_string.r7 : List AStep := [
  ⟨some 4, none, .op (.mov (.c (.i .i64 (-1))))⟩]
def slices_Index_string_string : AFunc := ⟨19, [.t 4], .seq (.post [0, 1] (.region slices_Index_string_string.r0)) (.seq (.seq (.post [0, 1, 7, 8] (.region slices_Index_string_string.r1)) (.post [] (.block 0 (.loop slices_Index_string_string.l0)))) (.seq (.post [4] (.region slices_Index_string_string.r7)) (.ret)))⟩
theorem slices_Index_string_string.ok : okFunc Tryz.prog Tryz.f43 slices_Index_string_string = true := by kernel_rfl
theorem slices_Index_string_string.at : Tryz.prog.funcs[n_slices_Index_string_string]? = some Tryz.f43 := Tryz.func43
def slices_Contains_string_string.r0 : List AStep := [
  ⟨some 4, none, .op (.mov (.c (.b false)))⟩]
def slices_Contains_string_string.r1 : List AStep := [
  ⟨some 5, none, .op (.mov (.t 0))⟩,
  ⟨some 6, none, .op (.mov (.t 1))⟩,
  ⟨some 7, none, .call n_slices_Index_string_string [.t 5, .t 6]⟩,
  ⟨some 8, none, .op (.bin .geq (.t 7) (.c (.i .i64 0)))⟩,
  ⟨some 4, none, .op (.mov (.t 8))⟩]
def slices_Contains_string_string : AFunc := ⟨9, [.t 4], .seq (.post [0, 1] (.region slices_Contains_string_string.r0)) (.seq (.post [4] (.region slices_Contains_string_string.r1)) (.ret))⟩
theorem slices_Contains_string_string.ok : okFunc Tryz.prog Tryz.f28 slices_Contains_string_string = true := by kernel_rfl
theorem slices_Contains_string_string.at : Tryz.prog.funcs[n_slices_Contains_string_string]? = some Tryz.f28 := Tryz.func28
def query_Alias_1.r0 : List AStep := [
  ⟨some 3, none, .op (.mov (.c (.b false)))⟩]
def query_Alias_1.r1 : List AStep := [
  ⟨some 4, none, .op (.load false 1 (.t 1))⟩,
  ⟨some 5, none, .op (.mov (.t 0))⟩,
  ⟨some 6, none, .call n_slices_Contains_string_string [.t 4, .t 5]⟩,
  ⟨some 3, none, .op (.mov (.t 6))⟩]
def query_Alias_1 : AFunc := ⟨7, [.t 3], .seq (.post [0, 1] (.region query_Alias_1.r0)) (.seq (.post [3] (.region query_Alias_1.r1)) (.ret))⟩
theorem query_Alias_1.ok : okFunc Tryz.prog Tryz.f27 query_Alias_1 = true := by kernel_rfl
theorem query_Alias_1.at : Tryz.prog.funcs[n_query_Alias_1]? = some Tryz.f27 := Tryz.func27
def slices_IndexFunc_string_string.r0 : List AStep := [
  ⟨some 4, none, .op (.mov (.c (.i .i64 0)))⟩]
def slices_IndexFunc_string_string.r1 : List AStep := [
  ⟨some 6, none, .op (.mov (.t 0))⟩,
  ⟨some 7, none, .op (.len false (.t 6))⟩,
  ⟨some 8, none, .op (.mov (.c (.i .i64 0)))⟩]
def slices_IndexFunc_string_string.r2 : List AStep := [
  ⟨some 9, none, .op (.bin .lss (.t 8) (.t 7))⟩]
def slices_IndexFunc_string_string.r3 : List AStep := [
  ⟨some 10, none, .op (.mov (.t 8))⟩,
  ⟨some 5, none, .op (.mov (.t 10))⟩]
def slices_IndexFunc_string_string.r4 : List AStep := [
  ⟨some 11, none, .op (.mov (.t 1))⟩,
  ⟨some 12, none, .op (.mov (.t 0))⟩,
  ⟨some 13, none, .op (.mov (.t 5))⟩,
  ⟨some 14, none, .op (.iad 1 (.t 12) (.t 13))⟩,
  ⟨some 15, none, .op (.load false 1 (.t 14))⟩,
  ⟨some 16, none, .callv (.t 11) [.t 15]⟩]
def slices_IndexFunc_string_string.r5 : List AStep := [
  ⟨some 17, none, .op (.mov (.t 5))⟩,
  ⟨some 4, none, .op (.mov (.t 17))⟩]
def slices_IndexFunc_string_string.r6 : List AStep := [
  ⟨some 18, none, .op (.bin .add (.t 8) (.c (.i .i64 1)))⟩,
  ⟨some 8, none, .op (.mov (.t 18))⟩]
def slices_IndexFunc_string_string.l0 : ACode := .seq (.post [0, 1, 7, 8, 9] (.region slices_IndexFunc_string_string.r2)) (.seq (.post [0, 1, 7, 8] (.cond (.t 9) (.skip) (.exit 0))) (.seq (.post [0, 1, 7, 8] (.block 1 (.seq (.post [0, 1, 5, 7, 8] (.region slices_IndexFunc_string_string.r3)) (.seq (.post [0, 1, 5, 7, 8, 16] (.region slices_IndexFunc_string_string.r4)) (.post [0, 1, 7, 8] (.cond (.t 16) (.seq (.post [4] (.region slices_IndexFunc_string_string.r5)) (.ret)) (.skip))))))) (.post [0, 1, 7, 8] (.region slices_IndexFunc_string_string.r6))))
def slices_IndexFunc_string_string.r7 : List AStep := [
  ⟨some 4, none, .op (.mov (.c (.i .i64 (-1))))⟩]
def slices_IndexFunc_string_string : AFunc := ⟨19, [.t 4], .seq (.post [0, 1] (.region slices_IndexFunc_string_string.r0)) (.seq (.seq (.post [0, 1, 7, 8] (.region slices_IndexFunc_string_string.r1)) (.post [] (.block 0 (.loop slices_IndexFunc_string_string.l0)))) (.seq (.post [4] (.region slices_IndexFunc_string_string.r7)) (.ret)))⟩
theorem slices_IndexFunc_string_string.ok : okFunc Tryz.prog Tryz.f42 slices_IndexFunc_string_string = true := by kernel_rfl
theorem slices_IndexFunc_string_string.at : Tryz.prog.funcs[n_slices_IndexFunc_string_string]? = some Tryz.f42 := Tryz.func42
def slices_ContainsFunc_string_string.r0 : List AStep := [
  ⟨some 4, none, .op (.mov (.c (.b false)))⟩]
def slices_ContainsFunc_string_string.r1 : List AStep := [
  ⟨some 5, none, .op (.mov (.t 0))⟩,
  ⟨some 6, none, .op (.mov (.t 1))⟩,
  ⟨some 7, none, .call n_slices_IndexFunc_string_string [.t 5, .t 6]⟩,
  ⟨some 8, none, .op (.bin .geq (.t 7) (.c (.i .i64 0)))⟩,
  ⟨some 4, none, .op (.mov (.t 8))⟩]
def slices_ContainsFunc_string_string : AFunc := ⟨9, [.t 4], .seq (.post [0, 1] (.region slices_ContainsFunc_string_string.r0)) (.seq (.post [4] (.region slices_ContainsFunc_string_string.r1)) (.ret))⟩
theorem slices_ContainsFunc_string_string.ok : okFunc Tryz.prog Tryz.f26 slices_ContainsFunc_string_string = true := by kernel_rfl
theorem slices_ContainsFunc_string_string.at : Tryz.prog.funcs[n_slices_ContainsFunc_string_string]? = some Tryz.f26 := Tryz.func26
def query_Alias.r0 : List AStep := [
  ⟨some 6, none, .op (.mov (.c (.b false)))⟩]
def query_Alias.r1 : List AStep := [
  ⟨some 8, none, .op (.mov (.t 0))⟩,
  ⟨some 9, none, .op (.mov (.t 2))⟩,
  ⟨some 10, none, .call n_least_Of [.t 8, .t 9]⟩,
  ⟨some 7, none, .op (.new [.sl none 0 0])⟩,
  ⟨none, none, .op (.store 1 (.t 7) (.t 10))⟩]
def query_Alias.r2 : List AStep := [
  ⟨some 11, none, .op (.mov (.t 0))⟩,
  ⟨some 12, none, .op (.mov (.t 1))⟩,
  ⟨some 13, none, .call n_least_Of [.t 11, .t 12]⟩,
  ⟨some 14, none, .op (.mkfn n_query_Alias_1 [.t 7])⟩,
  ⟨some 15, none, .call n_slices_ContainsFunc_string_string [.t 13, .t 14]⟩,
  ⟨some 6, none, .op (.mov (.t 15))⟩]
def query_Alias : AFunc := ⟨16, [.t 6], .seq (.post [0, 1, 2] (.region query_Alias.r0)) (.seq (.post [0, 1, 7] (.region query_Alias.r1)) (.seq (.post [6] (.region query_Alias.r2)) (.ret)))⟩
theorem query_Alias.ok : okFunc Tryz.prog Tryz.f8 query_Alias = true := by kernel_rfl
theorem query_Alias.at : Tryz.prog.funcs[n_query_Alias]? = some Tryz.f8 := Tryz.func8
def weftref05_Number.r0 : List AStep := [
  ⟨some 4, none, .op (.mov (.c (.i .i64 0)))⟩]
def weftref05_Number.r1 : List AStep := [
  ⟨some 5, none, .op (.mov (.c (.i .i64 0)))⟩]
def weftref05_Number.r2 : List AStep := [
  ⟨some 6, none, .op (.mov (.t 5))⟩,
  ⟨some 7, none, .op (.mov (.t 0))⟩,
  ⟨some 8, none, .op (.len false (.t 7))⟩,
  ⟨some 9, none, .op (.bin .lss (.t 6) (.t 8))⟩]
def weftref05_Number.r3 : List AStep := [
  ⟨some 12, none, .op (.mov (.t 0))⟩,
  ⟨some 13, none, .op (.mov (.t 5))⟩,
  ⟨some 14, none, .op (.iad 1 (.t 12) (.t 13))⟩,
  ⟨some 15, none, .op (.load false 1 (.t 14))⟩,
  ⟨some 16, none, .op (.mov (.t 1))⟩,
  ⟨some 17, none, .op (.bin .eql (.t 15) (.t 16))⟩]
def weftref05_Number.r4 : List AStep := [
  ⟨some 18, none, .op (.mov (.t 5))⟩,
  ⟨some 4, none, .op (.mov (.t 18))⟩]
def weftref05_Number.r5 : List AStep := [
  ⟨some 10, none, .op (.mov (.t 5))⟩,
  ⟨some 11, none, .op (.bin .add (.t 10) (.c (.i .i64 1)))⟩,
  ⟨some 5, none, .op (.mov (.t 11))⟩]
def weftref05_Number.l0 : ACode := .seq (.seq (.post [0, 1, 5, 9] (.region weftref05_Number.r2)) (.post [0, 1, 5] (.cond (.t 9) (.skip) (.exit 0)))) (.seq (.post [0, 1, 5] (.block 1 (.seq (.post [0, 1, 5, 17] (.region weftref05_Number.r3)) (.post [0, 1, 5] (.cond (.t 17) (.seq (.post [4] (.region weftref05_Number.r4)) (.ret)) (.skip)))))) (.post [0, 1, 5] (.region weftref05_Number.r5)))
def weftref05_Number.r6 : List AStep := [
  ⟨some 4, none, .op (.mov (.c (.i .i64 (-1))))⟩]
def weftref05_Number : AFunc := ⟨19, [.t 4], .seq (.post [0, 1] (.region weftref05_Number.r0)) (.seq (.seq (.post [0, 1, 5] (.region weftref05_Number.r1)) (.post [] (.block 0 (.loop weftref05_Number.l0)))) (.seq (.post [4] (.region weftref05_Number.r6)) (.ret)))⟩
theorem weftref05_Number.ok : okFunc Tryz.prog Tryz.f23 weftref05_Number = true := by kernel_rfl
theorem weftref05_Number.at : Tryz.prog.funcs[n_weftref05_Number]? = some Tryz.f23 := Tryz.func23
def digits_class.r0 : List AStep := [
  ⟨some 2, none, .op (.mov (.c (.i .i64 0)))⟩]
def digits_class.r1 : List AStep := [
  ⟨some 3, none, .op (.mov (.c (.i .i64 2)))⟩]
def digits_class.r2 : List AStep := [
  ⟨some 5, none, .op (.mov (.t 0))⟩,
  ⟨some 6, none, .op (.bin .geq (.t 5) (.c (.i .u8 48)))⟩,
  ⟨some 7, none, .op (.mov (.t 6))⟩,
  ⟨some 8, (some (7, true)), .op (.mov (.t 0))⟩,
  ⟨some 9, (some (7, true)), .op (.bin .leq (.t 8) (.c (.i .u8 57)))⟩,
  ⟨some 10, none, .op (.pick (.t 7) (.t 9) (.c (.b false)))⟩,
  ⟨some 4, none, .op (.mov (.t 10))⟩]
def digits_class.r3 : List AStep := [
  ⟨some 12, none, .op (.mov (.t 0))⟩,
  ⟨some 13, none, .op (.bin .geq (.t 12) (.c (.i .u8 65)))⟩,
  ⟨some 14, none, .op (.mov (.t 13))⟩,
  ⟨some 15, (some (14, true)), .op (.mov (.t 0))⟩,
  ⟨some 16, (some (14, true)), .op (.bin .leq (.t 15) (.c (.i .u8 90)))⟩,
  ⟨some 17, none, .op (.pick (.t 14) (.t 16) (.c (.b false)))⟩,
  ⟨some 11, none, .op (.mov (.t 17))⟩]
def digits_class.r4 : List AStep := [
  ⟨some 18, none, .op (.mov (.t 0))⟩,
  ⟨some 19, none, .op (.bin .geq (.t 18) (.c (.i .u8 97)))⟩,
  ⟨some 20, none, .op (.mov (.t 19))⟩,
  ⟨some 21, (some (20, true)), .op (.mov (.t 0))⟩,
  ⟨some 22, (some (20, true)), .op (.bin .leq (.t 21) (.c (.i .u8 122)))⟩,
  ⟨some 23, none, .op (.pick (.t 20) (.t 22) (.c (.b false)))⟩,
  ⟨some 11, none, .op (.mov (.t 23))⟩]
def digits_class.r5 : List AStep := [
  ⟨some 24, none, .op (.mov (.t 0))⟩,
  ⟨some 25, none, .op (.bin .eql (.t 24) (.c (.i .u8 95)))⟩,
  ⟨some 11, none, .op (.mov (.t 25))⟩]
def digits_class.r6 : List AStep := [
  ⟨some 3, none, .op (.mov (.c (.i .i64 1)))⟩]
def digits_class.r7 : List AStep := [
  ⟨some 26, none, .op (.mov (.t 3))⟩,
  ⟨some 2, none, .op (.mov (.t 26))⟩]
def digits_class.r8 : List AStep := [
  ⟨some 2, none, .op (.mov (.c (.i .i64 0)))⟩]
def digits_class : AFunc := ⟨27, [.t 2], .seq (.post [0] (.region digits_class.r0)) (.seq (.post [0, 3] (.region digits_class.r1)) (.seq (.post [] (.block 0 (.seq (.post [3] (.block 2 (.seq (.post [] (.block 1 (.seq (.seq (.seq (.post [0, 3, 4] (.region digits_class.r2)) (.post [0, 3] (.cond (.t 4) (.exit 1) (.skip)))) (.seq (.seq (.post [0, 3, 11] (.region digits_class.r3)) (.post [3, 11] (.cond (.t 11) (.skip) (.seq (.post [0, 3, 11] (.region digits_class.r4)) (.post [3, 11] (.cond (.t 11) (.skip) (.post [3, 11] (.region digits_class.r5)))))))) (.post [] (.cond (.t 11) (.exit 2) (.skip))))) (.exit 0)))) (.post [3] (.region digits_class.r6))))) (.seq (.seq (.post [2] (.region digits_class.r7)) (.ret)) (.exit 0))))) (.seq (.post [2] (.region digits_class.r8)) (.ret))))⟩
theorem digits_class.ok : okFunc Tryz.prog Tryz.f85 digits_class = true := by kernel_rfl
theorem digits_class.at : Tryz.prog.funcs[n_digits_class]? = some Tryz.f85 := Tryz.func85
def digits_Read.r0 : List AStep := [
  ⟨some 2, none, .op (.mov (.c (.i .i64 0)))⟩,
  ⟨some 3, none, .op (.mov (.c (.i .i64 0)))⟩]
def digits_Read.r1 : List AStep := [
  ⟨some 7, none, .op (.mov (.t 0))⟩,
  ⟨some 8, none, .op (.bin .eql (.t 7) (.c (.s [])))⟩]
def digits_Read.r2 : List AStep := [
  ⟨some 2, none, .op (.mov (.c (.i .i64 0)))⟩,
  ⟨some 3, none, .op (.mov (.c (.i .i64 1)))⟩]
def digits_Read.r3 : List AStep := [
  ⟨some 9, none, .op (.mov (.t 0))⟩,
  ⟨some 10, none, .op (.len true (.t 9))⟩,
  ⟨some 11, none, .op (.mov (.c (.i .i64 0)))⟩]
def digits_Read.r4 : List AStep := [
  ⟨some 12, none, .op (.bin .lss (.t 11) (.t 10))⟩]
def digits_Read.r5 : List AStep := [
  ⟨some 13, none, .op (.mov (.t 11))⟩,
  ⟨some 4, none, .op (.mov (.t 13))⟩]
def digits_Read.r6 : List AStep := [
  ⟨some 14, none, .op (.mov (.t 0))⟩,
  ⟨some 15, none, .op (.mov (.t 4))⟩,
  ⟨some 16, none, .op (.idx (.t 14) (.t 15))⟩,
  ⟨some 17, none, .call n_digits_class [.t 16]⟩,
  ⟨some 18, none, .op (.bin .neq (.t 17) (.c (.i .i64 1)))⟩]
def digits_Read.r7 : List AStep := [
  ⟨some 2, none, .op (.mov (.c (.i .i64 0)))⟩,
  ⟨some 3, none, .op (.mov (.c (.i .i64 3)))⟩]
def digits_Read.r8 : List AStep := [
  ⟨some 19, none, .op (.bin .add (.t 11) (.c (.i .i64 1)))⟩,
  ⟨some 11, none, .op (.mov (.t 19))⟩]
def digits_Read.l0 : ACode := .seq (.post [0, 10, 11, 12] (.region digits_Read.r4)) (.seq (.post [0, 10, 11] (.cond (.t 12) (.skip) (.exit 0))) (.seq (.post [0, 10, 11] (.block 1 (.seq (.post [0, 4, 10, 11] (.region digits_Read.r5)) (.seq (.post [0, 10, 11, 18] (.region digits_Read.r6)) (.post [0, 10, 11] (.cond (.t 18) (.seq (.post [2, 3] (.region digits_Read.r7)) (.ret)) (.skip))))))) (.post [0, 10, 11] (.region digits_Read.r8))))
def digits_Read.r9 : List AStep := [
  ⟨some 21, none, .op (.mov (.t 0))⟩,
  ⟨some 22, none, .op (.idx (.t 21) (.c (.i .i64 0)))⟩,
  ⟨some 23, none, .op (.bin .eql (.t 22) (.c (.i .u8 48)))⟩,
  ⟨some 24, none, .op (.mov (.t 23))⟩,
  ⟨some 25, (some (24, true)), .op (.mov (.t 0))⟩,
  ⟨some 26, (some (24, true)), .op (.len true (.t 25))⟩,
  ⟨some 27, (some (24, true)), .op (.bin .gtr (.t 26) (.c (.i .i64 1)))⟩,
  ⟨some 28, none, .op (.pick (.t 24) (.t 27) (.c (.b false)))⟩,
  ⟨some 20, none, .op (.mov (.t 28))⟩]
def digits_Read.r10 : List AStep := [
  ⟨some 2, none, .op (.mov (.c (.i .i64 0)))⟩,
  ⟨some 3, none, .op (.mov (.c (.i .i64 3)))⟩]
def digits_Read.r11 : List AStep := [
  ⟨some 30, none, .op (.mov (.t 0))⟩,
  ⟨some 31, none, .op (.len true (.t 30))⟩,
  ⟨some 32, none, .op (.bin .gtr (.t 31) (.c (.i .i64 9)))⟩,
  ⟨some 29, none, .op (.mov (.t 32))⟩]
def digits_Read.r12 : List AStep := [
  ⟨some 2, none, .op (.mov (.c (.i .i64 0)))⟩,
  ⟨some 3, none, .op (.mov (.c (.i .i64 2)))⟩]
def digits_Read.r13 : List AStep := [
  ⟨some 34, none, .op (.mov (.t 0))⟩,
  ⟨some 35, none, .call n_strconv_Atoi [.t 34]⟩,
  ⟨some 33, none, .op (.mov (.t 35))⟩,
  ⟨some 36, none, .op (.ext 0 (.t 33))⟩,
  ⟨some 37, none, .op (.ext 1 (.t 33))⟩,
  ⟨some 5, none, .op (.mov (.t 36))⟩,
  ⟨some 6, none, .op (.mov (.t 37))⟩]
def digits_Read.r14 : List AStep := [
  ⟨some 38, none, .op (.mov (.t 6))⟩,
  ⟨some 39, none, .op (.eqk .ifn true (.t 38) (.c (.nifc)))⟩,
  ⟨some 40, none, .op (.mov (.t 39))⟩,
  ⟨some 41, (some (40, false)), .op (.mov (.t 5))⟩,
  ⟨some 42, (some (40, false)), .op (.bin .gtr (.t 41) (.c (.i .i64 268435456)))⟩,
  ⟨some 43, none, .op (.pick (.t 40) (.c (.b true)) (.t 42))⟩]
def digits_Read.r15 : List AStep := [
  ⟨some 2, none, .op (.mov (.c (.i .i64 0)))⟩,
  ⟨some 3, none, .op (.mov (.c (.i .i64 2)))⟩]
def digits_Read.r16 : List AStep := [
  ⟨some 44, none, .op (.mov (.t 5))⟩,
  ⟨some 2, none, .op (.mov (.t 44))⟩,
  ⟨some 3, none, .op (.mov (.c (.i .i64 0)))⟩]
def digits_Read : AFunc := ⟨45, [.t 2, .t 3], .seq (.post [0] (.region digits_Read.r0)) (.seq (.seq (.post [0, 8] (.region digits_Read.r1)) (.post [0] (.cond (.t 8) (.seq (.post [2, 3] (.region digits_Read.r2)) (.ret)) (.skip)))) (.seq (.seq (.post [0, 10, 11] (.region digits_Read.r3)) (.post [0] (.block 0 (.loop digits_Read.l0)))) (.seq (.post [0] (.block 2 (.seq (.post [0, 20] (.region digits_Read.r9)) (.post [0] (.cond (.t 20) (.seq (.post [2, 3] (.region digits_Read.r10)) (.ret)) (.seq (.post [0, 29] (.region digits_Read.r11)) (.post [0] (.cond (.t 29) (.seq (.post [2, 3] (.region digits_Read.r12)) (.ret)) (.skip))))))))) (.seq (.post [5, 6] (.region digits_Read.r13)) (.seq (.seq (.post [5, 43] (.region digits_Read.r14)) (.post [5] (.cond (.t 43) (.seq (.post [2, 3] (.region digits_Read.r15)) (.ret)) (.skip)))) (.seq (.post [2, 3] (.region digits_Read.r16)) (.ret)))))))⟩
theorem digits_Read.ok : okFunc Tryz.prog Tryz.f84 digits_Read = true := by kernel_rfl
theorem digits_Read.at : Tryz.prog.funcs[n_digits_Read]? = some Tryz.f84 := Tryz.func84
def names_number.r0 : List AStep := [
  ⟨some 2, none, .op (.mov (.c (.i .i64 0)))⟩,
  ⟨some 3, none, .op (.mov (.c (.b false)))⟩]
def names_number.r1 : List AStep := [
  ⟨some 7, none, .op (.mov (.t 0))⟩,
  ⟨some 8, none, .call n_digits_Read [.t 7]⟩,
  ⟨some 6, none, .op (.mov (.t 8))⟩,
  ⟨some 9, none, .op (.ext 0 (.t 6))⟩,
  ⟨some 10, none, .op (.ext 1 (.t 6))⟩,
  ⟨some 4, none, .op (.mov (.t 9))⟩,
  ⟨some 5, none, .op (.mov (.t 10))⟩]
def names_number.r2 : List AStep := [
  ⟨some 11, none, .op (.mov (.t 4))⟩,
  ⟨some 12, none, .op (.mov (.t 5))⟩,
  ⟨some 13, none, .op (.bin .eql (.t 12) (.c (.i .i64 0)))⟩,
  ⟨some 2, none, .op (.mov (.t 11))⟩,
  ⟨some 3, none, .op (.mov (.t 13))⟩]
def names_number : AFunc := ⟨14, [.t 2, .t 3], .seq (.post [0] (.region names_number.r0)) (.seq (.post [4, 5] (.region names_number.r1)) (.seq (.post [2, 3] (.region names_number.r2)) (.ret)))⟩
theorem names_number.ok : okFunc Tryz.prog Tryz.f62 names_number = true := by kernel_rfl
theorem names_number.at : Tryz.prog.funcs[n_names_number]? = some Tryz.f62 := Tryz.func62
def digits_Split.r0 : List AStep := [
  ⟨some 2, none, .op (.mov (.c (.s [])))⟩,
  ⟨some 3, none, .op (.mov (.c (.s [])))⟩]
def digits_Split.r1 : List AStep := [
  ⟨some 7, none, .op (.mov (.t 0))⟩,
  ⟨some 8, none, .op (.bin .eql (.t 7) (.c (.s [])))⟩]
def digits_Split.r2 : List AStep := [
  ⟨some 2, none, .op (.mov (.c (.s [])))⟩,
  ⟨some 3, none, .op (.mov (.c (.s [])))⟩]
def digits_Split.r3 : List AStep := [
  ⟨some 4, none, .op (.mov (.c (.i .i64 1)))⟩]
def digits_Split.r4 : List AStep := [
  ⟨some 9, none, .op (.mov (.t 0))⟩,
  ⟨some 10, none, .op (.idx (.t 9) (.c (.i .i64 0)))⟩,
  ⟨some 11, none, .call n_digits_class [.t 10]⟩,
  ⟨some 12, none, .op (.bin .neq (.t 11) (.c (.i .i64 2)))⟩]
def digits_Split.r5 : List AStep := [
  ⟨some 13, none, .op (.mov (.t 0))⟩,
  ⟨some 14, none, .call n_strings_TrimLeft [.t 13, .c (.s [48, 49, 50, 51, 52, 53, 54, 55, 56, 57])]⟩,
  ⟨some 5, none, .op (.mov (.t 14))⟩]
def digits_Split.r6 : List AStep := [
  ⟨some 15, none, .op (.mov (.t 0))⟩,
  ⟨some 16, none, .op (.mov (.t 0))⟩,
  ⟨some 17, none, .op (.len true (.t 16))⟩,
  ⟨some 18, none, .op (.mov (.t 5))⟩,
  ⟨some 19, none, .op (.len true (.t 18))⟩,
  ⟨some 20, none, .op (.bin .sub (.t 17) (.t 19))⟩,
  ⟨some 21, none, .op (.sls (.t 15) none (some (.t 20)))⟩,
  ⟨some 22, none, .op (.mov (.t 5))⟩,
  ⟨some 2, none, .op (.mov (.t 21))⟩,
  ⟨some 3, none, .op (.mov (.t 22))⟩]
def digits_Split.r7 : List AStep := [
  ⟨some 23, none, .op (.mov (.t 0))⟩,
  ⟨some 24, none, .op (.len true (.t 23))⟩,
  ⟨some 25, none, .op (.mov (.c (.i .i64 0)))⟩]
def digits_Split.r8 : List AStep := [
  ⟨some 26, none, .op (.bin .lss (.t 25) (.t 24))⟩]
def digits_Split.r9 : List AStep := [
  ⟨some 27, none, .op (.mov (.t 25))⟩,
  ⟨some 6, none, .op (.mov (.t 27))⟩]
def digits_Split.r10 : List AStep := [
  ⟨some 28, none, .op (.mov (.t 0))⟩,
  ⟨some 29, none, .op (.mov (.t 6))⟩,
  ⟨some 30, none, .op (.idx (.t 28) (.t 29))⟩,
  ⟨some 31, none, .call n_digits_class [.t 30]⟩,
  ⟨some 32, none, .op (.mov (.t 4))⟩,
  ⟨some 33, none, .op (.bin .lss (.t 31) (.t 32))⟩]
def digits_Split.r11 : List AStep := [
  ⟨some 34, none, .op (.mov (.t 0))⟩,
  ⟨some 35, none, .op (.mov (.t 6))⟩,
  ⟨some 36, none, .op (.sls (.t 34) none (some (.t 35)))⟩,
  ⟨some 37, none, .op (.mov (.t 0))⟩,
  ⟨some 38, none, .op (.mov (.t 6))⟩,
  ⟨some 39, none, .op (.sls (.t 37) (some (.t 38)) none)⟩,
  ⟨some 2, none, .op (.mov (.t 36))⟩,
  ⟨some 3, none, .op (.mov (.t 39))⟩]
def digits_Split.r12 : List AStep := [
  ⟨some 40, none, .op (.bin .add (.t 25) (.c (.i .i64 1)))⟩,
  ⟨some 25, none, .op (.mov (.t 40))⟩]
def digits_Split.l0 : ACode := .seq (.post [0, 4, 24, 25, 26] (.region digits_Split.r8)) (.seq (.post [0, 4, 24, 25] (.cond (.t 26) (.skip) (.exit 0))) (.seq (.post [0, 4, 24, 25] (.block 1 (.seq (.post [0, 4, 6, 24, 25] (.region digits_Split.r9)) (.seq (.post [0, 4, 6, 24, 25, 33] (.region digits_Split.r10)) (.post [0, 4, 24, 25] (.cond (.t 33) (.seq (.post [2, 3] (.draw [0, 0, 3, 0, 0, 24, 7, 127] digits_Split.r11)) (.ret)) (.skip))))))) (.post [0, 4, 24, 25] (.region digits_Split.r12))))
def digits_Split.r13 : List AStep := [
  ⟨some 41, none, .op (.mov (.t 0))⟩,
  ⟨some 2, none, .op (.mov (.t 41))⟩,
  ⟨some 3, none, .op (.mov (.c (.s [])))⟩]
def digits_Split : AFunc := ⟨42, [.t 2, .t 3], .seq (.post [0] (.region digits_Split.r0)) (.seq (.seq (.post [0, 8] (.region digits_Split.r1)) (.post [0] (.cond (.t 8) (.seq (.post [2, 3] (.region digits_Split.r2)) (.ret)) (.skip)))) (.seq (.post [0, 4] (.region digits_Split.r3)) (.seq (.seq (.post [0, 4, 12] (.region digits_Split.r4)) (.post [0, 4] (.cond (.t 12) (.seq (.post [0, 5] (.region digits_Split.r5)) (.seq (.post [2, 3] (.region digits_Split.r6)) (.ret))) (.skip)))) (.seq (.seq (.post [0, 4, 24, 25] (.region digits_Split.r7)) (.post [0] (.block 0 (.loop digits_Split.l0)))) (.seq (.post [2, 3] (.region digits_Split.r13)) (.ret))))))⟩
theorem digits_Split.ok : okFunc Tryz.prog Tryz.f63 digits_Split = true := by kernel_rfl
theorem digits_Split.at : Tryz.prog.funcs[n_digits_Split]? = some Tryz.f63 := Tryz.func63
def names_read.r0 : List AStep := [
  ⟨some 2, none, .op (.new [.i .i64 0, .s [], .i .i64 0, .s [], .i .i64 0, .i .i64 0])⟩,
  ⟨some 3, none, .op (.mov (.c (.b false)))⟩]
def names_read.r1 : List AStep := [
  ⟨some 9, none, .op (.build [.i .i64 0, .s [], .i .i64 0, .s [], .i .i64 0, .i .i64 0] [(5, 1, .c (.i .i64 (-1)))])⟩,
  ⟨some 4, none, .op (.new [.i .i64 0, .s [], .i .i64 0, .s [], .i .i64 0, .i .i64 0])⟩,
  ⟨none, none, .op (.store 6 (.t 4) (.t 9))⟩]
def names_read.r2 : List AStep := [
  ⟨some 5, none, .op (.mov (.c (.b true)))⟩]
def names_read.r3 : List AStep := [
  ⟨some 10, none, .op (.mov (.t 0))⟩,
  ⟨some 11, none, .call n_strings_IndexByte [.t 10, .c (.i .u8 43)]⟩,
  ⟨some 6, none, .op (.mov (.t 11))⟩]
def names_read.r4 : List AStep := [
  ⟨some 12, none, .op (.mov (.t 6))⟩,
  ⟨some 13, none, .op (.bin .geq (.t 12) (.c (.i .i64 0)))⟩]
def names_read.r5 : List AStep := [
  ⟨some 15, none, .op (.mov (.t 0))⟩,
  ⟨some 16, none, .op (.mov (.t 6))⟩,
  ⟨some 17, none, .op (.bin .add (.t 16) (.c (.i .i64 1)))⟩,
  ⟨some 18, none, .op (.sls (.t 15) (some (.t 17)) none)⟩,
  ⟨some 19, none, .call n_names_number [.t 18]⟩,
  ⟨some 14, none, .op (.mov (.t 19))⟩,
  ⟨some 20, none, .op (.ext 0 (.t 14))⟩,
  ⟨some 21, none, .op (.ext 1 (.t 14))⟩,
  ⟨some 22, none, .op (.fadr 5 (.t 4))⟩,
  ⟨none, none, .op (.store 1 (.t 22) (.t 20))⟩,
  ⟨some 5, none, .op (.mov (.t 21))⟩]
def names_read.r6 : List AStep := [
  ⟨some 23, none, .op (.mov (.t 5))⟩,
  ⟨some 24, none, .op (.un .not (.t 23))⟩]
def names_read.r7 : List AStep := [
  ⟨some 25, none, .op (.load true 6 (.t 4))⟩,
  ⟨none, none, .op (.store 6 (.t 2) (.t 25))⟩,
  ⟨some 3, none, .op (.mov (.c (.b false)))⟩]
def names_read.r8 : List AStep := [
  ⟨some 26, none, .op (.mov (.t 0))⟩,
  ⟨some 27, none, .op (.mov (.t 6))⟩,
  ⟨some 28, none, .op (.sls (.t 26) none (some (.t 27)))⟩,
  ⟨some 0, none, .op (.mov (.t 28))⟩]
def names_read.r9 : List AStep := [
  ⟨some 30, none, .op (.mov (.t 0))⟩,
  ⟨some 31, none, .call n_digits_Split [.t 30]⟩,
  ⟨some 29, none, .op (.mov (.t 31))⟩,
  ⟨some 32, none, .op (.ext 0 (.t 29))⟩,
  ⟨some 33, none, .op (.ext 1 (.t 29))⟩,
  ⟨some 7, none, .op (.mov (.t 32))⟩,
  ⟨some 8, none, .op (.mov (.t 33))⟩]
def names_read.r10 : List AStep := [
  ⟨some 34, none, .op (.mov (.t 8))⟩,
  ⟨some 35, none, .op (.bin .eql (.t 34) (.c (.s [])))⟩]
def names_read.r11 : List AStep := [
  ⟨some 36, none, .op (.mov (.t 7))⟩,
  ⟨some 37, none, .op (.fadr 0 (.t 4))⟩,
  ⟨none, none, .op (.store 1 (.t 37) (.c (.i .i64 5)))⟩,
  ⟨some 38, none, .op (.fadr 3 (.t 4))⟩,
  ⟨none, none, .op (.store 1 (.t 38) (.t 36))⟩]
def names_read.r12 : List AStep := [
  ⟨some 39, none, .op (.load true 6 (.t 4))⟩,
  ⟨none, none, .op (.store 6 (.t 2) (.t 39))⟩,
  ⟨some 3, none, .op (.mov (.c (.b true)))⟩]
def names_read.r13 : List AStep := [
  ⟨some 40, none, .op (.mov (.t 7))⟩,
  ⟨some 41, none, .op (.fadr 1 (.t 4))⟩,
  ⟨none, none, .op (.store 1 (.t 41) (.t 40))⟩]
def names_read.r14 : List AStep := [
  ⟨some 42, none, .op (.mov (.t 8))⟩,
  ⟨some 43, none, .op (.idx (.t 42) (.c (.i .i64 0)))⟩,
  ⟨some 44, none, .op (.bin .eql (.t 43) (.c (.i .u8 126)))⟩]
def names_read.r15 : List AStep := [
  ⟨some 46, none, .op (.mov (.t 8))⟩,
  ⟨some 47, none, .op (.sls (.t 46) (some (.c (.i .i64 1))) none)⟩,
  ⟨some 48, none, .call n_digits_Split [.t 47]⟩,
  ⟨some 45, none, .op (.mov (.t 48))⟩,
  ⟨some 49, none, .op (.ext 0 (.t 45))⟩,
  ⟨some 50, none, .op (.ext 1 (.t 45))⟩,
  ⟨some 7, none, .op (.mov (.t 49))⟩,
  ⟨some 8, none, .op (.mov (.t 50))⟩]
def names_read.r16 : List AStep := [
  ⟨some 52, none, .op (.mov (.t 7))⟩,
  ⟨some 53, none, .call n_names_number [.t 52]⟩,
  ⟨some 51, none, .op (.mov (.t 53))⟩,
  ⟨some 54, none, .op (.ext 0 (.t 51))⟩,
  ⟨some 55, none, .op (.ext 1 (.t 51))⟩,
  ⟨some 56, none, .op (.fadr 2 (.t 4))⟩,
  ⟨none, none, .op (.store 1 (.t 56) (.t 54))⟩,
  ⟨some 5, none, .op (.mov (.t 55))⟩]
def names_read.r17 : List AStep := [
  ⟨some 57, none, .op (.mov (.t 5))⟩,
  ⟨some 58, none, .op (.un .not (.t 57))⟩,
  ⟨some 59, none, .op (.mov (.t 58))⟩,
  ⟨some 60, (some (59, false)), .op (.mov (.t 8))⟩,
  ⟨some 61, (some (59, false)), .op (.bin .eql (.t 60) (.c (.s [])))⟩,
  ⟨some 62, none, .op (.pick (.t 59) (.c (.b true)) (.t 61))⟩]
def names_read.r18 : List AStep := [
  ⟨some 63, none, .op (.load true 6 (.t 4))⟩,
  ⟨none, none, .op (.store 6 (.t 2) (.t 63))⟩,
  ⟨some 3, none, .op (.mov (.c (.b false)))⟩]
def names_read.r19 : List AStep := [
  ⟨some 64, none, .op (.mov (.t 8))⟩,
  ⟨some 65, none, .op (.idx (.t 64) (.c (.i .i64 0)))⟩,
  ⟨some 66, none, .call n_strings_IndexByte [.c (.s [32, 46, 36, 64, 40, 32, 37, 35]), .t 65]⟩,
  ⟨some 67, none, .op (.fadr 0 (.t 4))⟩,
  ⟨none, none, .op (.store 1 (.t 67) (.t 66))⟩]
def names_read.r20 : List AStep := [
  ⟨some 68, none, .op (.mov (.t 8))⟩,
  ⟨some 69, none, .op (.sls (.t 68) (some (.c (.i .i64 1))) none)⟩,
  ⟨some 8, none, .op (.mov (.t 69))⟩]
def names_read.r21 : List AStep := [
  ⟨some 70, none, .op (.fadr 0 (.t 4))⟩,
  ⟨some 71, none, .op (.load false 1 (.t 70))⟩]
def names_read.r22 : List AStep := [
  ⟨some 73, none, .op (.bin .eql (.t 71) (.c (.i .i64 1)))⟩,
  ⟨some 72, none, .op (.mov (.t 73))⟩]
def names_read.r23 : List AStep := [
  ⟨some 74, none, .op (.bin .eql (.t 71) (.c (.i .i64 6)))⟩,
  ⟨some 72, none, .op (.mov (.t 74))⟩]
def names_read.r24 : List AStep := [
  ⟨some 75, none, .op (.mov (.t 8))⟩,
  ⟨some 76, none, .op (.fadr 3 (.t 4))⟩,
  ⟨none, none, .op (.store 1 (.t 76) (.t 75))⟩]
def names_read.r25 : List AStep := [
  ⟨some 78, none, .op (.bin .eql (.t 71) (.c (.i .i64 4)))⟩,
  ⟨some 77, none, .op (.mov (.t 78))⟩]
def names_read.r26 : List AStep := [
  ⟨some 79, none, .op (.load true 6 (.t 4))⟩,
  ⟨some 80, none, .op (.mov (.t 8))⟩,
  ⟨some 81, none, .op (.bin .eql (.t 80) (.c (.s [41])))⟩,
  ⟨none, none, .op (.store 6 (.t 2) (.t 79))⟩,
  ⟨some 3, none, .op (.mov (.t 81))⟩]
def names_read.r27 : List AStep := [
  ⟨some 83, none, .op (.bin .eql (.t 71) (.c (.i .i64 2)))⟩,
  ⟨some 82, none, .op (.mov (.t 83))⟩]
def names_read.r28 : List AStep := [
  ⟨some 84, none, .op (.bin .eql (.t 71) (.c (.i .i64 3)))⟩,
  ⟨some 82, none, .op (.mov (.t 84))⟩]
def names_read.r29 : List AStep := [
  ⟨some 85, none, .op (.bin .eql (.t 71) (.c (.i .i64 7)))⟩,
  ⟨some 82, none, .op (.mov (.t 85))⟩]
def names_read.r30 : List AStep := [
  ⟨some 87, none, .op (.mov (.t 8))⟩,
  ⟨some 88, none, .call n_names_number [.t 87]⟩,
  ⟨some 86, none, .op (.mov (.t 88))⟩,
  ⟨some 89, none, .op (.ext 0 (.t 86))⟩,
  ⟨some 90, none, .op (.ext 1 (.t 86))⟩,
  ⟨some 91, none, .op (.fadr 4 (.t 4))⟩,
  ⟨none, none, .op (.store 1 (.t 91) (.t 89))⟩,
  ⟨some 5, none, .op (.mov (.t 90))⟩]
def names_read.r31 : List AStep := [
  ⟨some 5, none, .op (.mov (.c (.b false)))⟩]
def names_read.r32 : List AStep := [
  ⟨some 92, none, .op (.load true 6 (.t 4))⟩,
  ⟨some 93, none, .op (.mov (.t 5))⟩,
  ⟨none, none, .op (.store 6 (.t 2) (.t 92))⟩,
  ⟨some 3, none, .op (.mov (.t 93))⟩]
def names_read : AFunc := ⟨94, [.cell 2 true 6, .t 3], .seq (.post [0, 2] (.region names_read.r0)) (.seq (.post [0, 2, 4] (.region names_read.r1)) (.seq (.post [0, 2, 4, 5] (.region names_read.r2)) (.seq (.seq (.post [0, 2, 4, 5, 6] (.region names_read.r3)) (.seq (.post [0, 2, 4, 5, 6, 13] (.region names_read.r4)) (.post [0, 2, 4, 5] (.cond (.t 13) (.seq (.seq (.post [0, 2, 4, 5, 6] (.region names_read.r5)) (.seq (.post [0, 2, 4, 5, 6, 24] (.region names_read.r6)) (.post [0, 2, 4, 5, 6] (.cond (.t 24) (.seq (.post [2, 3] (.region names_read.r7)) (.ret)) (.skip))))) (.post [0, 2, 4, 5] (.region names_read.r8))) (.skip))))) (.seq (.post [2, 4, 5, 7, 8] (.region names_read.r9)) (.seq (.seq (.post [2, 4, 5, 7, 8, 35] (.region names_read.r10)) (.post [2, 4, 5, 7, 8] (.cond (.t 35) (.seq (.post [2, 4] (.region names_read.r11)) (.seq (.post [2, 3] (.region names_read.r12)) (.ret))) (.skip)))) (.seq (.post [2, 4, 5, 8] (.region names_read.r13)) (.seq (.seq (.post [2, 4, 5, 8, 44] (.region names_read.r14)) (.post [2, 4, 5, 8] (.cond (.t 44) (.seq (.post [2, 4, 7, 8] (.region names_read.r15)) (.seq (.post [2, 4, 5, 8] (.region names_read.r16)) (.seq (.post [2, 4, 5, 8, 62] (.region names_read.r17)) (.post [2, 4, 5, 8] (.cond (.t 62) (.seq (.post [2, 3] (.region names_read.r18)) (.ret)) (.skip)))))) (.skip)))) (.seq (.post [2, 4, 5, 8] (.region names_read.r19)) (.seq (.seq (.post [2, 4, 5, 8] (.region names_read.r20)) (.seq (.post [2, 4, 5, 8, 71] (.region names_read.r21)) (.post [2, 4, 5] (.block 0 (.seq (.seq (.post [2, 4, 5, 8, 71, 72] (.region names_read.r22)) (.post [2, 4, 5, 8, 71, 72] (.cond (.t 72) (.skip) (.post [2, 4, 5, 8, 71, 72] (.region names_read.r23))))) (.post [2, 4, 5] (.cond (.t 72) (.post [2, 4, 5] (.region names_read.r24)) (.seq (.post [2, 4, 8, 71, 77] (.region names_read.r25)) (.post [2, 4, 5] (.cond (.t 77) (.seq (.post [2, 3] (.region names_read.r26)) (.ret)) (.seq (.seq (.post [2, 4, 8, 71, 82] (.region names_read.r27)) (.post [2, 4, 8, 82] (.cond (.t 82) (.skip) (.seq (.post [2, 4, 8, 71, 82] (.region names_read.r28)) (.post [2, 4, 8, 82] (.cond (.t 82) (.skip) (.post [2, 4, 8, 82] (.region names_read.r29)))))))) (.post [2, 4, 5] (.cond (.t 82) (.post [2, 4, 5] (.region names_read.r30)) (.post [2, 4, 5] (.region names_read.r31))))))))))))))) (.seq (.post [2, 3] (.region names_read.r32)) (.ret)))))))))))⟩
theorem names_read.ok : okFunc Tryz.prog Tryz.f44 names_read = true := by kernel_rfl
theorem names_read.at : Tryz.prog.funcs[n_names_read]? = some Tryz.f44 := Tryz.func44
def digits_Name.r0 : List AStep := [
  ⟨some 2, none, .op (.mov (.c (.b false)))⟩]
def digits_Name.r1 : List AStep := [
  ⟨some 6, none, .op (.mov (.t 0))⟩,
  ⟨some 7, none, .call n_digits_Split [.t 6]⟩,
  ⟨some 5, none, .op (.mov (.t 7))⟩,
  ⟨some 8, none, .op (.ext 0 (.t 5))⟩,
  ⟨some 9, none, .op (.ext 1 (.t 5))⟩,
  ⟨some 3, none, .op (.mov (.t 8))⟩,
  ⟨some 4, none, .op (.mov (.t 9))⟩]
def digits_Name.r2 : List AStep := [
  ⟨some 10, none, .op (.mov (.t 3))⟩,
  ⟨some 11, none, .op (.bin .neq (.t 10) (.c (.s [])))⟩,
  ⟨some 12, none, .op (.mov (.t 11))⟩,
  ⟨some 13, (some (12, true)), .op (.mov (.t 4))⟩,
  ⟨some 14, (some (12, true)), .op (.bin .eql (.t 13) (.c (.s [])))⟩,
  ⟨some 15, none, .op (.pick (.t 12) (.t 14) (.c (.b false)))⟩,
  ⟨some 16, none, .op (.mov (.t 15))⟩,
  ⟨some 17, (some (16, true)), .op (.mov (.t 0))⟩,
  ⟨some 18, (some (16, true)), .op (.len true (.t 17))⟩,
  ⟨some 19, (some (16, true)), .op (.bin .leq (.t 18) (.c (.i .i64 16)))⟩,
  ⟨some 20, none, .op (.pick (.t 16) (.t 19) (.c (.b false)))⟩,
  ⟨some 21, none, .op (.mov (.t 20))⟩,
  ⟨some 22, (some (21, true)), .op (.mov (.t 0))⟩,
  ⟨some 23, (some (21, true)), .op (.idx (.t 22) (.c (.i .i64 0)))⟩,
  ⟨some 24, (some (21, true)), .call n_digits_class [.t 23]⟩,
  ⟨some 25, (some (21, true)), .op (.bin .eql (.t 24) (.c (.i .i64 2)))⟩,
  ⟨some 26, none, .op (.pick (.t 21) (.t 25) (.c (.b false)))⟩,
  ⟨some 2, none, .op (.mov (.t 26))⟩]
def digits_Name : AFunc := ⟨27, [.t 2], .seq (.post [0] (.region digits_Name.r0)) (.seq (.post [0, 3, 4] (.region digits_Name.r1)) (.seq (.post [2] (.region digits_Name.r2)) (.ret)))⟩
theorem digits_Name.ok : okFunc Tryz.prog Tryz.f64 digits_Name = true := by kernel_rfl
theorem digits_Name.at : Tryz.prog.funcs[n_digits_Name]? = some Tryz.f64 := Tryz.func64
def names_Node_cellRight.r0 : List AStep := [
  ⟨some 1, none, .op (.boxf (.t 0))⟩,
  ⟨some 2, none, .op (.mov (.c (.b false)))⟩]
def names_Node_cellRight.r1 : List AStep := [
  ⟨some 3, none, .op (.fadr 5 (.t 1))⟩,
  ⟨some 4, none, .op (.load false 1 (.t 3))⟩,
  ⟨some 5, none, .op (.bin .geq (.t 4) (.c (.i .i64 (-1))))⟩,
  ⟨some 6, none, .op (.mov (.t 5))⟩,
  ⟨some 7, (some (6, true)), .op (.fadr 5 (.t 1))⟩,
  ⟨some 8, (some (6, true)), .op (.load false 1 (.t 7))⟩,
  ⟨some 9, (some (6, true)), .op (.bin .leq (.t 8) (.c (.i .i64 268435456)))⟩,
  ⟨some 10, none, .op (.pick (.t 6) (.t 9) (.c (.b false)))⟩,
  ⟨some 2, none, .op (.mov (.t 10))⟩]
def names_Node_cellRight : AFunc := ⟨11, [.t 2], .seq (.post [1] (.region names_Node_cellRight.r0)) (.seq (.post [2] (.region names_Node_cellRight.r1)) (.ret))⟩
theorem names_Node_cellRight.ok : okFunc Tryz.prog Tryz.f65 names_Node_cellRight = true := by kernel_rfl
theorem names_Node_cellRight.at : Tryz.prog.funcs[n_names_Node_cellRight]? = some Tryz.f65 := Tryz.func65
def names_Node_right.r0 : List AStep := [
  ⟨some 1, none, .op (.boxf (.t 0))⟩,
  ⟨some 2, none, .op (.mov (.c (.b false)))⟩]
def names_Node_right.r1 : List AStep := [
  ⟨some 5, none, .op (.load true 6 (.t 1))⟩,
  ⟨some 3, none, .op (.new [.i .i64 0, .s [], .i .i64 0, .s [], .i .i64 0, .i .i64 0])⟩,
  ⟨none, none, .op (.store 6 (.t 3) (.t 5))⟩]
def names_Node_right.r2 : List AStep := [
  ⟨some 6, none, .op (.fadr 0 (.t 3))⟩,
  ⟨none, none, .op (.store 1 (.t 6) (.c (.i .i64 0)))⟩,
  ⟨some 7, none, .op (.fadr 1 (.t 3))⟩,
  ⟨none, none, .op (.store 1 (.t 7) (.c (.s [])))⟩,
  ⟨some 8, none, .op (.fadr 2 (.t 3))⟩,
  ⟨none, none, .op (.store 1 (.t 8) (.c (.i .i64 0)))⟩]
def names_Node_right.r3 : List AStep := [
  ⟨some 9, none, .op (.fadr 0 (.t 1))⟩,
  ⟨some 10, none, .op (.load false 1 (.t 9))⟩,
  ⟨some 11, none, .op (.bin .neq (.t 10) (.c (.i .i64 5)))⟩,
  ⟨some 12, none, .op (.mov (.t 11))⟩,
  ⟨some 13, (some (12, true)), .op (.fadr 1 (.t 1))⟩,
  ⟨some 14, (some (12, true)), .op (.load false 1 (.t 13))⟩,
  ⟨some 15, (some (12, true)), .call n_digits_Name [.t 14]⟩,
  ⟨some 16, (some (12, true)), .op (.un .not (.t 15))⟩,
  ⟨some 17, (some (12, true)), .op (.mov (.t 16))⟩,
  ⟨some 18, (some (17, false)), .op (.fadr 2 (.t 1))⟩,
  ⟨some 19, (some (17, false)), .op (.load false 1 (.t 18))⟩,
  ⟨some 20, (some (17, false)), .op (.bin .lss (.t 19) (.c (.i .i64 0)))⟩,
  ⟨some 21, (some (12, true)), .op (.pick (.t 17) (.c (.b true)) (.t 20))⟩,
  ⟨some 22, (some (12, true)), .op (.mov (.t 21))⟩,
  ⟨some 23, (some (22, false)), .op (.fadr 2 (.t 1))⟩,
  ⟨some 24, (some (22, false)), .op (.load false 1 (.t 23))⟩,
  ⟨some 25, (some (22, false)), .op (.bin .gtr (.t 24) (.c (.i .i64 268435456)))⟩,
  ⟨some 26, (some (12, true)), .op (.pick (.t 22) (.c (.b true)) (.t 25))⟩,
  ⟨some 27, none, .op (.pick (.t 12) (.t 26) (.c (.b false)))⟩]
def names_Node_right.r4 : List AStep := [
  ⟨some 2, none, .op (.mov (.c (.b false)))⟩]
def names_Node_right.r5 : List AStep := [
  ⟨some 4, none, .op (.mov (.c (.i .i64 0)))⟩]
def names_Node_right.r6 : List AStep := [
  ⟨some 28, none, .op (.fadr 0 (.t 1))⟩,
  ⟨some 29, none, .op (.load false 1 (.t 28))⟩]
def names_Node_right.r7 : List AStep := [
  ⟨some 31, none, .op (.bin .eql (.t 29) (.c (.i .i64 5)))⟩,
  ⟨some 30, none, .op (.mov (.t 31))⟩]
def names_Node_right.r8 : List AStep := [
  ⟨some 33, none, .op (.bin .eql (.t 29) (.c (.i .i64 6)))⟩,
  ⟨some 32, none, .op (.mov (.t 33))⟩]
def names_Node_right.r9 : List AStep := [
  ⟨some 35, none, .op (.bin .eql (.t 29) (.c (.i .i64 1)))⟩,
  ⟨some 34, none, .op (.mov (.t 35))⟩]
def names_Node_right.r10 : List AStep := [
  ⟨some 37, none, .op (.bin .eql (.t 29) (.c (.i .i64 7)))⟩,
  ⟨some 36, none, .op (.mov (.t 37))⟩]
def names_Node_right.r11 : List AStep := [
  ⟨some 39, none, .op (.bin .eql (.t 29) (.c (.i .i64 4)))⟩,
  ⟨some 38, none, .op (.mov (.t 39))⟩]
def names_Node_right.r12 : List AStep := [
  ⟨some 41, none, .op (.bin .eql (.t 29) (.c (.i .i64 3)))⟩,
  ⟨some 40, none, .op (.mov (.t 41))⟩]
def names_Node_right.r13 : List AStep := [
  ⟨some 43, none, .op (.bin .eql (.t 29) (.c (.i .i64 2)))⟩,
  ⟨some 42, none, .op (.mov (.t 43))⟩]
def names_Node_right.r14 : List AStep := [
  ⟨some 44, none, .op (.fadr 1 (.t 1))⟩,
  ⟨some 45, none, .op (.load false 1 (.t 44))⟩,
  ⟨some 46, none, .op (.bin .neq (.t 45) (.c (.s [])))⟩,
  ⟨some 47, none, .op (.mov (.t 46))⟩,
  ⟨some 48, (some (47, false)), .op (.fadr 2 (.t 1))⟩,
  ⟨some 49, (some (47, false)), .op (.load false 1 (.t 48))⟩,
  ⟨some 50, (some (47, false)), .op (.bin .neq (.t 49) (.c (.i .i64 0)))⟩,
  ⟨some 51, none, .op (.pick (.t 47) (.c (.b true)) (.t 50))⟩]
def names_Node_right.r15 : List AStep := [
  ⟨some 2, none, .op (.mov (.c (.b false)))⟩]
def names_Node_right.r16 : List AStep := [
  ⟨some 52, none, .op (.fadr 3 (.t 1))⟩,
  ⟨some 53, none, .op (.load false 1 (.t 52))⟩,
  ⟨some 54, none, .call n_digits_Name [.t 53]⟩,
  ⟨some 55, none, .op (.mov (.t 54))⟩,
  ⟨some 56, (some (55, true)), .op (.load true 6 (.t 3))⟩,
  ⟨some 57, (some (55, true)), .op (.fadr 3 (.t 1))⟩,
  ⟨some 58, (some (55, true)), .op (.load false 1 (.t 57))⟩,
  ⟨some 59, (some (55, true)), .op (.fadr 5 (.t 1))⟩,
  ⟨some 60, (some (55, true)), .op (.load false 1 (.t 59))⟩,
  ⟨some 61, (some (55, true)), .op (.build [.i .i64 0, .s [], .i .i64 0, .s [], .i .i64 0, .i .i64 0] [(3, 1, .t 58), (5, 1, .t 60)])⟩,
  ⟨some 62, (some (55, true)), .op (.eqa false [0, 1, 0, 1, 0, 0] (.t 56) (.t 61))⟩,
  ⟨some 63, none, .op (.pick (.t 55) (.t 62) (.c (.b false)))⟩,
  ⟨some 64, none, .op (.mov (.t 63))⟩,
  ⟨some 65, (some (64, true)), .op (.load true 6 (.t 1))⟩,
  ⟨some 66, (some (64, true)), .call n_names_Node_cellRight [.t 65]⟩,
  ⟨some 67, none, .op (.pick (.t 64) (.t 66) (.c (.b false)))⟩,
  ⟨some 2, none, .op (.mov (.t 67))⟩]
def names_Node_right.r17 : List AStep := [
  ⟨some 68, none, .op (.fadr 3 (.t 1))⟩,
  ⟨some 69, none, .op (.load false 1 (.t 68))⟩,
  ⟨some 70, none, .call n_digits_Name [.t 69]⟩,
  ⟨some 71, none, .op (.mov (.t 70))⟩,
  ⟨some 72, (some (71, true)), .op (.load true 6 (.t 3))⟩,
  ⟨some 73, (some (71, true)), .op (.fadr 3 (.t 1))⟩,
  ⟨some 74, (some (71, true)), .op (.load false 1 (.t 73))⟩,
  ⟨some 75, (some (71, true)), .op (.build [.i .i64 0, .s [], .i .i64 0, .s [], .i .i64 0, .i .i64 0] [(3, 1, .t 74), (5, 1, .c (.i .i64 (-1)))])⟩,
  ⟨some 76, (some (71, true)), .op (.eqa false [0, 1, 0, 1, 0, 0] (.t 72) (.t 75))⟩,
  ⟨some 77, none, .op (.pick (.t 71) (.t 76) (.c (.b false)))⟩,
  ⟨some 2, none, .op (.mov (.t 77))⟩]
def names_Node_right.r18 : List AStep := [
  ⟨some 78, none, .op (.fadr 4 (.t 1))⟩,
  ⟨some 79, none, .op (.load false 1 (.t 78))⟩,
  ⟨some 80, none, .op (.bin .geq (.t 79) (.c (.i .i64 1)))⟩,
  ⟨some 81, none, .op (.mov (.t 80))⟩,
  ⟨some 82, (some (81, true)), .op (.fadr 4 (.t 1))⟩,
  ⟨some 83, (some (81, true)), .op (.load false 1 (.t 82))⟩,
  ⟨some 84, (some (81, true)), .op (.bin .leq (.t 83) (.c (.i .i64 268435456)))⟩,
  ⟨some 85, none, .op (.pick (.t 81) (.t 84) (.c (.b false)))⟩,
  ⟨some 86, none, .op (.mov (.t 85))⟩,
  ⟨some 87, (some (86, true)), .op (.load true 6 (.t 3))⟩,
  ⟨some 88, (some (86, true)), .op (.fadr 4 (.t 1))⟩,
  ⟨some 89, (some (86, true)), .op (.load false 1 (.t 88))⟩,
  ⟨some 90, (some (86, true)), .op (.fadr 5 (.t 1))⟩,
  ⟨some 91, (some (86, true)), .op (.load false 1 (.t 90))⟩,
  ⟨some 92, (some (86, true)), .op (.build [.i .i64 0, .s [], .i .i64 0, .s [], .i .i64 0, .i .i64 0] [(4, 1, .t 89), (5, 1, .t 91)])⟩,
  ⟨some 93, (some (86, true)), .op (.eqa false [0, 1, 0, 1, 0, 0] (.t 87) (.t 92))⟩,
  ⟨some 94, none, .op (.pick (.t 86) (.t 93) (.c (.b false)))⟩,
  ⟨some 95, none, .op (.mov (.t 94))⟩,
  ⟨some 96, (some (95, true)), .op (.load true 6 (.t 1))⟩,
  ⟨some 97, (some (95, true)), .call n_names_Node_cellRight [.t 96]⟩,
  ⟨some 98, none, .op (.pick (.t 95) (.t 97) (.c (.b false)))⟩,
  ⟨some 2, none, .op (.mov (.t 98))⟩]
def names_Node_right.r19 : List AStep := [
  ⟨some 99, none, .op (.load true 6 (.t 3))⟩,
  ⟨some 100, none, .op (.build [.i .i64 0, .s [], .i .i64 0, .s [], .i .i64 0, .i .i64 0] [(5, 1, .c (.i .i64 (-1)))])⟩,
  ⟨some 101, none, .op (.eqa false [0, 1, 0, 1, 0, 0] (.t 99) (.t 100))⟩,
  ⟨some 2, none, .op (.mov (.t 101))⟩]
def names_Node_right.r20 : List AStep := [
  ⟨some 4, none, .op (.mov (.c (.i .i64 1)))⟩]
def names_Node_right.r21 : List AStep := [
  ⟨some 102, none, .op (.fadr 4 (.t 1))⟩,
  ⟨some 103, none, .op (.load false 1 (.t 102))⟩,
  ⟨some 104, none, .op (.mov (.t 4))⟩,
  ⟨some 105, none, .op (.bin .geq (.t 103) (.t 104))⟩,
  ⟨some 106, none, .op (.mov (.t 105))⟩,
  ⟨some 107, (some (106, true)), .op (.fadr 4 (.t 1))⟩,
  ⟨some 108, (some (106, true)), .op (.load false 1 (.t 107))⟩,
  ⟨some 109, (some (106, true)), .op (.bin .leq (.t 108) (.c (.i .i64 268435456)))⟩,
  ⟨some 110, none, .op (.pick (.t 106) (.t 109) (.c (.b false)))⟩,
  ⟨some 111, none, .op (.mov (.t 110))⟩,
  ⟨some 112, (some (111, true)), .op (.load true 6 (.t 3))⟩,
  ⟨some 113, (some (111, true)), .op (.fadr 4 (.t 1))⟩,
  ⟨some 114, (some (111, true)), .op (.load false 1 (.t 113))⟩,
  ⟨some 115, (some (111, true)), .op (.build [.i .i64 0, .s [], .i .i64 0, .s [], .i .i64 0, .i .i64 0] [(4, 1, .t 114), (5, 1, .c (.i .i64 (-1)))])⟩,
  ⟨some 116, (some (111, true)), .op (.eqa false [0, 1, 0, 1, 0, 0] (.t 112) (.t 115))⟩,
  ⟨some 117, none, .op (.pick (.t 111) (.t 116) (.c (.b false)))⟩,
  ⟨some 2, none, .op (.mov (.t 117))⟩]
def names_Node_right.r22 : List AStep := [
  ⟨some 2, none, .op (.mov (.c (.b false)))⟩]
def names_Node_right : AFunc := ⟨118, [.t 2], .seq (.post [1] (.region names_Node_right.r0)) (.seq (.post [1, 3] (.region names_Node_right.r1)) (.seq (.post [1, 3] (.region names_Node_right.r2)) (.seq (.seq (.post [1, 3, 27] (.region names_Node_right.r3)) (.post [1, 3] (.cond (.t 27) (.seq (.post [2] (.region names_Node_right.r4)) (.ret)) (.skip)))) (.seq (.post [1, 3, 4] (.region names_Node_right.r5)) (.seq (.seq (.post [1, 3, 4, 29] (.region names_Node_right.r6)) (.post [] (.block 0 (.seq (.post [1, 3, 4] (.block 7 (.seq (.post [1, 3] (.block 6 (.seq (.post [3] (.block 5 (.seq (.post [1, 3] (.block 4 (.seq (.post [1, 3] (.block 3 (.seq (.post [1, 3] (.block 2 (.seq (.post [1, 3] (.block 1 (.seq (.seq (.seq (.post [1, 3, 4, 29, 30] (.region names_Node_right.r7)) (.post [1, 3, 4, 29] (.cond (.t 30) (.exit 1) (.skip)))) (.seq (.seq (.post [1, 3, 4, 29, 32] (.region names_Node_right.r8)) (.post [1, 3, 4, 29] (.cond (.t 32) (.exit 2) (.skip)))) (.seq (.seq (.post [1, 3, 4, 29, 34] (.region names_Node_right.r9)) (.post [1, 3, 4, 29] (.cond (.t 34) (.exit 3) (.skip)))) (.seq (.seq (.post [1, 3, 4, 29, 36] (.region names_Node_right.r10)) (.post [1, 3, 4, 29] (.cond (.t 36) (.exit 4) (.skip)))) (.seq (.seq (.post [1, 3, 4, 29, 38] (.region names_Node_right.r11)) (.post [1, 3, 4, 29] (.cond (.t 38) (.exit 5) (.skip)))) (.seq (.seq (.post [1, 3, 4, 29, 40] (.region names_Node_right.r12)) (.post [1, 3, 4, 29] (.cond (.t 40) (.exit 6) (.skip)))) (.seq (.post [1, 3, 4, 42] (.region names_Node_right.r13)) (.post [] (.cond (.t 42) (.exit 7) (.skip)))))))))) (.exit 0)))) (.seq (.post [1, 3, 51] (.region names_Node_right.r14)) (.post [1, 3] (.cond (.t 51) (.seq (.post [2] (.region names_Node_right.r15)) (.ret)) (.skip))))))) (.seq (.seq (.post [2] (.region names_Node_right.r16)) (.ret)) (.exit 0))))) (.seq (.seq (.post [2] (.region names_Node_right.r17)) (.ret)) (.exit 0))))) (.seq (.seq (.post [2] (.region names_Node_right.r18)) (.ret)) (.exit 0))))) (.seq (.seq (.post [2] (.region names_Node_right.r19)) (.ret)) (.exit 0))))) (.post [1, 3, 4] (.region names_Node_right.r20))))) (.seq (.seq (.post [2] (.region names_Node_right.r21)) (.ret)) (.exit 0)))))) (.seq (.post [2] (.region names_Node_right.r22)) (.ret)))))))⟩
theorem names_Node_right.ok : okFunc Tryz.prog Tryz.f45 names_Node_right = true := by kernel_rfl
theorem names_Node_right.at : Tryz.prog.funcs[n_names_Node_right]? = some Tryz.f45 := Tryz.func45
def names_Read.r0 : List AStep := [
  ⟨some 2, none, .op (.new [.i .i64 0, .s [], .i .i64 0, .s [], .i .i64 0, .i .i64 0])⟩,
  ⟨some 3, none, .op (.mov (.c (.i .i64 0)))⟩]
def names_Read.r1 : List AStep := [
  ⟨some 7, none, .op (.mov (.t 0))⟩,
  ⟨some 8, none, .call n_names_read [.t 7]⟩,
  ⟨some 6, none, .op (.mov (.t 8))⟩,
  ⟨some 9, none, .op (.ext 0 (.t 6))⟩,
  ⟨some 10, none, .op (.ext 1 (.t 6))⟩,
  ⟨some 4, none, .op (.new [.i .i64 0, .s [], .i .i64 0, .s [], .i .i64 0, .i .i64 0])⟩,
  ⟨none, none, .op (.store 6 (.t 4) (.t 9))⟩,
  ⟨some 5, none, .op (.mov (.t 10))⟩]
def names_Read.r2 : List AStep := [
  ⟨some 11, none, .op (.mov (.t 5))⟩,
  ⟨some 12, none, .op (.un .not (.t 11))⟩,
  ⟨some 13, none, .op (.mov (.t 12))⟩,
  ⟨some 14, (some (13, false)), .op (.load true 6 (.t 4))⟩,
  ⟨some 15, (some (13, false)), .call n_names_Node_right [.t 14]⟩,
  ⟨some 16, (some (13, false)), .op (.un .not (.t 15))⟩,
  ⟨some 17, none, .op (.pick (.t 13) (.c (.b true)) (.t 16))⟩,
  ⟨some 18, none, .op (.mov (.t 17))⟩,
  ⟨some 19, (some (18, false)), .op (.load true 6 (.t 4))⟩,
  ⟨some 20, (some (18, false)), .call n_names_Node_write [.t 19]⟩,
  ⟨some 21, (some (18, false)), .op (.mov (.t 0))⟩,
  ⟨some 22, (some (18, false)), .op (.bin .neq (.t 20) (.t 21))⟩,
  ⟨some 23, none, .op (.pick (.t 18) (.c (.b true)) (.t 22))⟩]
def names_Read.r3 : List AStep := [
  ⟨some 24, none, .op (.build [.i .i64 0, .s [], .i .i64 0, .s [], .i .i64 0, .i .i64 0] [])⟩,
  ⟨none, none, .op (.store 6 (.t 2) (.t 24))⟩,
  ⟨some 3, none, .op (.mov (.c (.i .i64 11)))⟩]
def names_Read.r4 : List AStep := [
  ⟨some 25, none, .op (.load true 6 (.t 4))⟩,
  ⟨none, none, .op (.store 6 (.t 2) (.t 25))⟩,
  ⟨some 3, none, .op (.mov (.c (.i .i64 0)))⟩]
def names_Read : AFunc := ⟨26, [.cell 2 true 6, .t 3], .seq (.post [0, 2] (.region names_Read.r0)) (.seq (.post [0, 2, 4, 5] (.region names_Read.r1)) (.seq (.seq (.post [2, 4, 23] (.region names_Read.r2)) (.post [2, 4] (.cond (.t 23) (.seq (.post [2, 3] (.region names_Read.r3)) (.ret)) (.skip)))) (.seq (.post [2, 3] (.region names_Read.r4)) (.ret))))⟩
theorem names_Read.ok : okFunc Tryz.prog Tryz.f30 names_Read = true := by kernel_rfl
theorem names_Read.at : Tryz.prog.funcs[n_names_Read]? = some Tryz.f30 := Tryz.func30
def cmp_isNaN_string.r0 : List AStep := [
  ⟨some 2, none, .op (.mov (.c (.b false)))⟩]
def cmp_isNaN_string.r1 : List AStep := [
  ⟨some 3, none, .op (.mov (.t 0))⟩,
  ⟨some 4, none, .op (.mov (.t 0))⟩,
  ⟨some 5, none, .op (.bin .neq (.t 3) (.t 4))⟩,
  ⟨some 2, none, .op (.mov (.t 5))⟩]
def cmp_isNaN_string : AFunc := ⟨6, [.t 2], .seq (.post [0] (.region cmp_isNaN_string.r0)) (.seq (.post [2] (.region cmp_isNaN_string.r1)) (.ret))⟩
theorem cmp_isNaN_string.ok : okFunc Tryz.prog Tryz.f82 cmp_isNaN_string = true := by kernel_rfl
theorem cmp_isNaN_string.at : Tryz.prog.funcs[n_cmp_isNaN_string]? = some Tryz.f82 := Tryz.func82
def cmp_Compare_string.r0 : List AStep := [
  ⟨some 4, none, .op (.mov (.c (.i .i64 0)))⟩]
def cmp_Compare_string.r1 : List AStep := [
  ⟨some 7, none, .op (.mov (.t 0))⟩,
  ⟨some 8, none, .call n_cmp_isNaN_string [.t 7]⟩,
  ⟨some 5, none, .op (.mov (.t 8))⟩]
def cmp_Compare_string.r2 : List AStep := [
  ⟨some 9, none, .op (.mov (.t 1))⟩,
  ⟨some 10, none, .call n_cmp_isNaN_string [.t 9]⟩,
  ⟨some 6, none, .op (.mov (.t 10))⟩]
def cmp_Compare_string.r3 : List AStep := [
  ⟨some 11, none, .op (.mov (.t 5))⟩]
def cmp_Compare_string.r4 : List AStep := [
  ⟨some 12, none, .op (.mov (.t 6))⟩]
def cmp_Compare_string.r5 : List AStep := [
  ⟨some 4, none, .op (.mov (.c (.i .i64 0)))⟩]
def cmp_Compare_string.r6 : List AStep := [
  ⟨some 4, none, .op (.mov (.c (.i .i64 (-1))))⟩]
def cmp_Compare_string.r7 : List AStep := [
  ⟨some 13, none, .op (.mov (.t 6))⟩]
def cmp_Compare_string.r8 : List AStep := [
  ⟨some 4, none, .op (.mov (.c (.i .i64 1)))⟩]
def cmp_Compare_string.r9 : List AStep := [
  ⟨some 14, none, .op (.mov (.t 0))⟩,
  ⟨some 15, none, .op (.mov (.t 1))⟩,
  ⟨some 16, none, .op (.bin .lss (.t 14) (.t 15))⟩]
def cmp_Compare_string.r10 : List AStep := [
  ⟨some 4, none, .op (.mov (.c (.i .i64 (-1))))⟩]
def cmp_Compare_string.r11 : List AStep := [
  ⟨some 17, none, .op (.mov (.t 0))⟩,
  ⟨some 18, none, .op (.mov (.t 1))⟩,
  ⟨some 19, none, .op (.bin .gtr (.t 17) (.t 18))⟩]
def cmp_Compare_string.r12 : List AStep := [
  ⟨some 4, none, .op (.mov (.c (.i .i64 1)))⟩]
def cmp_Compare_string.r13 : List AStep := [
  ⟨some 4, none, .op (.mov (.c (.i .i64 0)))⟩]
def cmp_Compare_string : AFunc := ⟨20, [.t 4], .seq (.post [0, 1] (.region cmp_Compare_string.r0)) (.seq (.post [0, 1, 5] (.region cmp_Compare_string.r1)) (.seq (.post [0, 1, 5, 6] (.region cmp_Compare_string.r2)) (.seq (.seq (.post [0, 1, 6, 11] (.region cmp_Compare_string.r3)) (.post [0, 1, 6] (.cond (.t 11) (.seq (.seq (.post [12] (.region cmp_Compare_string.r4)) (.post [] (.cond (.t 12) (.seq (.post [4] (.region cmp_Compare_string.r5)) (.ret)) (.skip)))) (.seq (.post [4] (.region cmp_Compare_string.r6)) (.ret))) (.skip)))) (.seq (.seq (.post [0, 1, 13] (.region cmp_Compare_string.r7)) (.post [0, 1] (.cond (.t 13) (.seq (.post [4] (.region cmp_Compare_string.r8)) (.ret)) (.skip)))) (.seq (.seq (.post [0, 1, 16] (.region cmp_Compare_string.r9)) (.post [0, 1] (.cond (.t 16) (.seq (.post [4] (.region cmp_Compare_string.r10)) (.ret)) (.skip)))) (.seq (.seq (.post [19] (.region cmp_Compare_string.r11)) (.post [] (.cond (.t 19) (.seq (.post [4] (.region cmp_Compare_string.r12)) (.ret)) (.skip)))) (.seq (.post [4] (.region cmp_Compare_string.r13)) (.ret))))))))⟩
theorem cmp_Compare_string.ok : okFunc Tryz.prog Tryz.f91 cmp_Compare_string = true := by kernel_rfl
theorem cmp_Compare_string.at : Tryz.prog.funcs[n_cmp_Compare_string]? = some Tryz.f91 := Tryz.func91
def intern_Table_string_place_1.r0 : List AStep := [
  ⟨some 5, none, .op (.mov (.c (.i .i64 0)))⟩]
def intern_Table_string_place_1.r1 : List AStep := [
  ⟨some 6, none, .op (.load false 1 (.t 2))⟩,
  ⟨some 7, none, .op (.nilc (.t 6))⟩,
  ⟨some 8, none, .op (.fadr 0 (.t 7))⟩,
  ⟨some 9, none, .op (.load false 1 (.t 8))⟩,
  ⟨some 10, none, .op (.mov (.t 0))⟩,
  ⟨some 11, none, .op (.iad 1 (.t 9) (.t 10))⟩,
  ⟨some 12, none, .op (.load false 1 (.t 11))⟩,
  ⟨some 13, none, .op (.mov (.t 1))⟩,
  ⟨some 14, none, .call n_cmp_Compare_string [.t 12, .t 13]⟩,
  ⟨some 5, none, .op (.mov (.t 14))⟩]
def intern_Table_string_place_1 : AFunc := ⟨15, [.t 5], .seq (.post [0, 1, 2] (.region intern_Table_string_place_1.r0)) (.seq (.post [5] (.region intern_Table_string_place_1.r1)) (.ret))⟩
theorem intern_Table_string_place_1.ok : okFunc Tryz.prog Tryz.f90 intern_Table_string_place_1 = true := by kernel_rfl
theorem intern_Table_string_place_1.at : Tryz.prog.funcs[n_intern_Table_string_place_1]? = some Tryz.f90 := Tryz.func90
def slices_BinarySearchFunc_int_int_string.r0 : List AStep := [
  ⟨some 6, none, .op (.mov (.c (.i .i64 0)))⟩,
  ⟨some 7, none, .op (.mov (.c (.b false)))⟩]
def slices_BinarySearchFunc_int_int_string.r1 : List AStep := [
  ⟨some 12, none, .op (.mov (.t 0))⟩,
  ⟨some 13, none, .op (.len false (.t 12))⟩,
  ⟨some 8, none, .op (.mov (.t 13))⟩]
def slices_BinarySearchFunc_int_int_string.r2 : List AStep := [
  ⟨some 14, none, .op (.mov (.t 8))⟩,
  ⟨some 9, none, .op (.mov (.c (.i .i64 0)))⟩,
  ⟨some 10, none, .op (.mov (.t 14))⟩]
def slices_BinarySearchFunc_int_int_string.r3 : List AStep := [
  ⟨some 15, none, .op (.mov (.t 9))⟩,
  ⟨some 16, none, .op (.mov (.t 10))⟩,
  ⟨some 17, none, .op (.bin .lss (.t 15) (.t 16))⟩]
def slices_BinarySearchFunc_int_int_string.r4 : List AStep := [
  ⟨some 18, none, .op (.mov (.t 9))⟩,
  ⟨some 19, none, .op (.mov (.t 10))⟩,
  ⟨some 20, none, .op (.bin .add (.t 18) (.t 19))⟩,
  ⟨some 21, none, .op (.conv .u64 (.t 20))⟩,
  ⟨some 22, none, .op (.bin .shr (.t 21) (.c (.i .u64 1)))⟩,
  ⟨some 23, none, .op (.conv .i64 (.t 22))⟩,
  ⟨some 11, none, .op (.mov (.t 23))⟩]
def slices_BinarySearchFunc_int_int_string.r5 : List AStep := [
  ⟨some 24, none, .op (.mov (.t 2))⟩,
  ⟨some 25, none, .op (.mov (.t 0))⟩,
  ⟨some 26, none, .op (.mov (.t 11))⟩,
  ⟨some 27, none, .op (.iad 1 (.t 25) (.t 26))⟩,
  ⟨some 28, none, .op (.load false 1 (.t 27))⟩,
  ⟨some 29, none, .op (.mov (.t 1))⟩,
  ⟨some 30, none, .callv (.t 24) [.t 28, .t 29]⟩,
  ⟨some 31, none, .op (.bin .lss (.t 30) (.c (.i .i64 0)))⟩]
def slices_BinarySearchFunc_int_int_string.r6 : List AStep := [
  ⟨some 32, none, .op (.mov (.t 11))⟩,
  ⟨some 33, none, .op (.bin .add (.t 32) (.c (.i .i64 1)))⟩,
  ⟨some 9, none, .op (.mov (.t 33))⟩]
def slices_BinarySearchFunc_int_int_string.r7 : List AStep := [
  ⟨some 34, none, .op (.mov (.t 11))⟩,
  ⟨some 10, none, .op (.mov (.t 34))⟩]
def slices_BinarySearchFunc_int_int_string.l0 : ACode := .seq (.seq (.post [0, 1, 2, 8, 9, 10, 17] (.region slices_BinarySearchFunc_int_int_string.r3)) (.post [0, 1, 2, 8, 9, 10] (.cond (.t 17) (.skip) (.exit 0)))) (.post [0, 1, 2, 8, 9, 10] (.block 1 (.seq (.post [0, 1, 2, 8, 9, 10, 11] (.region slices_BinarySearchFunc_int_int_string.r4)) (.seq (.post [0, 1, 2, 8, 9, 10, 11, 31] (.region slices_BinarySearchFunc_int_int_string.r5)) (.post [0, 1, 2, 8, 9, 10] (.cond (.t 31) (.post [0, 1, 2, 8, 9, 10] (.region slices_BinarySearchFunc_int_int_string.r6)) (.post [0, 1, 2, 8, 9, 10] (.region slices_BinarySearchFunc_int_int_string.r7))))))))
def slices_BinarySearchFunc_int_int_string.r8 : List AStep := [
  ⟨some 35, none, .op (.mov (.t 9))⟩,
  ⟨some 36, none, .op (.mov (.t 9))⟩,
  ⟨some 37, none, .op (.mov (.t 8))⟩,
  ⟨some 38, none, .op (.bin .lss (.t 36) (.t 37))⟩,
  ⟨some 39, none, .op (.mov (.t 38))⟩,
  ⟨some 40, (some (39, true)), .op (.mov (.t 2))⟩,
  ⟨some 41, (some (39, true)), .op (.mov (.t 0))⟩,
  ⟨some 42, (some (39, true)), .op (.mov (.t 9))⟩,
  ⟨some 43, (some (39, true)), .op (.iad 1 (.t 41) (.t 42))⟩,
  ⟨some 44, (some (39, true)), .op (.load false 1 (.t 43))⟩,
  ⟨some 45, (some (39, true)), .op (.mov (.t 1))⟩,
  ⟨some 46, (some (39, true)), .callv (.t 40) [.t 44, .t 45]⟩,
  ⟨some 47, (some (39, true)), .op (.bin .eql (.t 46) (.c (.i .i64 0)))⟩,
  ⟨some 48, none, .op (.pick (.t 39) (.t 47) (.c (.b false)))⟩,
  ⟨some 6, none, .op (.mov (.t 35))⟩,
  ⟨some 7, none, .op (.mov (.t 48))⟩]
def slices_BinarySearchFunc_int_int_string : AFunc := ⟨49, [.t 6, .t 7], .seq (.post [0, 1, 2] (.region slices_BinarySearchFunc_int_int_string.r0)) (.seq (.post [0, 1, 2, 8] (.region slices_BinarySearchFunc_int_int_string.r1)) (.seq (.post [0, 1, 2, 8, 9, 10] (.region slices_BinarySearchFunc_int_int_string.r2)) (.seq (.post [0, 1, 2, 8, 9] (.block 0 (.loop slices_BinarySearchFunc_int_int_string.l0))) (.seq (.post [6, 7] (.region slices_BinarySearchFunc_int_int_string.r8)) (.ret)))))⟩
theorem slices_BinarySearchFunc_int_int_string.ok : okFunc Tryz.prog Tryz.f89 slices_BinarySearchFunc_int_int_string = true := by kernel_rfl
theorem slices_BinarySearchFunc_int_int_string.at : Tryz.prog.funcs[n_slices_BinarySearchFunc_int_int_string]? = some Tryz.f89 := Tryz.func89
def intern_Table_string_place.r0 : List AStep := [
  ⟨some 2, none, .op (.box (.t 0))⟩,
  ⟨some 4, none, .op (.mov (.c (.i .i64 0)))⟩,
  ⟨some 5, none, .op (.mov (.c (.b false)))⟩]
def intern_Table_string_place.r1 : List AStep := [
  ⟨some 6, none, .op (.load false 1 (.t 2))⟩,
  ⟨some 7, none, .op (.nilc (.t 6))⟩,
  ⟨some 8, none, .op (.fadr 1 (.t 7))⟩,
  ⟨some 9, none, .op (.load false 1 (.t 8))⟩,
  ⟨some 10, none, .op (.mov (.t 1))⟩,
  ⟨some 11, none, .op (.mkfn n_intern_Table_string_place_1 [.t 2])⟩,
  ⟨some 12, none, .call n_slices_BinarySearchFunc_int_int_string [.t 9, .t 10, .t 11]⟩,
  ⟨some 13, none, .op (.ext 0 (.t 12))⟩,
  ⟨some 14, none, .op (.ext 1 (.t 12))⟩,
  ⟨some 4, none, .op (.mov (.t 13))⟩,
  ⟨some 5, none, .op (.mov (.t 14))⟩]
def intern_Table_string_place : AFunc := ⟨15, [.t 4, .t 5], .seq (.post [1, 2] (.region intern_Table_string_place.r0)) (.seq (.post [4, 5] (.region intern_Table_string_place.r1)) (.ret))⟩
theorem intern_Table_string_place.ok : okFunc Tryz.prog Tryz.f70 intern_Table_string_place = true := by kernel_rfl
theorem intern_Table_string_place.at : Tryz.prog.funcs[n_intern_Table_string_place]? = some Tryz.f70 := Tryz.func70
def intern_Table_string_Put.r0 : List AStep := [
  ⟨some 4, none, .op (.mov (.c (.i .i64 0)))⟩,
  ⟨some 5, none, .op (.mov (.c (.b false)))⟩]
def intern_Table_string_Put.r1 : List AStep := [
  ⟨some 10, none, .op (.mov (.t 0))⟩,
  ⟨some 11, none, .op (.mov (.t 1))⟩,
  ⟨some 12, none, .call n_intern_Table_string_place [.t 10, .t 11]⟩,
  ⟨some 9, none, .op (.mov (.t 12))⟩,
  ⟨some 13, none, .op (.ext 0 (.t 9))⟩,
  ⟨some 14, none, .op (.ext 1 (.t 9))⟩,
  ⟨some 6, none, .op (.mov (.t 13))⟩,
  ⟨some 7, none, .op (.mov (.t 14))⟩]
def intern_Table_string_Put.r2 : List AStep := [
  ⟨some 15, none, .op (.mov (.t 7))⟩]
def intern_Table_string_Put.r3 : List AStep := [
  ⟨some 16, none, .op (.mov (.t 0))⟩,
  ⟨some 17, none, .op (.nilc (.t 16))⟩,
  ⟨some 18, none, .op (.fadr 1 (.t 17))⟩,
  ⟨some 19, none, .op (.load false 1 (.t 18))⟩,
  ⟨some 20, none, .op (.mov (.t 6))⟩,
  ⟨some 21, none, .op (.iad 1 (.t 19) (.t 20))⟩,
  ⟨some 22, none, .op (.load false 1 (.t 21))⟩,
  ⟨some 4, none, .op (.mov (.t 22))⟩,
  ⟨some 5, none, .op (.mov (.c (.b false)))⟩]
def intern_Table_string_Put.r4 : List AStep := [
  ⟨some 23, none, .op (.mov (.t 0))⟩,
  ⟨some 24, none, .op (.nilc (.t 23))⟩,
  ⟨some 25, none, .op (.fadr 0 (.t 24))⟩,
  ⟨some 26, none, .op (.load false 1 (.t 25))⟩,
  ⟨some 27, none, .op (.len false (.t 26))⟩,
  ⟨some 8, none, .op (.mov (.t 27))⟩]
def intern_Table_string_Put.r5 : List AStep := [
  ⟨some 28, none, .op (.mov (.t 0))⟩,
  ⟨some 29, none, .op (.mov (.t 0))⟩,
  ⟨some 30, none, .op (.nilc (.t 29))⟩,
  ⟨some 31, none, .op (.fadr 0 (.t 30))⟩,
  ⟨some 32, none, .op (.load false 1 (.t 31))⟩,
  ⟨some 33, none, .op (.mov (.t 1))⟩,
  ⟨some 34, none, .op (.bfz 1 1 [.s []] [(0, 1, .t 33)])⟩,
  ⟨some 35, none, .op (.app 1 16 (.t 32) (.t 34))⟩,
  ⟨some 36, none, .op (.nilc (.t 28))⟩,
  ⟨some 37, none, .op (.fadr 0 (.t 36))⟩,
  ⟨none, none, .op (.store 1 (.t 37) (.t 35))⟩]
def intern_Table_string_Put.r6 : List AStep := [
  ⟨some 38, none, .op (.mov (.t 0))⟩,
  ⟨some 39, none, .op (.mov (.t 0))⟩,
  ⟨some 40, none, .op (.nilc (.t 39))⟩,
  ⟨some 41, none, .op (.fadr 1 (.t 40))⟩,
  ⟨some 42, none, .op (.load false 1 (.t 41))⟩,
  ⟨some 43, none, .op (.mov (.t 6))⟩,
  ⟨some 44, none, .op (.mov (.t 8))⟩,
  ⟨some 45, none, .op (.bsl 1 [.i .i64 0] [(0, 1, .t 44)])⟩,
  ⟨some 46, none, .call n_slices_Insert_int_int [.t 42, .t 43, .t 45]⟩,
  ⟨some 47, none, .op (.nilc (.t 38))⟩,
  ⟨some 48, none, .op (.fadr 1 (.t 47))⟩,
  ⟨none, none, .op (.store 1 (.t 48) (.t 46))⟩]
def intern_Table_string_Put.r7 : List AStep := [
  ⟨some 49, none, .op (.mov (.t 8))⟩,
  ⟨some 4, none, .op (.mov (.t 49))⟩,
  ⟨some 5, none, .op (.mov (.c (.b true)))⟩]
def intern_Table_string_Put : AFunc := ⟨50, [.t 4, .t 5], .seq (.post [0, 1] (.region intern_Table_string_Put.r0)) (.seq (.post [0, 1, 6, 7] (.region intern_Table_string_Put.r1)) (.seq (.seq (.post [0, 1, 6, 15] (.region intern_Table_string_Put.r2)) (.post [0, 1, 6] (.cond (.t 15) (.seq (.post [4, 5] (.region intern_Table_string_Put.r3)) (.ret)) (.skip)))) (.seq (.post [0, 1, 6, 8] (.region intern_Table_string_Put.r4)) (.seq (.post [0, 6, 8] (.region intern_Table_string_Put.r5)) (.seq (.post [8] (.region intern_Table_string_Put.r6)) (.seq (.post [4, 5] (.region intern_Table_string_Put.r7)) (.ret)))))))⟩
theorem intern_Table_string_Put.ok : okFunc Tryz.prog Tryz.f47 intern_Table_string_Put = true := by kernel_rfl
theorem intern_Table_string_Put.at : Tryz.prog.funcs[n_intern_Table_string_Put]? = some Tryz.f47 := Tryz.func47
def intern_Table_string_Rising_1.r0 : List AStep := [
  ⟨some 5, none, .op (.load false 1 (.t 1))⟩,
  ⟨some 6, none, .op (.nilc (.t 5))⟩,
  ⟨some 7, none, .op (.fadr 1 (.t 6))⟩,
  ⟨some 8, none, .op (.load false 1 (.t 7))⟩,
  ⟨some 9, none, .call n_slices_Clone_int_int [.t 8]⟩,
  ⟨some 10, none, .op (.len false (.t 9))⟩,
  ⟨some 11, none, .op (.mov (.c (.i .i64 0)))⟩]
def intern_Table_string_Rising_1.r1 : List AStep := [
  ⟨some 12, none, .op (.bin .lss (.t 11) (.t 10))⟩]
def intern_Table_string_Rising_1.r2 : List AStep := [
  ⟨some 13, none, .op (.iad 1 (.t 9) (.t 11))⟩,
  ⟨some 14, none, .op (.load false 1 (.t 13))⟩,
  ⟨some 4, none, .op (.mov (.t 14))⟩]
def intern_Table_string_Rising_1.r3 : List AStep := [
  ⟨some 15, none, .op (.mov (.t 0))⟩,
  ⟨some 16, none, .op (.load false 1 (.t 1))⟩,
  ⟨some 17, none, .op (.nilc (.t 16))⟩,
  ⟨some 18, none, .op (.fadr 0 (.t 17))⟩,
  ⟨some 19, none, .op (.load false 1 (.t 18))⟩,
  ⟨some 20, none, .op (.mov (.t 4))⟩,
  ⟨some 21, none, .op (.iad 1 (.t 19) (.t 20))⟩,
  ⟨some 22, none, .op (.load false 1 (.t 21))⟩,
  ⟨some 23, none, .op (.mov (.t 4))⟩,
  ⟨some 24, none, .callv (.t 15) [.t 22, .t 23]⟩,
  ⟨some 25, none, .op (.un .not (.t 24))⟩]
def intern_Table_string_Rising_1.r4 : List AStep := [
  ⟨some 26, none, .op (.bin .add (.t 11) (.c (.i .i64 1)))⟩,
  ⟨some 11, none, .op (.mov (.t 26))⟩]
def intern_Table_string_Rising_1.l0 : ACode := .seq (.post [0, 1, 9, 10, 11, 12] (.region intern_Table_string_Rising_1.r1)) (.seq (.post [0, 1, 9, 10, 11] (.cond (.t 12) (.skip) (.exit 0))) (.seq (.post [0, 1, 9, 10, 11] (.block 1 (.seq (.post [0, 1, 4, 9, 10, 11] (.region intern_Table_string_Rising_1.r2)) (.seq (.post [0, 1, 9, 10, 11, 25] (.region intern_Table_string_Rising_1.r3)) (.post [0, 1, 9, 10, 11] (.cond (.t 25) (.ret) (.skip))))))) (.post [0, 1, 9, 10, 11] (.region intern_Table_string_Rising_1.r4))))
def intern_Table_string_Rising_1 : AFunc := ⟨27, [], .seq (.post [0, 1, 9, 10, 11] (.region intern_Table_string_Rising_1.r0)) (.post [] (.block 0 (.loop intern_Table_string_Rising_1.l0)))⟩
theorem intern_Table_string_Rising_1.ok : okFunc Tryz.prog Tryz.f72 intern_Table_string_Rising_1 = true := by kernel_rfl
theorem intern_Table_string_Rising_1.at : Tryz.prog.funcs[n_intern_Table_string_Rising_1]? = some Tryz.f72 := Tryz.func72
def intern_Table_string_Rising.r0 : List AStep := [
  ⟨some 1, none, .op (.box (.t 0))⟩,
  ⟨some 2, none, .op (.mov (.c (.nf)))⟩]
def intern_Table_string_Rising.r1 : List AStep := [
  ⟨some 3, none, .op (.mkfn n_intern_Table_string_Rising_1 [.t 1])⟩,
  ⟨some 2, none, .op (.mov (.t 3))⟩]
def intern_Table_string_Rising : AFunc := ⟨4, [.t 2], .seq (.post [1] (.region intern_Table_string_Rising.r0)) (.seq (.post [2] (.region intern_Table_string_Rising.r1)) (.ret))⟩
theorem intern_Table_string_Rising.ok : okFunc Tryz.prog Tryz.f48 intern_Table_string_Rising = true := by kernel_rfl
theorem intern_Table_string_Rising.at : Tryz.prog.funcs[n_intern_Table_string_Rising]? = some Tryz.f48 := Tryz.func48
def intern_Sorted_string.r0 : List AStep := [
  ⟨some 2, none, .op (.mov (.c (.sl none 0 0)))⟩]
def intern_Sorted_string.r1 : List AStep := [
  ⟨some 8, none, .op (.build [.sl none 0 0, .sl none 0 0] [])⟩,
  ⟨some 9, none, .op (.box (.t 8))⟩,
  ⟨some 3, none, .op (.mov (.t 9))⟩]
def intern_Sorted_string.r2 : List AStep := [
  ⟨some 10, none, .op (.mov (.t 0))⟩,
  ⟨some 11, none, .op (.len false (.t 10))⟩,
  ⟨some 12, none, .op (.mov (.c (.i .i64 0)))⟩]
def intern_Sorted_string.r3 : List AStep := [
  ⟨some 13, none, .op (.bin .lss (.t 12) (.t 11))⟩]
def intern_Sorted_string.r4 : List AStep := [
  ⟨some 14, none, .op (.iad 1 (.t 10) (.t 12))⟩,
  ⟨some 15, none, .op (.load false 1 (.t 14))⟩,
  ⟨some 5, none, .op (.mov (.t 15))⟩]
def intern_Sorted_string.r5 : List AStep := [
  ⟨some 16, none, .op (.mov (.t 3))⟩,
  ⟨some 17, none, .op (.mov (.t 5))⟩,
  ⟨some 18, none, .call n_intern_Table_string_Put [.t 16, .t 17]⟩]
def intern_Sorted_string.r6 : List AStep := [
  ⟨some 19, none, .op (.bin .add (.t 12) (.c (.i .i64 1)))⟩,
  ⟨some 12, none, .op (.mov (.t 19))⟩]
def intern_Sorted_string.l0 : ACode := .seq (.post [2, 3, 10, 11, 12, 13] (.region intern_Sorted_string.r3)) (.seq (.post [2, 3, 10, 11, 12] (.cond (.t 13) (.skip) (.exit 0))) (.seq (.post [2, 3, 10, 11, 12] (.block 1 (.seq (.post [2, 3, 5, 10, 11, 12] (.region intern_Sorted_string.r4)) (.post [2, 3, 10, 11, 12] (.region intern_Sorted_string.r5))))) (.post [2, 3, 10, 11, 12] (.region intern_Sorted_string.r6))))
def intern_Sorted_string.r7 : List AStep := [
  ⟨some 6, none, .op (.new [.sl none 0 0])⟩]
def intern_Sorted_string.r8 : List AStep := [
  ⟨some 20, none, .op (.mov (.t 3))⟩,
  ⟨some 21, none, .call n_intern_Table_string_Rising [.t 20]⟩]
def intern_Sorted_string.r9 : List AStep := [
  ⟨some 7, none, .op (.mov (.t 22))⟩]
def intern_Sorted_string.r10 : List AStep := [
  ⟨some 24, none, .op (.load false 1 (.t 6))⟩,
  ⟨some 25, none, .op (.mov (.t 7))⟩,
  ⟨some 26, none, .op (.bfz 1 1 [.s []] [(0, 1, .t 25)])⟩,
  ⟨some 27, none, .op (.app 1 16 (.t 24) (.t 26))⟩,
  ⟨none, none, .op (.store 1 (.t 6) (.t 27))⟩]
def intern_Sorted_string.a1 : ACode := .post [6, 7] (.region intern_Sorted_string.r9)
def intern_Sorted_string.b1 : ACode := .post [] (.block 3 (.post [] (.region intern_Sorted_string.r10)))
def intern_Sorted_string.r11 : List AStep := [
  ⟨some 28, none, .op (.load false 1 (.t 6))⟩,
  ⟨some 2, none, .op (.mov (.t 28))⟩]
def intern_Sorted_string : AFunc := ⟨29, [.t 2], .seq (.post [0, 2] (.region intern_Sorted_string.r0)) (.seq (.post [0, 2, 3] (.region intern_Sorted_string.r1)) (.seq (.seq (.post [2, 3, 10, 11, 12] (.region intern_Sorted_string.r2)) (.post [2, 3] (.block 0 (.loop intern_Sorted_string.l0)))) (.seq (.post [2, 3, 6] (.region intern_Sorted_string.r7)) (.seq (.seq (.post [2, 6, 21] (.region intern_Sorted_string.r8)) (.post [6] (.block 2 (.post [6] (.rangeFunc (.t 21) [22, 23] intern_Sorted_string.a1 intern_Sorted_string.b1))))) (.seq (.post [2] (.region intern_Sorted_string.r11)) (.ret))))))⟩
theorem intern_Sorted_string.ok : okFunc Tryz.prog Tryz.f31 intern_Sorted_string = true := by kernel_rfl
theorem intern_Sorted_string.at : Tryz.prog.funcs[n_intern_Sorted_string]? = some Tryz.f31 := Tryz.func31
def query_Callees.r0 : List AStep := [
  ⟨some 4, none, .op (.mov (.c (.sl none 0 0)))⟩]
def query_Callees.r1 : List AStep := [
  ⟨some 5, none, .op (.mov (.c (.sl none 0 0)))⟩]
def query_Callees.r2 : List AStep := [
  ⟨some 10, none, .op (.mov (.t 0))⟩,
  ⟨some 11, none, .op (.mov (.t 1))⟩,
  ⟨some 12, none, .call n_least_Of [.t 10, .t 11]⟩,
  ⟨some 13, none, .op (.len false (.t 12))⟩,
  ⟨some 14, none, .op (.mov (.c (.i .i64 0)))⟩]
def query_Callees.r3 : List AStep := [
  ⟨some 15, none, .op (.bin .lss (.t 14) (.t 13))⟩]
def query_Callees.r4 : List AStep := [
  ⟨some 16, none, .op (.iad 1 (.t 12) (.t 14))⟩,
  ⟨some 17, none, .op (.load false 1 (.t 16))⟩,
  ⟨some 7, none, .op (.mov (.t 17))⟩]
def query_Callees.r5 : List AStep := [
  ⟨some 19, none, .op (.mov (.t 7))⟩,
  ⟨some 20, none, .call n_names_Read [.t 19]⟩,
  ⟨some 18, none, .op (.mov (.t 20))⟩,
  ⟨some 21, none, .op (.ext 0 (.t 18))⟩,
  ⟨some 22, none, .op (.ext 1 (.t 18))⟩,
  ⟨some 8, none, .op (.new [.i .i64 0, .s [], .i .i64 0, .s [], .i .i64 0, .i .i64 0])⟩,
  ⟨none, none, .op (.store 6 (.t 8) (.t 21))⟩,
  ⟨some 9, none, .op (.mov (.t 22))⟩]
def query_Callees.r6 : List AStep := [
  ⟨some 23, none, .op (.mov (.t 9))⟩,
  ⟨some 24, none, .op (.bin .eql (.t 23) (.c (.i .i64 0)))⟩,
  ⟨some 25, none, .op (.mov (.t 24))⟩,
  ⟨some 26, (some (25, true)), .op (.fadr 0 (.t 8))⟩,
  ⟨some 27, (some (25, true)), .op (.load false 1 (.t 26))⟩,
  ⟨some 28, (some (25, true)), .op (.bin .eql (.t 27) (.c (.i .i64 4)))⟩,
  ⟨some 29, none, .op (.pick (.t 25) (.t 28) (.c (.b false)))⟩]
def query_Callees.r7 : List AStep := [
  ⟨some 30, none, .op (.mov (.t 5))⟩,
  ⟨some 31, none, .op (.fadr 1 (.t 8))⟩,
  ⟨some 32, none, .op (.load false 1 (.t 31))⟩,
  ⟨some 33, none, .op (.bfz 1 1 [.s []] [(0, 1, .t 32)])⟩,
  ⟨some 34, none, .op (.app 1 16 (.t 30) (.t 33))⟩,
  ⟨some 5, none, .op (.mov (.t 34))⟩]
def query_Callees.r8 : List AStep := [
  ⟨some 35, none, .op (.bin .add (.t 14) (.c (.i .i64 1)))⟩,
  ⟨some 14, none, .op (.mov (.t 35))⟩]
def query_Callees.l0 : ACode := .seq (.post [5, 12, 13, 14, 15] (.region query_Callees.r3)) (.seq (.post [5, 12, 13, 14] (.cond (.t 15) (.skip) (.exit 0))) (.seq (.post [5, 12, 13, 14] (.block 1 (.seq (.post [5, 7, 12, 13, 14] (.region query_Callees.r4)) (.seq (.post [5, 8, 9, 12, 13, 14] (.region query_Callees.r5)) (.seq (.post [5, 8, 12, 13, 14, 29] (.region query_Callees.r6)) (.post [5, 12, 13, 14] (.cond (.t 29) (.post [5, 12, 13, 14] (.region query_Callees.r7)) (.skip)))))))) (.post [5, 12, 13, 14] (.region query_Callees.r8))))
def query_Callees.r9 : List AStep := [
  ⟨some 36, none, .op (.mov (.t 5))⟩,
  ⟨some 37, none, .call n_intern_Sorted_string [.t 36]⟩,
  ⟨some 4, none, .op (.mov (.t 37))⟩]
def query_Callees : AFunc := ⟨38, [.t 4], .seq (.post [0, 1] (.region query_Callees.r0)) (.seq (.post [0, 1, 5] (.region query_Callees.r1)) (.seq (.seq (.post [5, 12, 13, 14] (.region query_Callees.r2)) (.post [5] (.block 0 (.loop query_Callees.l0)))) (.seq (.post [4] (.region query_Callees.r9)) (.ret))))⟩
theorem query_Callees.ok : okFunc Tryz.prog Tryz.f11 query_Callees = true := by kernel_rfl
theorem query_Callees.at : Tryz.prog.funcs[n_query_Callees]? = some Tryz.f11 := Tryz.func11
def weftref05_Into.r0 : List AStep := [
  ⟨some 4, none, .op (.mov (.c (.sl none 0 0)))⟩]
def weftref05_Into.r1 : List AStep := [
  ⟨some 5, none, .op (.mov (.c (.i .i64 0)))⟩]
def weftref05_Into.r2 : List AStep := [
  ⟨some 7, none, .op (.mov (.t 5))⟩,
  ⟨some 8, none, .op (.mov (.t 0))⟩,
  ⟨some 9, none, .op (.len false (.t 8))⟩,
  ⟨some 10, none, .op (.bin .lss (.t 7) (.t 9))⟩,
  ⟨some 11, none, .op (.mov (.t 10))⟩,
  ⟨some 12, (some (11, true)), .op (.mov (.t 0))⟩,
  ⟨some 13, (some (11, true)), .op (.mov (.t 5))⟩,
  ⟨some 14, (some (11, true)), .op (.iad 1 (.t 12) (.t 13))⟩,
  ⟨some 15, (some (11, true)), .op (.load false 1 (.t 14))⟩,
  ⟨some 16, (some (11, true)), .op (.mov (.t 1))⟩,
  ⟨some 17, (some (11, true)), .op (.bin .lss (.t 15) (.t 16))⟩,
  ⟨some 18, none, .op (.pick (.t 11) (.t 17) (.c (.b false)))⟩]
def weftref05_Into.r3 : List AStep := [
  ⟨some 19, none, .op (.mov (.t 5))⟩,
  ⟨some 20, none, .op (.bin .add (.t 19) (.c (.i .i64 1)))⟩,
  ⟨some 5, none, .op (.mov (.t 20))⟩]
def weftref05_Into.l0 : ACode := .seq (.seq (.post [0, 1, 5, 18] (.region weftref05_Into.r2)) (.post [0, 1, 5] (.cond (.t 18) (.skip) (.exit 0)))) (.post [0, 1, 5] (.block 1 (.post [0, 1, 5] (.region weftref05_Into.r3))))
def weftref05_Into.r4 : List AStep := [
  ⟨some 21, none, .op (.mov (.t 5))⟩,
  ⟨some 22, none, .op (.mov (.t 0))⟩,
  ⟨some 23, none, .op (.len false (.t 22))⟩,
  ⟨some 24, none, .op (.bin .lss (.t 21) (.t 23))⟩,
  ⟨some 25, none, .op (.mov (.t 24))⟩,
  ⟨some 26, (some (25, true)), .op (.mov (.t 0))⟩,
  ⟨some 27, (some (25, true)), .op (.mov (.t 5))⟩,
  ⟨some 28, (some (25, true)), .op (.iad 1 (.t 26) (.t 27))⟩,
  ⟨some 29, (some (25, true)), .op (.load false 1 (.t 28))⟩,
  ⟨some 30, (some (25, true)), .op (.mov (.t 1))⟩,
  ⟨some 31, (some (25, true)), .op (.bin .eql (.t 29) (.t 30))⟩,
  ⟨some 32, none, .op (.pick (.t 25) (.t 31) (.c (.b false)))⟩]
def weftref05_Into.r5 : List AStep := [
  ⟨some 33, none, .op (.mov (.t 0))⟩,
  ⟨some 4, none, .op (.mov (.t 33))⟩]
def weftref05_Into.r6 : List AStep := [
  ⟨some 34, none, .op (.bz 1)⟩,
  ⟨some 35, none, .op (.mov (.t 0))⟩,
  ⟨some 36, none, .op (.mov (.t 5))⟩,
  ⟨some 37, none, .op (.slc 1 (.t 35) none (some (.t 36)))⟩,
  ⟨some 38, none, .op (.app 1 16 (.t 34) (.t 37))⟩,
  ⟨some 6, none, .op (.mov (.t 38))⟩]
def weftref05_Into.r7 : List AStep := [
  ⟨some 39, none, .op (.mov (.t 6))⟩,
  ⟨some 40, none, .op (.mov (.t 1))⟩,
  ⟨some 41, none, .op (.bfz 1 1 [.s []] [(0, 1, .t 40)])⟩,
  ⟨some 42, none, .op (.app 1 16 (.t 39) (.t 41))⟩,
  ⟨some 6, none, .op (.mov (.t 42))⟩]
def weftref05_Into.r8 : List AStep := [
  ⟨some 43, none, .op (.mov (.t 6))⟩,
  ⟨some 44, none, .op (.mov (.t 0))⟩,
  ⟨some 45, none, .op (.mov (.t 5))⟩,
  ⟨some 46, none, .op (.slc 1 (.t 44) (some (.t 45)) none)⟩,
  ⟨some 47, none, .op (.app 1 16 (.t 43) (.t 46))⟩,
  ⟨some 4, none, .op (.mov (.t 47))⟩]
def weftref05_Into : AFunc := ⟨48, [.t 4], .seq (.post [0, 1] (.region weftref05_Into.r0)) (.seq (.post [0, 1, 5] (.region weftref05_Into.r1)) (.seq (.post [0, 1, 5] (.block 0 (.loop weftref05_Into.l0))) (.seq (.seq (.post [0, 1, 5, 32] (.region weftref05_Into.r4)) (.post [0, 1, 5] (.cond (.t 32) (.seq (.post [4] (.region weftref05_Into.r5)) (.ret)) (.skip)))) (.seq (.post [0, 1, 5, 6] (.region weftref05_Into.r6)) (.seq (.post [0, 5, 6] (.region weftref05_Into.r7)) (.seq (.post [4] (.region weftref05_Into.r8)) (.ret)))))))⟩
theorem weftref05_Into.ok : okFunc Tryz.prog Tryz.f33 weftref05_Into = true := by kernel_rfl
theorem weftref05_Into.at : Tryz.prog.funcs[n_weftref05_Into]? = some Tryz.f33 := Tryz.func33
def weftref05_Same.r0 : List AStep := [
  ⟨some 4, none, .op (.mov (.c (.b false)))⟩]
def weftref05_Same.r1 : List AStep := [
  ⟨some 6, none, .op (.mov (.t 0))⟩,
  ⟨some 7, none, .op (.len false (.t 6))⟩,
  ⟨some 8, none, .op (.mov (.t 1))⟩,
  ⟨some 9, none, .op (.len false (.t 8))⟩,
  ⟨some 10, none, .op (.bin .neq (.t 7) (.t 9))⟩]
def weftref05_Same.r2 : List AStep := [
  ⟨some 4, none, .op (.mov (.c (.b false)))⟩]
def weftref05_Same.r3 : List AStep := [
  ⟨some 5, none, .op (.mov (.c (.i .i64 0)))⟩]
def weftref05_Same.r4 : List AStep := [
  ⟨some 11, none, .op (.mov (.t 5))⟩,
  ⟨some 12, none, .op (.mov (.t 0))⟩,
  ⟨some 13, none, .op (.len false (.t 12))⟩,
  ⟨some 14, none, .op (.bin .lss (.t 11) (.t 13))⟩,
  ⟨some 15, none, .op (.mov (.t 14))⟩,
  ⟨some 16, (some (15, true)), .op (.mov (.t 5))⟩,
  ⟨some 17, (some (15, true)), .op (.mov (.t 1))⟩,
  ⟨some 18, (some (15, true)), .op (.len false (.t 17))⟩,
  ⟨some 19, (some (15, true)), .op (.bin .lss (.t 16) (.t 18))⟩,
  ⟨some 20, none, .op (.pick (.t 15) (.t 19) (.c (.b false)))⟩]
def weftref05_Same.r5 : List AStep := [
  ⟨some 23, none, .op (.mov (.t 0))⟩,
  ⟨some 24, none, .op (.mov (.t 5))⟩,
  ⟨some 25, none, .op (.iad 1 (.t 23) (.t 24))⟩,
  ⟨some 26, none, .op (.load false 1 (.t 25))⟩,
  ⟨some 27, none, .op (.mov (.t 1))⟩,
  ⟨some 28, none, .op (.mov (.t 5))⟩,
  ⟨some 29, none, .op (.iad 1 (.t 27) (.t 28))⟩,
  ⟨some 30, none, .op (.load false 1 (.t 29))⟩,
  ⟨some 31, none, .op (.bin .neq (.t 26) (.t 30))⟩]
def weftref05_Same.r6 : List AStep := [
  ⟨some 4, none, .op (.mov (.c (.b false)))⟩]
def weftref05_Same.r7 : List AStep := [
  ⟨some 21, none, .op (.mov (.t 5))⟩,
  ⟨some 22, none, .op (.bin .add (.t 21) (.c (.i .i64 1)))⟩,
  ⟨some 5, none, .op (.mov (.t 22))⟩]
def weftref05_Same.l0 : ACode := .seq (.seq (.post [0, 1, 5, 20] (.region weftref05_Same.r4)) (.post [0, 1, 5] (.cond (.t 20) (.skip) (.exit 0)))) (.seq (.post [0, 1, 5] (.block 1 (.seq (.post [0, 1, 5, 31] (.draw [0, 0, 3, 7, 0, 0, 48, 112, 255] weftref05_Same.r5)) (.post [0, 1, 5] (.cond (.t 31) (.seq (.post [4] (.region weftref05_Same.r6)) (.ret)) (.skip)))))) (.post [0, 1, 5] (.region weftref05_Same.r7)))
def weftref05_Same.r8 : List AStep := [
  ⟨some 4, none, .op (.mov (.c (.b true)))⟩]
def weftref05_Same : AFunc := ⟨32, [.t 4], .seq (.post [0, 1] (.region weftref05_Same.r0)) (.seq (.seq (.post [0, 1, 10] (.region weftref05_Same.r1)) (.post [0, 1] (.cond (.t 10) (.seq (.post [4] (.region weftref05_Same.r2)) (.ret)) (.skip)))) (.seq (.seq (.post [0, 1, 5] (.region weftref05_Same.r3)) (.post [] (.block 0 (.loop weftref05_Same.l0)))) (.seq (.post [4] (.region weftref05_Same.r8)) (.ret))))⟩
theorem weftref05_Same.ok : okFunc Tryz.prog Tryz.f10 weftref05_Same = true := by kernel_rfl
theorem weftref05_Same.at : Tryz.prog.funcs[n_weftref05_Same]? = some Tryz.f10 := Tryz.func10
def query_Holders.r0 : List AStep := [
  ⟨some 4, none, .op (.mov (.c (.sl none 0 0)))⟩]
def query_Holders.r1 : List AStep := [
  ⟨some 5, none, .op (.mov (.c (.sl none 0 0)))⟩]
def query_Holders.r2 : List AStep := [
  ⟨some 8, none, .op (.mov (.t 0))⟩,
  ⟨some 9, none, .op (.len false (.t 8))⟩,
  ⟨some 10, none, .op (.mov (.c (.i .i64 0)))⟩]
def query_Holders.r3 : List AStep := [
  ⟨some 11, none, .op (.bin .lss (.t 10) (.t 9))⟩]
def query_Holders.r4 : List AStep := [
  ⟨some 12, none, .op (.iad 2 (.t 8) (.t 10))⟩,
  ⟨some 13, none, .op (.load true 2 (.t 12))⟩,
  ⟨some 7, none, .op (.new [.s [], .sl none 0 0])⟩,
  ⟨none, none, .op (.store 2 (.t 7) (.t 13))⟩]
def query_Holders.r5 : List AStep := [
  ⟨some 14, none, .op (.fadr 1 (.t 7))⟩,
  ⟨some 15, none, .op (.load false 1 (.t 14))⟩,
  ⟨some 16, none, .op (.mov (.t 1))⟩,
  ⟨some 17, none, .call n_slices_Contains_string_string [.t 15, .t 16]⟩]
def query_Holders.r6 : List AStep := [
  ⟨some 18, none, .op (.mov (.t 5))⟩,
  ⟨some 19, none, .op (.fadr 0 (.t 7))⟩,
  ⟨some 20, none, .op (.load false 1 (.t 19))⟩,
  ⟨some 21, none, .op (.bfz 1 1 [.s []] [(0, 1, .t 20)])⟩,
  ⟨some 22, none, .op (.app 1 16 (.t 18) (.t 21))⟩,
  ⟨some 5, none, .op (.mov (.t 22))⟩]
def query_Holders.r7 : List AStep := [
  ⟨some 23, none, .op (.bin .add (.t 10) (.c (.i .i64 1)))⟩,
  ⟨some 10, none, .op (.mov (.t 23))⟩]
def query_Holders.l0 : ACode := .seq (.post [1, 5, 8, 9, 10, 11] (.region query_Holders.r3)) (.seq (.post [1, 5, 8, 9, 10] (.cond (.t 11) (.skip) (.exit 0))) (.seq (.post [1, 5, 8, 9, 10] (.block 1 (.seq (.post [1, 5, 7, 8, 9, 10] (.region query_Holders.r4)) (.seq (.post [1, 5, 7, 8, 9, 10, 17] (.region query_Holders.r5)) (.post [1, 5, 8, 9, 10] (.cond (.t 17) (.post [1, 5, 8, 9, 10] (.region query_Holders.r6)) (.skip))))))) (.post [1, 5, 8, 9, 10] (.region query_Holders.r7))))
def query_Holders.r8 : List AStep := [
  ⟨some 24, none, .op (.mov (.t 5))⟩,
  ⟨some 25, none, .call n_intern_Sorted_string [.t 24]⟩,
  ⟨some 4, none, .op (.mov (.t 25))⟩]
def query_Holders : AFunc := ⟨26, [.t 4], .seq (.post [0, 1] (.region query_Holders.r0)) (.seq (.post [0, 1, 5] (.region query_Holders.r1)) (.seq (.seq (.post [1, 5, 8, 9, 10] (.region query_Holders.r2)) (.post [5] (.block 0 (.loop query_Holders.l0)))) (.seq (.post [4] (.region query_Holders.r8)) (.ret))))⟩
theorem query_Holders.ok : okFunc Tryz.prog Tryz.f13 query_Holders = true := by kernel_rfl
theorem query_Holders.at : Tryz.prog.funcs[n_query_Holders]? = some Tryz.f13 := Tryz.func13
def cmp_Less_string.r0 : List AStep := [
  ⟨some 4, none, .op (.mov (.c (.b false)))⟩]
def cmp_Less_string.r1 : List AStep := [
  ⟨some 5, none, .op (.mov (.t 0))⟩,
  ⟨some 6, none, .call n_cmp_isNaN_string [.t 5]⟩,
  ⟨some 7, none, .op (.mov (.t 6))⟩,
  ⟨some 8, (some (7, true)), .op (.mov (.t 1))⟩,
  ⟨some 9, (some (7, true)), .call n_cmp_isNaN_string [.t 8]⟩,
  ⟨some 10, (some (7, true)), .op (.un .not (.t 9))⟩,
  ⟨some 11, none, .op (.pick (.t 7) (.t 10) (.c (.b false)))⟩,
  ⟨some 12, none, .op (.mov (.t 11))⟩,
  ⟨some 13, (some (12, false)), .op (.mov (.t 0))⟩,
  ⟨some 14, (some (12, false)), .op (.mov (.t 1))⟩,
  ⟨some 15, (some (12, false)), .op (.bin .lss (.t 13) (.t 14))⟩,
  ⟨some 16, none, .op (.pick (.t 12) (.c (.b true)) (.t 15))⟩,
  ⟨some 4, none, .op (.mov (.t 16))⟩]
def cmp_Less_string : AFunc := ⟨17, [.t 4], .seq (.post [0, 1] (.region cmp_Less_string.r0)) (.seq (.post [4] (.region cmp_Less_string.r1)) (.ret))⟩
theorem cmp_Less_string.ok : okFunc Tryz.prog Tryz.f57 cmp_Less_string = true := by kernel_rfl
theorem cmp_Less_string.at : Tryz.prog.funcs[n_cmp_Less_string]? = some Tryz.f57 := Tryz.func57
end C
end Go.Proofs.YtggjaoibcfgofaaGreatDoor
