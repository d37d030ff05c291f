/- Part 15 of the proof of the laws of the queries: CodeA. -/
import Derived.Test.YtjajpilacdfnbaaGreatDoorProg
import Derived.Test.YtjajpilacdfnbaaGreatDoorW14
namespace Go.Proofs.YtjajpilacdfnbaaGreatDoor
open Am Go.Proofs
set_option maxRecDepth 100000
namespace C
def n_weftlaw15_Great : FuncId := 23
def n_weftlaw21_GreatTexts : FuncId := 24
def n_weftlaw24_greatKeeps : FuncId := 25
def n_weftlaw24_Great : FuncId := 11
def n_weftlaw28_GreatAll : FuncId := 5
def n_digits_class : FuncId := 56
def n_strings_TrimLeft : FuncId := 97
def n_digits_Split : FuncId := 55
def n_digits_Name : FuncId := 26
def n_system_each_api_Obj : FuncId := 57
def n_strings_IndexByte : FuncId := 137
def n_strconv_Atoi : FuncId := 172
def n_digits_Read : FuncId := 161
def n_names_number : FuncId := 138
def n_names_read : FuncId := 107
def n_names_Node_cellRight : FuncId := 139
def n_names_Node_right : FuncId := 108
def n_names_Node_write : FuncId := 109
def n_names_Read : FuncId := 70
def n_strings_Trim : FuncId := 133
def n_system_kindsRight : FuncId := 98
def n_system_tagRight : FuncId := 99
def n_slices_Index_api_Mark_api_Mark : FuncId := 134
def n_slices_Contains_api_Mark_api_Mark : FuncId := 100
def n_system_object : FuncId := 58
def n_cmp_isNaN_string : FuncId := 115
def n_cmp_Compare_string : FuncId := 101
def n_system_byObj : FuncId := 59
def n_system_each_api_Fn : FuncId := 60
def n_system_function : FuncId := 61
def n_system_byFn : FuncId := 62
def n_system_each_api_Con : FuncId := 63
def n_system_Node : FuncId := 39
def n_system_Place : FuncId := 102
def n_internal_stringslite_Index : FuncId := 170
def n_internal_stringslite_Cut : FuncId := 159
def n_strings_Cut : FuncId := 135
def n_system_called : FuncId := 103
def n_system_con : FuncId := 64
def n_cmp_isNaN_int : FuncId := 136
def n_cmp_Compare_int : FuncId := 105
def n_slices_Compare_string_string : FuncId := 106
def n_cmp_Or_int : FuncId := 104
def n_system_Compare : FuncId := 65
def n_system_Check : FuncId := 27
def n_summary_Check_1_1 : FuncId := 30
def n_slices_IndexFunc_api_Obj_api_Obj : FuncId := 66
def n_slices_ContainsFunc_api_Obj_api_Obj : FuncId := 29
def n_summary_Check_1_2 : FuncId := 32
def n_slices_IndexFunc_api_Fn_api_Fn : FuncId := 67
def n_slices_ContainsFunc_api_Fn_api_Fn : FuncId := 31
def n_summary_Check_1 : FuncId := 28
def n_summary_rises : FuncId := 33
def n_summary_Check_2 : FuncId := 35
def n_slices_IndexFunc_string_string : FuncId := 68
def n_slices_ContainsFunc_string_string : FuncId := 34
def n_slices_Index_string_string : FuncId := 69
def n_slices_Contains_string_string : FuncId := 37
def n_summary_Check_3 : FuncId := 36
def n_summary_Check_4 : FuncId := 38
def n_summary_Check : FuncId := 12
def n_symbols_Resolve_1 : FuncId := 14
def n_slices_IndexFunc_api_Summary_api_Summary : FuncId := 40
def n_slices_ContainsFunc_api_Summary_api_Summary : FuncId := 13
def n_symbols_things : FuncId := 15
def n_slices_Sort_string_string : FuncId := 16
def n_intern_Table_string_place_1 : FuncId := 146
def n_slices_BinarySearchFunc_int_int_string : FuncId := 145
def n_intern_Table_string_place : FuncId := 116
def n_slices_Insert_int_int : FuncId := 117
def n_intern_Table_string_Put : FuncId := 82
def n_slices_Clone_int_int : FuncId := 119
def n_intern_Table_string_Rising_1 : FuncId := 118
def n_intern_Table_string_Rising : FuncId := 83
def n_intern_Sorted_string : FuncId := 43
def n_slices_EqualFunc_api_Obj_api_Obj_api_Obj_api_Obj : FuncId := 85
def n_slices_Equal_api_Mark_api_Mark : FuncId := 120
def n_system_sameObj : FuncId := 86
def n_slices_Equal_api_Fn_api_Fn : FuncId := 87
def n_slices_EqualFunc_api_Con_api_Con_api_Con_api_Con : FuncId := 88
def n_system_sameCon : FuncId := 89
def n_system_Same : FuncId := 46
def n_symbols_symbol_1 : FuncId := 45
def n_slices_IndexFunc_symbols_thing_symbols_thing : FuncId := 84
def n_slices_ContainsFunc_symbols_thing_symbols_thing : FuncId := 44
def n_symbols_symbol : FuncId := 17
def n_symbols_Resolve : FuncId := 6
def n_weftref05_Number : FuncId := 19
def n_weftref05_Same : FuncId := 8
def n_weftlaw28_sys : FuncId := 22
def n_weftlaw28_works : FuncId := 9
def weftlaw15_Great.r0 : List AStep := [
  ⟨some 2, none, .op (.boxf (.t 0))⟩,
  ⟨some 4, none, .op (.mov (.c (.b false)))⟩]
def weftlaw15_Great.r1 : List AStep := [
  ⟨some 12, none, .op (.fadr 0 (.t 2))⟩,
  ⟨some 13, none, .op (.load false 1 (.t 12))⟩,
  ⟨some 14, none, .op (.len false (.t 13))⟩,
  ⟨some 15, none, .op (.mov (.t 1))⟩,
  ⟨some 16, none, .op (.bin .gtr (.t 14) (.t 15))⟩,
  ⟨some 17, none, .op (.mov (.t 16))⟩,
  ⟨some 18, (some (17, false)), .op (.fadr 1 (.t 2))⟩,
  ⟨some 19, (some (17, false)), .op (.load false 1 (.t 18))⟩,
  ⟨some 20, (some (17, false)), .op (.len false (.t 19))⟩,
  ⟨some 21, (some (17, false)), .op (.mov (.t 1))⟩,
  ⟨some 22, (some (17, false)), .op (.bin .gtr (.t 20) (.t 21))⟩,
  ⟨some 23, none, .op (.pick (.t 17) (.c (.b true)) (.t 22))⟩,
  ⟨some 24, none, .op (.mov (.t 23))⟩,
  ⟨some 25, (some (24, false)), .op (.fadr 2 (.t 2))⟩,
  ⟨some 26, (some (24, false)), .op (.load false 1 (.t 25))⟩,
  ⟨some 27, (some (24, false)), .op (.len false (.t 26))⟩,
  ⟨some 28, (some (24, false)), .op (.mov (.t 1))⟩,
  ⟨some 29, (some (24, false)), .op (.bin .gtr (.t 27) (.t 28))⟩,
  ⟨some 30, none, .op (.pick (.t 24) (.c (.b true)) (.t 29))⟩]
def weftlaw15_Great.r2 : List AStep := [
  ⟨some 4, none, .op (.mov (.c (.b true)))⟩]
def weftlaw15_Great.r3 : List AStep := [
  ⟨some 5, none, .op (.mov (.c (.i .i64 0)))⟩]
def weftlaw15_Great.r4 : List AStep := [
  ⟨some 6, none, .op (.mov (.c (.i .i64 0)))⟩]
def weftlaw15_Great.r5 : List AStep := [
  ⟨some 31, none, .op (.mov (.t 6))⟩,
  ⟨some 32, none, .op (.fadr 0 (.t 2))⟩,
  ⟨some 33, none, .op (.load false 1 (.t 32))⟩,
  ⟨some 34, none, .op (.len false (.t 33))⟩,
  ⟨some 35, none, .op (.bin .lss (.t 31) (.t 34))⟩]
def weftlaw15_Great.r6 : List AStep := [
  ⟨some 38, none, .op (.mov (.t 5))⟩,
  ⟨some 39, none, .op (.fadr 0 (.t 2))⟩,
  ⟨some 40, none, .op (.load false 1 (.t 39))⟩,
  ⟨some 41, none, .op (.mov (.t 6))⟩,
  ⟨some 42, none, .op (.iad 3 (.t 40) (.t 41))⟩,
  ⟨some 43, none, .op (.fadr 0 (.t 42))⟩,
  ⟨some 44, none, .op (.load false 1 (.t 43))⟩,
  ⟨some 45, none, .op (.len true (.t 44))⟩,
  ⟨some 46, none, .op (.bin .add (.t 38) (.t 45))⟩,
  ⟨some 47, none, .op (.fadr 0 (.t 2))⟩,
  ⟨some 48, none, .op (.load false 1 (.t 47))⟩,
  ⟨some 49, none, .op (.mov (.t 6))⟩,
  ⟨some 50, none, .op (.iad 3 (.t 48) (.t 49))⟩,
  ⟨some 51, none, .op (.fadr 1 (.t 50))⟩,
  ⟨some 52, none, .op (.load false 1 (.t 51))⟩,
  ⟨some 53, none, .op (.len true (.t 52))⟩,
  ⟨some 54, none, .op (.bin .add (.t 46) (.t 53))⟩,
  ⟨some 55, none, .op (.fadr 0 (.t 2))⟩,
  ⟨some 56, none, .op (.load false 1 (.t 55))⟩,
  ⟨some 57, none, .op (.mov (.t 6))⟩,
  ⟨some 58, none, .op (.iad 3 (.t 56) (.t 57))⟩,
  ⟨some 59, none, .op (.fadr 2 (.t 58))⟩,
  ⟨some 60, none, .op (.load false 1 (.t 59))⟩,
  ⟨some 61, none, .op (.len false (.t 60))⟩,
  ⟨some 62, none, .op (.bin .mul (.c (.i .i64 10)) (.t 61))⟩,
  ⟨some 63, none, .op (.bin .add (.t 54) (.t 62))⟩,
  ⟨some 5, none, .op (.mov (.t 63))⟩]
def weftlaw15_Great.r7 : List AStep := [
  ⟨some 7, none, .op (.mov (.c (.i .i64 0)))⟩]
def weftlaw15_Great.r8 : List AStep := [
  ⟨some 64, none, .op (.mov (.t 7))⟩,
  ⟨some 65, none, .op (.fadr 0 (.t 2))⟩,
  ⟨some 66, none, .op (.load false 1 (.t 65))⟩,
  ⟨some 67, none, .op (.mov (.t 6))⟩,
  ⟨some 68, none, .op (.iad 3 (.t 66) (.t 67))⟩,
  ⟨some 69, none, .op (.fadr 2 (.t 68))⟩,
  ⟨some 70, none, .op (.load false 1 (.t 69))⟩,
  ⟨some 71, none, .op (.len false (.t 70))⟩,
  ⟨some 72, none, .op (.bin .lss (.t 64) (.t 71))⟩,
  ⟨some 73, none, .op (.mov (.t 72))⟩,
  ⟨some 74, (some (73, true)), .op (.mov (.t 7))⟩,
  ⟨some 75, (some (73, true)), .op (.bin .lss (.t 74) (.c (.i .i64 100)))⟩,
  ⟨some 76, none, .op (.pick (.t 73) (.t 75) (.c (.b false)))⟩]
def weftlaw15_Great.r9 : List AStep := [
  ⟨some 79, none, .op (.mov (.t 5))⟩,
  ⟨some 80, none, .op (.fadr 0 (.t 2))⟩,
  ⟨some 81, none, .op (.load false 1 (.t 80))⟩,
  ⟨some 82, none, .op (.mov (.t 6))⟩,
  ⟨some 83, none, .op (.iad 3 (.t 81) (.t 82))⟩,
  ⟨some 84, none, .op (.fadr 2 (.t 83))⟩,
  ⟨some 85, none, .op (.load false 1 (.t 84))⟩,
  ⟨some 86, none, .op (.mov (.t 7))⟩,
  ⟨some 87, none, .op (.iad 2 (.t 85) (.t 86))⟩,
  ⟨some 88, none, .op (.fadr 1 (.t 87))⟩,
  ⟨some 89, none, .op (.load false 1 (.t 88))⟩,
  ⟨some 90, none, .op (.len true (.t 89))⟩,
  ⟨some 91, none, .op (.bin .add (.t 79) (.t 90))⟩,
  ⟨some 5, none, .op (.mov (.t 91))⟩]
def weftlaw15_Great.r10 : List AStep := [
  ⟨some 77, none, .op (.mov (.t 7))⟩,
  ⟨some 78, none, .op (.bin .add (.t 77) (.c (.i .i64 1)))⟩,
  ⟨some 7, none, .op (.mov (.t 78))⟩]
def weftlaw15_Great.l1 : ACode := .seq (.seq (.post [2, 5, 6, 7, 76] (.region weftlaw15_Great.r8)) (.post [2, 5, 6, 7] (.cond (.t 76) (.skip) (.exit 2)))) (.seq (.post [2, 5, 6, 7] (.block 3 (.post [2, 5, 6, 7] (.region weftlaw15_Great.r9)))) (.post [2, 5, 6, 7] (.region weftlaw15_Great.r10)))
def weftlaw15_Great.r11 : List AStep := [
  ⟨some 92, none, .op (.mov (.t 5))⟩,
  ⟨some 93, none, .op (.bin .gtr (.t 92) (.c (.i .i64 30000)))⟩]
def weftlaw15_Great.r12 : List AStep := [
  ⟨some 4, none, .op (.mov (.c (.b true)))⟩]
def weftlaw15_Great.r13 : List AStep := [
  ⟨some 36, none, .op (.mov (.t 6))⟩,
  ⟨some 37, none, .op (.bin .add (.t 36) (.c (.i .i64 1)))⟩,
  ⟨some 6, none, .op (.mov (.t 37))⟩]
def weftlaw15_Great.l0 : ACode := .seq (.seq (.post [2, 5, 6, 35] (.region weftlaw15_Great.r5)) (.post [2, 5, 6] (.cond (.t 35) (.skip) (.exit 0)))) (.seq (.post [2, 5, 6] (.block 1 (.seq (.post [2, 5, 6] (.draw [0, 0, 2, 0, 14, 30, 62, 126, 255, 0, 512, 0, 3584, 7680, 15872, 32256, 65535, 0, 131072, 0, 917504, 1966080, 4063232, 8257536, 16646144, 33554431, 67108863] weftlaw15_Great.r6)) (.seq (.seq (.post [2, 5, 6, 7] (.region weftlaw15_Great.r7)) (.post [2, 5, 6] (.block 2 (.loop weftlaw15_Great.l1)))) (.seq (.post [2, 5, 6, 93] (.region weftlaw15_Great.r11)) (.post [2, 5, 6] (.cond (.t 93) (.seq (.post [4] (.region weftlaw15_Great.r12)) (.ret)) (.skip)))))))) (.post [2, 5, 6] (.region weftlaw15_Great.r13)))
def weftlaw15_Great.r14 : List AStep := [
  ⟨some 8, none, .op (.mov (.c (.i .i64 0)))⟩]
def weftlaw15_Great.r15 : List AStep := [
  ⟨some 94, none, .op (.mov (.t 8))⟩,
  ⟨some 95, none, .op (.fadr 1 (.t 2))⟩,
  ⟨some 96, none, .op (.load false 1 (.t 95))⟩,
  ⟨some 97, none, .op (.len false (.t 96))⟩,
  ⟨some 98, none, .op (.bin .lss (.t 94) (.t 97))⟩]
def weftlaw15_Great.r16 : List AStep := [
  ⟨some 101, none, .op (.mov (.t 5))⟩,
  ⟨some 102, none, .op (.fadr 1 (.t 2))⟩,
  ⟨some 103, none, .op (.load false 1 (.t 102))⟩,
  ⟨some 104, none, .op (.mov (.t 8))⟩,
  ⟨some 105, none, .op (.iad 3 (.t 103) (.t 104))⟩,
  ⟨some 106, none, .op (.fadr 0 (.t 105))⟩,
  ⟨some 107, none, .op (.load false 1 (.t 106))⟩,
  ⟨some 108, none, .op (.len true (.t 107))⟩,
  ⟨some 109, none, .op (.bin .add (.t 101) (.t 108))⟩,
  ⟨some 110, none, .op (.fadr 1 (.t 2))⟩,
  ⟨some 111, none, .op (.load false 1 (.t 110))⟩,
  ⟨some 112, none, .op (.mov (.t 8))⟩,
  ⟨some 113, none, .op (.iad 3 (.t 111) (.t 112))⟩,
  ⟨some 114, none, .op (.fadr 1 (.t 113))⟩,
  ⟨some 115, none, .op (.load false 1 (.t 114))⟩,
  ⟨some 116, none, .op (.len true (.t 115))⟩,
  ⟨some 117, none, .op (.bin .add (.t 109) (.t 116))⟩,
  ⟨some 118, none, .op (.fadr 1 (.t 2))⟩,
  ⟨some 119, none, .op (.load false 1 (.t 118))⟩,
  ⟨some 120, none, .op (.mov (.t 8))⟩,
  ⟨some 121, none, .op (.iad 3 (.t 119) (.t 120))⟩,
  ⟨some 122, none, .op (.fadr 2 (.t 121))⟩,
  ⟨some 123, none, .op (.load false 1 (.t 122))⟩,
  ⟨some 124, none, .op (.len true (.t 123))⟩,
  ⟨some 125, none, .op (.bin .add (.t 117) (.t 124))⟩,
  ⟨some 5, none, .op (.mov (.t 125))⟩]
def weftlaw15_Great.r17 : List AStep := [
  ⟨some 126, none, .op (.mov (.t 5))⟩,
  ⟨some 127, none, .op (.bin .gtr (.t 126) (.c (.i .i64 30000)))⟩]
def weftlaw15_Great.r18 : List AStep := [
  ⟨some 4, none, .op (.mov (.c (.b true)))⟩]
def weftlaw15_Great.r19 : List AStep := [
  ⟨some 99, none, .op (.mov (.t 8))⟩,
  ⟨some 100, none, .op (.bin .add (.t 99) (.c (.i .i64 1)))⟩,
  ⟨some 8, none, .op (.mov (.t 100))⟩]
def weftlaw15_Great.l2 : ACode := .seq (.seq (.post [2, 5, 8, 98] (.region weftlaw15_Great.r15)) (.post [2, 5, 8] (.cond (.t 98) (.skip) (.exit 4)))) (.seq (.post [2, 5, 8] (.block 5 (.seq (.post [2, 5, 8] (.draw [0, 0, 2, 0, 14, 30, 62, 126, 255, 0, 512, 0, 3584, 7680, 15872, 32256, 65535, 0, 131072, 0, 917504, 1966080, 4063232, 8257536, 16777215, 33554431] weftlaw15_Great.r16)) (.seq (.post [2, 5, 8, 127] (.region weftlaw15_Great.r17)) (.post [2, 5, 8] (.cond (.t 127) (.seq (.post [4] (.region weftlaw15_Great.r18)) (.ret)) (.skip))))))) (.post [2, 5, 8] (.region weftlaw15_Great.r19)))
def weftlaw15_Great.r20 : List AStep := [
  ⟨some 9, none, .op (.mov (.c (.i .i64 0)))⟩]
def weftlaw15_Great.r21 : List AStep := [
  ⟨some 128, none, .op (.mov (.t 9))⟩,
  ⟨some 129, none, .op (.fadr 2 (.t 2))⟩,
  ⟨some 130, none, .op (.load false 1 (.t 129))⟩,
  ⟨some 131, none, .op (.len false (.t 130))⟩,
  ⟨some 132, none, .op (.bin .lss (.t 128) (.t 131))⟩]
def weftlaw15_Great.r22 : List AStep := [
  ⟨some 135, none, .op (.fadr 2 (.t 2))⟩,
  ⟨some 136, none, .op (.load false 1 (.t 135))⟩,
  ⟨some 137, none, .op (.mov (.t 9))⟩,
  ⟨some 138, none, .op (.iad 6 (.t 136) (.t 137))⟩,
  ⟨some 139, none, .op (.load true 6 (.t 138))⟩,
  ⟨some 10, none, .op (.new [.i .i64 0, .s [], .s [], .i .i64 0, .s [], .sl none 0 0])⟩,
  ⟨none, none, .op (.store 6 (.t 10) (.t 139))⟩]
def weftlaw15_Great.r23 : List AStep := [
  ⟨some 140, none, .op (.mov (.t 5))⟩,
  ⟨some 141, none, .op (.fadr 1 (.t 10))⟩,
  ⟨some 142, none, .op (.load false 1 (.t 141))⟩,
  ⟨some 143, none, .op (.len true (.t 142))⟩,
  ⟨some 144, none, .op (.bin .add (.t 140) (.t 143))⟩,
  ⟨some 145, none, .op (.fadr 2 (.t 10))⟩,
  ⟨some 146, none, .op (.load false 1 (.t 145))⟩,
  ⟨some 147, none, .op (.len true (.t 146))⟩,
  ⟨some 148, none, .op (.bin .add (.t 144) (.t 147))⟩,
  ⟨some 149, none, .op (.fadr 4 (.t 10))⟩,
  ⟨some 150, none, .op (.load false 1 (.t 149))⟩,
  ⟨some 151, none, .op (.len true (.t 150))⟩,
  ⟨some 152, none, .op (.bin .add (.t 148) (.t 151))⟩,
  ⟨some 153, none, .op (.fadr 5 (.t 10))⟩,
  ⟨some 154, none, .op (.load false 1 (.t 153))⟩,
  ⟨some 155, none, .op (.len false (.t 154))⟩,
  ⟨some 156, none, .op (.bin .mul (.c (.i .i64 10)) (.t 155))⟩,
  ⟨some 157, none, .op (.bin .add (.t 152) (.t 156))⟩,
  ⟨some 5, none, .op (.mov (.t 157))⟩]
def weftlaw15_Great.r24 : List AStep := [
  ⟨some 11, none, .op (.mov (.c (.i .i64 0)))⟩]
def weftlaw15_Great.r25 : List AStep := [
  ⟨some 158, none, .op (.mov (.t 11))⟩,
  ⟨some 159, none, .op (.fadr 5 (.t 10))⟩,
  ⟨some 160, none, .op (.load false 1 (.t 159))⟩,
  ⟨some 161, none, .op (.len false (.t 160))⟩,
  ⟨some 162, none, .op (.bin .lss (.t 158) (.t 161))⟩,
  ⟨some 163, none, .op (.mov (.t 162))⟩,
  ⟨some 164, (some (163, true)), .op (.mov (.t 11))⟩,
  ⟨some 165, (some (163, true)), .op (.bin .lss (.t 164) (.c (.i .i64 100)))⟩,
  ⟨some 166, none, .op (.pick (.t 163) (.t 165) (.c (.b false)))⟩]
def weftlaw15_Great.r26 : List AStep := [
  ⟨some 169, none, .op (.mov (.t 5))⟩,
  ⟨some 170, none, .op (.fadr 5 (.t 10))⟩,
  ⟨some 171, none, .op (.load false 1 (.t 170))⟩,
  ⟨some 172, none, .op (.mov (.t 11))⟩,
  ⟨some 173, none, .op (.iad 1 (.t 171) (.t 172))⟩,
  ⟨some 174, none, .op (.load false 1 (.t 173))⟩,
  ⟨some 175, none, .op (.len true (.t 174))⟩,
  ⟨some 176, none, .op (.bin .add (.t 169) (.t 175))⟩,
  ⟨some 5, none, .op (.mov (.t 176))⟩]
def weftlaw15_Great.r27 : List AStep := [
  ⟨some 167, none, .op (.mov (.t 11))⟩,
  ⟨some 168, none, .op (.bin .add (.t 167) (.c (.i .i64 1)))⟩,
  ⟨some 11, none, .op (.mov (.t 168))⟩]
def weftlaw15_Great.l4 : ACode := .seq (.seq (.post [2, 5, 9, 10, 11, 166] (.region weftlaw15_Great.r25)) (.post [2, 5, 9, 10, 11] (.cond (.t 166) (.skip) (.exit 8)))) (.seq (.post [2, 5, 9, 10, 11] (.block 9 (.post [2, 5, 9, 10, 11] (.region weftlaw15_Great.r26)))) (.post [2, 5, 9, 10, 11] (.region weftlaw15_Great.r27)))
def weftlaw15_Great.r28 : List AStep := [
  ⟨some 177, none, .op (.mov (.t 5))⟩,
  ⟨some 178, none, .op (.bin .gtr (.t 177) (.c (.i .i64 60000)))⟩]
def weftlaw15_Great.r29 : List AStep := [
  ⟨some 4, none, .op (.mov (.c (.b true)))⟩]
def weftlaw15_Great.r30 : List AStep := [
  ⟨some 133, none, .op (.mov (.t 9))⟩,
  ⟨some 134, none, .op (.bin .add (.t 133) (.c (.i .i64 1)))⟩,
  ⟨some 9, none, .op (.mov (.t 134))⟩]
def weftlaw15_Great.l3 : ACode := .seq (.seq (.post [2, 5, 9, 132] (.region weftlaw15_Great.r21)) (.post [2, 5, 9] (.cond (.t 132) (.skip) (.exit 6)))) (.seq (.post [2, 5, 9] (.block 7 (.seq (.post [2, 5, 9, 10] (.region weftlaw15_Great.r22)) (.seq (.post [2, 5, 9, 10] (.region weftlaw15_Great.r23)) (.seq (.seq (.post [2, 5, 9, 10, 11] (.region weftlaw15_Great.r24)) (.post [2, 5, 9] (.block 8 (.loop weftlaw15_Great.l4)))) (.seq (.post [2, 5, 9, 178] (.region weftlaw15_Great.r28)) (.post [2, 5, 9] (.cond (.t 178) (.seq (.post [4] (.region weftlaw15_Great.r29)) (.ret)) (.skip))))))))) (.post [2, 5, 9] (.region weftlaw15_Great.r30)))
def weftlaw15_Great.r31 : List AStep := [
  ⟨some 4, none, .op (.mov (.c (.b false)))⟩]
def weftlaw15_Great : AFunc := ⟨179, [.t 4], .seq (.post [1, 2] (.region weftlaw15_Great.r0)) (.seq (.seq (.post [2, 30] (.region weftlaw15_Great.r1)) (.post [2] (.cond (.t 30) (.seq (.post [4] (.region weftlaw15_Great.r2)) (.ret)) (.skip)))) (.seq (.post [2, 5] (.region weftlaw15_Great.r3)) (.seq (.seq (.post [2, 5, 6] (.region weftlaw15_Great.r4)) (.post [2, 5] (.block 0 (.loop weftlaw15_Great.l0)))) (.seq (.seq (.post [2, 5, 8] (.region weftlaw15_Great.r14)) (.post [2, 5] (.block 4 (.loop weftlaw15_Great.l2)))) (.seq (.seq (.post [2, 5, 9] (.region weftlaw15_Great.r20)) (.post [] (.block 6 (.loop weftlaw15_Great.l3)))) (.seq (.post [4] (.region weftlaw15_Great.r31)) (.ret)))))))⟩
theorem weftlaw15_Great.ok : okFunc Tryz.prog Tryz.f23 weftlaw15_Great = true := by kernel_rfl
theorem weftlaw15_Great.at : Tryz.prog.funcs[n_weftlaw15_Great]? = some Tryz.f23 := Tryz.func23
def weftlaw21_GreatTexts.r0 : List AStep := [
  ⟨some 2, none, .op (.mov (.c (.b false)))⟩]
def weftlaw21_GreatTexts.r1 : List AStep := [
  ⟨some 3, none, .op (.mov (.c (.i .i64 0)))⟩]
def weftlaw21_GreatTexts.r2 : List AStep := [
  ⟨some 4, none, .op (.mov (.t 3))⟩,
  ⟨some 5, none, .op (.mov (.t 0))⟩,
  ⟨some 6, none, .op (.len false (.t 5))⟩,
  ⟨some 7, none, .op (.bin .lss (.t 4) (.t 6))⟩]
def weftlaw21_GreatTexts.r3 : List AStep := [
  ⟨some 10, none, .op (.mov (.t 3))⟩,
  ⟨some 11, none, .op (.bin .geq (.t 10) (.c (.i .i64 60)))⟩,
  ⟨some 12, none, .op (.mov (.t 11))⟩,
  ⟨some 13, (some (12, false)), .op (.mov (.t 0))⟩,
  ⟨some 14, (some (12, false)), .op (.mov (.t 3))⟩,
  ⟨some 15, (some (12, false)), .op (.iad 1 (.t 13) (.t 14))⟩,
  ⟨some 16, (some (12, false)), .op (.load false 1 (.t 15))⟩,
  ⟨some 17, (some (12, false)), .op (.len true (.t 16))⟩,
  ⟨some 18, (some (12, false)), .op (.bin .gtr (.t 17) (.c (.i .i64 100)))⟩,
  ⟨some 19, none, .op (.pick (.t 12) (.c (.b true)) (.t 18))⟩]
def weftlaw21_GreatTexts.r4 : List AStep := [
  ⟨some 2, none, .op (.mov (.c (.b true)))⟩]
def weftlaw21_GreatTexts.r5 : List AStep := [
  ⟨some 8, none, .op (.mov (.t 3))⟩,
  ⟨some 9, none, .op (.bin .add (.t 8) (.c (.i .i64 1)))⟩,
  ⟨some 3, none, .op (.mov (.t 9))⟩]
def weftlaw21_GreatTexts.l0 : ACode := .seq (.seq (.post [0, 3, 7] (.region weftlaw21_GreatTexts.r2)) (.post [0, 3] (.cond (.t 7) (.skip) (.exit 0)))) (.seq (.post [0, 3] (.block 1 (.seq (.post [0, 3, 19] (.region weftlaw21_GreatTexts.r3)) (.post [0, 3] (.cond (.t 19) (.seq (.post [2] (.region weftlaw21_GreatTexts.r4)) (.ret)) (.skip)))))) (.post [0, 3] (.region weftlaw21_GreatTexts.r5)))
def weftlaw21_GreatTexts.r6 : List AStep := [
  ⟨some 2, none, .op (.mov (.c (.b false)))⟩]
def weftlaw21_GreatTexts : AFunc := ⟨20, [.t 2], .seq (.post [0] (.region weftlaw21_GreatTexts.r0)) (.seq (.seq (.post [0, 3] (.region weftlaw21_GreatTexts.r1)) (.post [] (.block 0 (.loop weftlaw21_GreatTexts.l0)))) (.seq (.post [2] (.region weftlaw21_GreatTexts.r6)) (.ret)))⟩
theorem weftlaw21_GreatTexts.ok : okFunc Tryz.prog Tryz.f24 weftlaw21_GreatTexts = true := by kernel_rfl
theorem weftlaw21_GreatTexts.at : Tryz.prog.funcs[n_weftlaw21_GreatTexts]? = some Tryz.f24 := Tryz.func24
def weftlaw24_greatKeeps.r0 : List AStep := [
  ⟨some 2, none, .op (.mov (.c (.b false)))⟩]
def weftlaw24_greatKeeps.r1 : List AStep := [
  ⟨some 3, none, .op (.mov (.c (.i .i64 0)))⟩]
def weftlaw24_greatKeeps.r2 : List AStep := [
  ⟨some 4, none, .op (.mov (.t 3))⟩,
  ⟨some 5, none, .op (.mov (.t 0))⟩,
  ⟨some 6, none, .op (.len false (.t 5))⟩,
  ⟨some 7, none, .op (.bin .lss (.t 4) (.t 6))⟩]
def weftlaw24_greatKeeps.r3 : List AStep := [
  ⟨some 10, none, .op (.mov (.t 0))⟩,
  ⟨some 11, none, .op (.mov (.t 3))⟩,
  ⟨some 12, none, .op (.iad 1 (.t 10) (.t 11))⟩,
  ⟨some 13, none, .op (.load false 1 (.t 12))⟩,
  ⟨some 14, none, .op (.len true (.t 13))⟩,
  ⟨some 15, none, .op (.bin .gtr (.t 14) (.c (.i .i64 100)))⟩]
def weftlaw24_greatKeeps.r4 : List AStep := [
  ⟨some 2, none, .op (.mov (.c (.b true)))⟩]
def weftlaw24_greatKeeps.r5 : List AStep := [
  ⟨some 8, none, .op (.mov (.t 3))⟩,
  ⟨some 9, none, .op (.bin .add (.t 8) (.c (.i .i64 1)))⟩,
  ⟨some 3, none, .op (.mov (.t 9))⟩]
def weftlaw24_greatKeeps.l0 : ACode := .seq (.seq (.post [0, 3, 7] (.region weftlaw24_greatKeeps.r2)) (.post [0, 3] (.cond (.t 7) (.skip) (.exit 0)))) (.seq (.post [0, 3] (.block 1 (.seq (.post [0, 3, 15] (.region weftlaw24_greatKeeps.r3)) (.post [0, 3] (.cond (.t 15) (.seq (.post [2] (.region weftlaw24_greatKeeps.r4)) (.ret)) (.skip)))))) (.post [0, 3] (.region weftlaw24_greatKeeps.r5)))
def weftlaw24_greatKeeps.r6 : List AStep := [
  ⟨some 2, none, .op (.mov (.c (.b false)))⟩]
def weftlaw24_greatKeeps : AFunc := ⟨16, [.t 2], .seq (.post [0] (.region weftlaw24_greatKeeps.r0)) (.seq (.seq (.post [0, 3] (.region weftlaw24_greatKeeps.r1)) (.post [] (.block 0 (.loop weftlaw24_greatKeeps.l0)))) (.seq (.post [2] (.region weftlaw24_greatKeeps.r6)) (.ret)))⟩
theorem weftlaw24_greatKeeps.ok : okFunc Tryz.prog Tryz.f25 weftlaw24_greatKeeps = true := by kernel_rfl
theorem weftlaw24_greatKeeps.at : Tryz.prog.funcs[n_weftlaw24_greatKeeps]? = some Tryz.f25 := Tryz.func25
def weftlaw24_Great.r0 : List AStep := [
  ⟨some 1, none, .op (.boxf (.t 0))⟩,
  ⟨some 2, none, .op (.mov (.c (.b false)))⟩]
def weftlaw24_Great.r1 : List AStep := [
  ⟨some 3, none, .op (.fadr 0 (.t 1))⟩,
  ⟨some 4, none, .op (.load false 1 (.t 3))⟩,
  ⟨some 5, none, .op (.len true (.t 4))⟩,
  ⟨some 6, none, .op (.bin .gtr (.t 5) (.c (.i .i64 100)))⟩,
  ⟨some 7, none, .op (.mov (.t 6))⟩,
  ⟨some 8, (some (7, false)), .op (.fadr 4 (.t 1))⟩,
  ⟨some 9, (some (7, false)), .op (.load true 3 (.t 8))⟩,
  ⟨some 10, (some (7, false)), .call n_weftlaw15_Great [.t 9, .c (.i .i64 80)]⟩,
  ⟨some 11, none, .op (.pick (.t 7) (.c (.b true)) (.t 10))⟩,
  ⟨some 12, none, .op (.mov (.t 11))⟩,
  ⟨some 13, (some (12, false)), .op (.fadr 1 (.t 1))⟩,
  ⟨some 14, (some (12, false)), .op (.load false 1 (.t 13))⟩,
  ⟨some 15, (some (12, false)), .call n_weftlaw21_GreatTexts [.t 14]⟩,
  ⟨some 16, none, .op (.pick (.t 12) (.c (.b true)) (.t 15))⟩,
  ⟨some 17, none, .op (.mov (.t 16))⟩,
  ⟨some 18, (some (17, false)), .op (.fadr 2 (.t 1))⟩,
  ⟨some 19, (some (17, false)), .op (.load false 1 (.t 18))⟩,
  ⟨some 20, (some (17, false)), .call n_weftlaw21_GreatTexts [.t 19]⟩,
  ⟨some 21, none, .op (.pick (.t 17) (.c (.b true)) (.t 20))⟩,
  ⟨some 22, none, .op (.mov (.t 21))⟩,
  ⟨some 23, (some (22, false)), .op (.fadr 3 (.t 1))⟩,
  ⟨some 24, (some (22, false)), .op (.load false 1 (.t 23))⟩,
  ⟨some 25, (some (22, false)), .op (.len false (.t 24))⟩,
  ⟨some 26, (some (22, false)), .op (.bin .gtr (.t 25) (.c (.i .i64 200)))⟩,
  ⟨some 27, none, .op (.pick (.t 22) (.c (.b true)) (.t 26))⟩,
  ⟨some 28, none, .op (.mov (.t 27))⟩,
  ⟨some 29, (some (28, false)), .op (.fadr 3 (.t 1))⟩,
  ⟨some 30, (some (28, false)), .op (.load false 1 (.t 29))⟩,
  ⟨some 31, (some (28, false)), .call n_weftlaw24_greatKeeps [.t 30]⟩,
  ⟨some 32, none, .op (.pick (.t 28) (.c (.b true)) (.t 31))⟩,
  ⟨some 2, none, .op (.mov (.t 32))⟩]
def weftlaw24_Great : AFunc := ⟨33, [.t 2], .seq (.post [1] (.region weftlaw24_Great.r0)) (.seq (.post [2] (.region weftlaw24_Great.r1)) (.ret))⟩
theorem weftlaw24_Great.ok : okFunc Tryz.prog Tryz.f11 weftlaw24_Great = true := by kernel_rfl
theorem weftlaw24_Great.at : Tryz.prog.funcs[n_weftlaw24_Great]? = some Tryz.f11 := Tryz.func11
def weftlaw28_GreatAll.r0 : List AStep := [
  ⟨some 2, none, .op (.mov (.c (.b false)))⟩]
def weftlaw28_GreatAll.r1 : List AStep := [
  ⟨some 4, none, .op (.mov (.t 0))⟩,
  ⟨some 5, none, .op (.len false (.t 4))⟩,
  ⟨some 6, none, .op (.bin .gtr (.t 5) (.c (.i .i64 12)))⟩]
def weftlaw28_GreatAll.r2 : List AStep := [
  ⟨some 2, none, .op (.mov (.c (.b true)))⟩]
def weftlaw28_GreatAll.r3 : List AStep := [
  ⟨some 3, none, .op (.mov (.c (.i .i64 0)))⟩]
def weftlaw28_GreatAll.r4 : List AStep := [
  ⟨some 7, none, .op (.mov (.t 3))⟩,
  ⟨some 8, none, .op (.mov (.t 0))⟩,
  ⟨some 9, none, .op (.len false (.t 8))⟩,
  ⟨some 10, none, .op (.bin .lss (.t 7) (.t 9))⟩]
def weftlaw28_GreatAll.r5 : List AStep := [
  ⟨some 13, none, .op (.mov (.t 0))⟩,
  ⟨some 14, none, .op (.mov (.t 3))⟩,
  ⟨some 15, none, .op (.iad 7 (.t 13) (.t 14))⟩,
  ⟨some 16, none, .op (.load true 7 (.t 15))⟩,
  ⟨some 17, none, .call n_weftlaw24_Great [.t 16]⟩]
def weftlaw28_GreatAll.r6 : List AStep := [
  ⟨some 2, none, .op (.mov (.c (.b true)))⟩]
def weftlaw28_GreatAll.r7 : List AStep := [
  ⟨some 11, none, .op (.mov (.t 3))⟩,
  ⟨some 12, none, .op (.bin .add (.t 11) (.c (.i .i64 1)))⟩,
  ⟨some 3, none, .op (.mov (.t 12))⟩]
def weftlaw28_GreatAll.l0 : ACode := .seq (.seq (.post [0, 3, 10] (.region weftlaw28_GreatAll.r4)) (.post [0, 3] (.cond (.t 10) (.skip) (.exit 0)))) (.seq (.post [0, 3] (.block 1 (.seq (.post [0, 3, 17] (.region weftlaw28_GreatAll.r5)) (.post [0, 3] (.cond (.t 17) (.seq (.post [2] (.region weftlaw28_GreatAll.r6)) (.ret)) (.skip)))))) (.post [0, 3] (.region weftlaw28_GreatAll.r7)))
def weftlaw28_GreatAll.r8 : List AStep := [
  ⟨some 2, none, .op (.mov (.c (.b false)))⟩]
def weftlaw28_GreatAll : AFunc := ⟨18, [.t 2], .seq (.post [0] (.region weftlaw28_GreatAll.r0)) (.seq (.seq (.post [0, 6] (.region weftlaw28_GreatAll.r1)) (.post [0] (.cond (.t 6) (.seq (.post [2] (.region weftlaw28_GreatAll.r2)) (.ret)) (.skip)))) (.seq (.seq (.post [0, 3] (.region weftlaw28_GreatAll.r3)) (.post [] (.block 0 (.loop weftlaw28_GreatAll.l0)))) (.seq (.post [2] (.region weftlaw28_GreatAll.r8)) (.ret))))⟩
theorem weftlaw28_GreatAll.ok : okFunc Tryz.prog Tryz.f5 weftlaw28_GreatAll = true := by kernel_rfl
theorem weftlaw28_GreatAll.at : Tryz.prog.funcs[n_weftlaw28_GreatAll]? = some Tryz.f5 := Tryz.func5
def digits_class.r0 : List AStep := [
  ⟨some 2, none, .op (.mov (.c (.i .i64 0)))⟩]
def digits_class.r1 : List AStep := [
  ⟨some 3, none, .op (.mov (.c (.i .i64 2)))⟩]
def digits_class.r2 : List AStep := [
  ⟨some 5, none, .op (.mov (.t 0))⟩,
  ⟨some 6, none, .op (.bin .geq (.t 5) (.c (.i .u8 48)))⟩,
  ⟨some 7, none, .op (.mov (.t 6))⟩,
  ⟨some 8, (some (7, true)), .op (.mov (.t 0))⟩,
  ⟨some 9, (some (7, true)), .op (.bin .leq (.t 8) (.c (.i .u8 57)))⟩,
  ⟨some 10, none, .op (.pick (.t 7) (.t 9) (.c (.b false)))⟩,
  ⟨some 4, none, .op (.mov (.t 10))⟩]
def digits_class.r3 : List AStep := [
  ⟨some 12, none, .op (.mov (.t 0))⟩,
  ⟨some 13, none, .op (.bin .geq (.t 12) (.c (.i .u8 65)))⟩,
  ⟨some 14, none, .op (.mov (.t 13))⟩,
  ⟨some 15, (some (14, true)), .op (.mov (.t 0))⟩,
  ⟨some 16, (some (14, true)), .op (.bin .leq (.t 15) (.c (.i .u8 90)))⟩,
  ⟨some 17, none, .op (.pick (.t 14) (.t 16) (.c (.b false)))⟩,
  ⟨some 11, none, .op (.mov (.t 17))⟩]
def digits_class.r4 : List AStep := [
  ⟨some 18, none, .op (.mov (.t 0))⟩,
  ⟨some 19, none, .op (.bin .geq (.t 18) (.c (.i .u8 97)))⟩,
  ⟨some 20, none, .op (.mov (.t 19))⟩,
  ⟨some 21, (some (20, true)), .op (.mov (.t 0))⟩,
  ⟨some 22, (some (20, true)), .op (.bin .leq (.t 21) (.c (.i .u8 122)))⟩,
  ⟨some 23, none, .op (.pick (.t 20) (.t 22) (.c (.b false)))⟩,
  ⟨some 11, none, .op (.mov (.t 23))⟩]
def digits_class.r5 : List AStep := [
  ⟨some 24, none, .op (.mov (.t 0))⟩,
  ⟨some 25, none, .op (.bin .eql (.t 24) (.c (.i .u8 95)))⟩,
  ⟨some 11, none, .op (.mov (.t 25))⟩]
def digits_class.r6 : List AStep := [
  ⟨some 3, none, .op (.mov (.c (.i .i64 1)))⟩]
def digits_class.r7 : List AStep := [
  ⟨some 26, none, .op (.mov (.t 3))⟩,
  ⟨some 2, none, .op (.mov (.t 26))⟩]
def digits_class.r8 : List AStep := [
  ⟨some 2, none, .op (.mov (.c (.i .i64 0)))⟩]
def digits_class : AFunc := ⟨27, [.t 2], .seq (.post [0] (.region digits_class.r0)) (.seq (.post [0, 3] (.region digits_class.r1)) (.seq (.post [] (.block 0 (.seq (.post [3] (.block 2 (.seq (.post [] (.block 1 (.seq (.seq (.seq (.post [0, 3, 4] (.region digits_class.r2)) (.post [0, 3] (.cond (.t 4) (.exit 1) (.skip)))) (.seq (.seq (.post [0, 3, 11] (.region digits_class.r3)) (.post [3, 11] (.cond (.t 11) (.skip) (.seq (.post [0, 3, 11] (.region digits_class.r4)) (.post [3, 11] (.cond (.t 11) (.skip) (.post [3, 11] (.region digits_class.r5)))))))) (.post [] (.cond (.t 11) (.exit 2) (.skip))))) (.exit 0)))) (.post [3] (.region digits_class.r6))))) (.seq (.seq (.post [2] (.region digits_class.r7)) (.ret)) (.exit 0))))) (.seq (.post [2] (.region digits_class.r8)) (.ret))))⟩
theorem digits_class.ok : okFunc Tryz.prog Tryz.f56 digits_class = true := by kernel_rfl
theorem digits_class.at : Tryz.prog.funcs[n_digits_class]? = some Tryz.f56 := Tryz.func56
def digits_Split.r0 : List AStep := [
  ⟨some 2, none, .op (.mov (.c (.s [])))⟩,
  ⟨some 3, none, .op (.mov (.c (.s [])))⟩]
def digits_Split.r1 : List AStep := [
  ⟨some 7, none, .op (.mov (.t 0))⟩,
  ⟨some 8, none, .op (.bin .eql (.t 7) (.c (.s [])))⟩]
def digits_Split.r2 : List AStep := [
  ⟨some 2, none, .op (.mov (.c (.s [])))⟩,
  ⟨some 3, none, .op (.mov (.c (.s [])))⟩]
def digits_Split.r3 : List AStep := [
  ⟨some 4, none, .op (.mov (.c (.i .i64 1)))⟩]
def digits_Split.r4 : List AStep := [
  ⟨some 9, none, .op (.mov (.t 0))⟩,
  ⟨some 10, none, .op (.idx (.t 9) (.c (.i .i64 0)))⟩,
  ⟨some 11, none, .call n_digits_class [.t 10]⟩,
  ⟨some 12, none, .op (.bin .neq (.t 11) (.c (.i .i64 2)))⟩]
def digits_Split.r5 : List AStep := [
  ⟨some 13, none, .op (.mov (.t 0))⟩,
  ⟨some 14, none, .call n_strings_TrimLeft [.t 13, .c (.s [48, 49, 50, 51, 52, 53, 54, 55, 56, 57])]⟩,
  ⟨some 5, none, .op (.mov (.t 14))⟩]
def digits_Split.r6 : List AStep := [
  ⟨some 15, none, .op (.mov (.t 0))⟩,
  ⟨some 16, none, .op (.mov (.t 0))⟩,
  ⟨some 17, none, .op (.len true (.t 16))⟩,
  ⟨some 18, none, .op (.mov (.t 5))⟩,
  ⟨some 19, none, .op (.len true (.t 18))⟩,
  ⟨some 20, none, .op (.bin .sub (.t 17) (.t 19))⟩,
  ⟨some 21, none, .op (.sls (.t 15) none (some (.t 20)))⟩,
  ⟨some 22, none, .op (.mov (.t 5))⟩,
  ⟨some 2, none, .op (.mov (.t 21))⟩,
  ⟨some 3, none, .op (.mov (.t 22))⟩]
def digits_Split.r7 : List AStep := [
  ⟨some 23, none, .op (.mov (.t 0))⟩,
  ⟨some 24, none, .op (.len true (.t 23))⟩,
  ⟨some 25, none, .op (.mov (.c (.i .i64 0)))⟩]
def digits_Split.r8 : List AStep := [
  ⟨some 26, none, .op (.bin .lss (.t 25) (.t 24))⟩]
def digits_Split.r9 : List AStep := [
  ⟨some 27, none, .op (.mov (.t 25))⟩,
  ⟨some 6, none, .op (.mov (.t 27))⟩]
def digits_Split.r10 : List AStep := [
  ⟨some 28, none, .op (.mov (.t 0))⟩,
  ⟨some 29, none, .op (.mov (.t 6))⟩,
  ⟨some 30, none, .op (.idx (.t 28) (.t 29))⟩,
  ⟨some 31, none, .call n_digits_class [.t 30]⟩,
  ⟨some 32, none, .op (.mov (.t 4))⟩,
  ⟨some 33, none, .op (.bin .lss (.t 31) (.t 32))⟩]
def digits_Split.r11 : List AStep := [
  ⟨some 34, none, .op (.mov (.t 0))⟩,
  ⟨some 35, none, .op (.mov (.t 6))⟩,
  ⟨some 36, none, .op (.sls (.t 34) none (some (.t 35)))⟩,
  ⟨some 37, none, .op (.mov (.t 0))⟩,
  ⟨some 38, none, .op (.mov (.t 6))⟩,
  ⟨some 39, none, .op (.sls (.t 37) (some (.t 38)) none)⟩,
  ⟨some 2, none, .op (.mov (.t 36))⟩,
  ⟨some 3, none, .op (.mov (.t 39))⟩]
def digits_Split.r12 : List AStep := [
  ⟨some 40, none, .op (.bin .add (.t 25) (.c (.i .i64 1)))⟩,
  ⟨some 25, none, .op (.mov (.t 40))⟩]
def digits_Split.l0 : ACode := .seq (.post [0, 4, 24, 25, 26] (.region digits_Split.r8)) (.seq (.post [0, 4, 24, 25] (.cond (.t 26) (.skip) (.exit 0))) (.seq (.post [0, 4, 24, 25] (.block 1 (.seq (.post [0, 4, 6, 24, 25] (.region digits_Split.r9)) (.seq (.post [0, 4, 6, 24, 25, 33] (.region digits_Split.r10)) (.post [0, 4, 24, 25] (.cond (.t 33) (.seq (.post [2, 3] (.draw [0, 0, 3, 0, 0, 24, 7, 127] digits_Split.r11)) (.ret)) (.skip))))))) (.post [0, 4, 24, 25] (.region digits_Split.r12))))
def digits_Split.r13 : List AStep := [
  ⟨some 41, none, .op (.mov (.t 0))⟩,
  ⟨some 2, none, .op (.mov (.t 41))⟩,
  ⟨some 3, none, .op (.mov (.c (.s [])))⟩]
def digits_Split : AFunc := ⟨42, [.t 2, .t 3], .seq (.post [0] (.region digits_Split.r0)) (.seq (.seq (.post [0, 8] (.region digits_Split.r1)) (.post [0] (.cond (.t 8) (.seq (.post [2, 3] (.region digits_Split.r2)) (.ret)) (.skip)))) (.seq (.post [0, 4] (.region digits_Split.r3)) (.seq (.seq (.post [0, 4, 12] (.region digits_Split.r4)) (.post [0, 4] (.cond (.t 12) (.seq (.post [0, 5] (.region digits_Split.r5)) (.seq (.post [2, 3] (.region digits_Split.r6)) (.ret))) (.skip)))) (.seq (.seq (.post [0, 4, 24, 25] (.region digits_Split.r7)) (.post [0] (.block 0 (.loop digits_Split.l0)))) (.seq (.post [2, 3] (.region digits_Split.r13)) (.ret))))))⟩
theorem digits_Split.ok : okFunc Tryz.prog Tryz.f55 digits_Split = true := by kernel_rfl
theorem digits_Split.at : Tryz.prog.funcs[n_digits_Split]? = some Tryz.f55 := Tryz.func55
def digits_Name.r0 : List AStep := [
  ⟨some 2, none, .op (.mov (.c (.b false)))⟩]
def digits_Name.r1 : List AStep := [
  ⟨some 6, none, .op (.mov (.t 0))⟩,
  ⟨some 7, none, .call n_digits_Split [.t 6]⟩,
  ⟨some 5, none, .op (.mov (.t 7))⟩,
  ⟨some 8, none, .op (.ext 0 (.t 5))⟩,
  ⟨some 9, none, .op (.ext 1 (.t 5))⟩,
  ⟨some 3, none, .op (.mov (.t 8))⟩,
  ⟨some 4, none, .op (.mov (.t 9))⟩]
def digits_Name.r2 : List AStep := [
  ⟨some 10, none, .op (.mov (.t 3))⟩,
  ⟨some 11, none, .op (.bin .neq (.t 10) (.c (.s [])))⟩,
  ⟨some 12, none, .op (.mov (.t 11))⟩,
  ⟨some 13, (some (12, true)), .op (.mov (.t 4))⟩,
  ⟨some 14, (some (12, true)), .op (.bin .eql (.t 13) (.c (.s [])))⟩,
  ⟨some 15, none, .op (.pick (.t 12) (.t 14) (.c (.b false)))⟩,
  ⟨some 16, none, .op (.mov (.t 15))⟩,
  ⟨some 17, (some (16, true)), .op (.mov (.t 0))⟩,
  ⟨some 18, (some (16, true)), .op (.len true (.t 17))⟩,
  ⟨some 19, (some (16, true)), .op (.bin .leq (.t 18) (.c (.i .i64 16)))⟩,
  ⟨some 20, none, .op (.pick (.t 16) (.t 19) (.c (.b false)))⟩,
  ⟨some 21, none, .op (.mov (.t 20))⟩,
  ⟨some 22, (some (21, true)), .op (.mov (.t 0))⟩,
  ⟨some 23, (some (21, true)), .op (.idx (.t 22) (.c (.i .i64 0)))⟩,
  ⟨some 24, (some (21, true)), .call n_digits_class [.t 23]⟩,
  ⟨some 25, (some (21, true)), .op (.bin .eql (.t 24) (.c (.i .i64 2)))⟩,
  ⟨some 26, none, .op (.pick (.t 21) (.t 25) (.c (.b false)))⟩,
  ⟨some 2, none, .op (.mov (.t 26))⟩]
def digits_Name : AFunc := ⟨27, [.t 2], .seq (.post [0] (.region digits_Name.r0)) (.seq (.post [0, 3, 4] (.region digits_Name.r1)) (.seq (.post [2] (.region digits_Name.r2)) (.ret)))⟩
theorem digits_Name.ok : okFunc Tryz.prog Tryz.f26 digits_Name = true := by kernel_rfl
theorem digits_Name.at : Tryz.prog.funcs[n_digits_Name]? = some Tryz.f26 := Tryz.func26
def system_each_api_Obj.r0 : List AStep := [
  ⟨some 6, none, .op (.mov (.c (.i .i64 0)))⟩]
def system_each_api_Obj.r1 : List AStep := [
  ⟨some 10, none, .op (.mov (.t 0))⟩,
  ⟨some 11, none, .op (.len false (.t 10))⟩,
  ⟨some 12, none, .op (.mov (.c (.i .i64 0)))⟩]
def system_each_api_Obj.r2 : List AStep := [
  ⟨some 13, none, .op (.bin .lss (.t 12) (.t 11))⟩]
def system_each_api_Obj.r3 : List AStep := [
  ⟨some 14, none, .op (.mov (.t 12))⟩,
  ⟨some 15, none, .op (.iad 3 (.t 10) (.t 12))⟩,
  ⟨some 16, none, .op (.load true 3 (.t 15))⟩,
  ⟨some 8, none, .op (.new [.s [], .s [], .sl none 0 0])⟩,
  ⟨some 7, none, .op (.mov (.t 14))⟩,
  ⟨none, none, .op (.store 3 (.t 8) (.t 16))⟩]
def system_each_api_Obj.r4 : List AStep := [
  ⟨some 17, none, .op (.mov (.t 1))⟩,
  ⟨some 18, none, .op (.load true 3 (.t 8))⟩,
  ⟨some 19, none, .callv (.t 17) [.t 18]⟩,
  ⟨some 9, none, .op (.mov (.t 19))⟩]
def system_each_api_Obj.r5 : List AStep := [
  ⟨some 20, none, .op (.mov (.t 9))⟩,
  ⟨some 21, none, .op (.bin .neq (.t 20) (.c (.i .i64 0)))⟩]
def system_each_api_Obj.r6 : List AStep := [
  ⟨some 22, none, .op (.mov (.t 9))⟩,
  ⟨some 6, none, .op (.mov (.t 22))⟩]
def system_each_api_Obj.r7 : List AStep := [
  ⟨some 23, none, .op (.mov (.t 7))⟩,
  ⟨some 24, none, .op (.bin .gtr (.t 23) (.c (.i .i64 0)))⟩,
  ⟨some 25, none, .op (.mov (.t 24))⟩,
  ⟨some 26, (some (25, true)), .op (.mov (.t 2))⟩,
  ⟨some 27, (some (25, true)), .op (.mov (.t 0))⟩,
  ⟨some 28, (some (25, true)), .op (.mov (.t 7))⟩,
  ⟨some 29, (some (25, true)), .op (.bin .sub (.t 28) (.c (.i .i64 1)))⟩,
  ⟨some 30, (some (25, true)), .op (.iad 3 (.t 27) (.t 29))⟩,
  ⟨some 31, (some (25, true)), .op (.load true 3 (.t 30))⟩,
  ⟨some 32, (some (25, true)), .op (.load true 3 (.t 8))⟩,
  ⟨some 33, (some (25, true)), .callv (.t 26) [.t 31, .t 32]⟩,
  ⟨some 34, (some (25, true)), .op (.bin .geq (.t 33) (.c (.i .i64 0)))⟩,
  ⟨some 35, none, .op (.pick (.t 25) (.t 34) (.c (.b false)))⟩]
def system_each_api_Obj.r8 : List AStep := [
  ⟨some 6, none, .op (.mov (.c (.i .i64 13)))⟩]
def system_each_api_Obj.r9 : List AStep := [
  ⟨some 36, none, .op (.bin .add (.t 12) (.c (.i .i64 1)))⟩,
  ⟨some 12, none, .op (.mov (.t 36))⟩]
def system_each_api_Obj.l0 : ACode := .seq (.post [0, 1, 2, 10, 11, 12, 13] (.region system_each_api_Obj.r2)) (.seq (.post [0, 1, 2, 10, 11, 12] (.cond (.t 13) (.skip) (.exit 0))) (.seq (.post [0, 1, 2, 10, 11, 12] (.block 1 (.seq (.post [0, 1, 2, 7, 8, 10, 11, 12] (.region system_each_api_Obj.r3)) (.seq (.seq (.post [0, 1, 2, 7, 8, 9, 10, 11, 12] (.region system_each_api_Obj.r4)) (.seq (.post [0, 1, 2, 7, 8, 9, 10, 11, 12, 21] (.region system_each_api_Obj.r5)) (.post [0, 1, 2, 7, 8, 10, 11, 12] (.cond (.t 21) (.seq (.post [6] (.region system_each_api_Obj.r6)) (.ret)) (.skip))))) (.seq (.post [0, 1, 2, 10, 11, 12, 35] (.draw [0, 1, 3, 7, 7, 7, 39, 119, 247, 7, 1023, 2047, 4095] system_each_api_Obj.r7)) (.post [0, 1, 2, 10, 11, 12] (.cond (.t 35) (.seq (.post [6] (.region system_each_api_Obj.r8)) (.ret)) (.skip)))))))) (.post [0, 1, 2, 10, 11, 12] (.region system_each_api_Obj.r9))))
def system_each_api_Obj.r10 : List AStep := [
  ⟨some 6, none, .op (.mov (.c (.i .i64 0)))⟩]
def system_each_api_Obj : AFunc := ⟨37, [.t 6], .seq (.post [0, 1, 2] (.region system_each_api_Obj.r0)) (.seq (.seq (.post [0, 1, 2, 10, 11, 12] (.region system_each_api_Obj.r1)) (.post [] (.block 0 (.loop system_each_api_Obj.l0)))) (.seq (.post [6] (.region system_each_api_Obj.r10)) (.ret)))⟩
theorem system_each_api_Obj.ok : okFunc Tryz.prog Tryz.f57 system_each_api_Obj = true := by kernel_rfl
theorem system_each_api_Obj.at : Tryz.prog.funcs[n_system_each_api_Obj]? = some Tryz.f57 := Tryz.func57
def digits_Read.r0 : List AStep := [
  ⟨some 2, none, .op (.mov (.c (.i .i64 0)))⟩,
  ⟨some 3, none, .op (.mov (.c (.i .i64 0)))⟩]
def digits_Read.r1 : List AStep := [
  ⟨some 7, none, .op (.mov (.t 0))⟩,
  ⟨some 8, none, .op (.bin .eql (.t 7) (.c (.s [])))⟩]
def digits_Read.r2 : List AStep := [
  ⟨some 2, none, .op (.mov (.c (.i .i64 0)))⟩,
  ⟨some 3, none, .op (.mov (.c (.i .i64 1)))⟩]
def digits_Read.r3 : List AStep := [
  ⟨some 9, none, .op (.mov (.t 0))⟩,
  ⟨some 10, none, .op (.len true (.t 9))⟩,
  ⟨some 11, none, .op (.mov (.c (.i .i64 0)))⟩]
def digits_Read.r4 : List AStep := [
  ⟨some 12, none, .op (.bin .lss (.t 11) (.t 10))⟩]
def digits_Read.r5 : List AStep := [
  ⟨some 13, none, .op (.mov (.t 11))⟩,
  ⟨some 4, none, .op (.mov (.t 13))⟩]
def digits_Read.r6 : List AStep := [
  ⟨some 14, none, .op (.mov (.t 0))⟩,
  ⟨some 15, none, .op (.mov (.t 4))⟩,
  ⟨some 16, none, .op (.idx (.t 14) (.t 15))⟩,
  ⟨some 17, none, .call n_digits_class [.t 16]⟩,
  ⟨some 18, none, .op (.bin .neq (.t 17) (.c (.i .i64 1)))⟩]
def digits_Read.r7 : List AStep := [
  ⟨some 2, none, .op (.mov (.c (.i .i64 0)))⟩,
  ⟨some 3, none, .op (.mov (.c (.i .i64 3)))⟩]
def digits_Read.r8 : List AStep := [
  ⟨some 19, none, .op (.bin .add (.t 11) (.c (.i .i64 1)))⟩,
  ⟨some 11, none, .op (.mov (.t 19))⟩]
def digits_Read.l0 : ACode := .seq (.post [0, 10, 11, 12] (.region digits_Read.r4)) (.seq (.post [0, 10, 11] (.cond (.t 12) (.skip) (.exit 0))) (.seq (.post [0, 10, 11] (.block 1 (.seq (.post [0, 4, 10, 11] (.region digits_Read.r5)) (.seq (.post [0, 10, 11, 18] (.region digits_Read.r6)) (.post [0, 10, 11] (.cond (.t 18) (.seq (.post [2, 3] (.region digits_Read.r7)) (.ret)) (.skip))))))) (.post [0, 10, 11] (.region digits_Read.r8))))
def digits_Read.r9 : List AStep := [
  ⟨some 21, none, .op (.mov (.t 0))⟩,
  ⟨some 22, none, .op (.idx (.t 21) (.c (.i .i64 0)))⟩,
  ⟨some 23, none, .op (.bin .eql (.t 22) (.c (.i .u8 48)))⟩,
  ⟨some 24, none, .op (.mov (.t 23))⟩,
  ⟨some 25, (some (24, true)), .op (.mov (.t 0))⟩,
  ⟨some 26, (some (24, true)), .op (.len true (.t 25))⟩,
  ⟨some 27, (some (24, true)), .op (.bin .gtr (.t 26) (.c (.i .i64 1)))⟩,
  ⟨some 28, none, .op (.pick (.t 24) (.t 27) (.c (.b false)))⟩,
  ⟨some 20, none, .op (.mov (.t 28))⟩]
def digits_Read.r10 : List AStep := [
  ⟨some 2, none, .op (.mov (.c (.i .i64 0)))⟩,
  ⟨some 3, none, .op (.mov (.c (.i .i64 3)))⟩]
def digits_Read.r11 : List AStep := [
  ⟨some 30, none, .op (.mov (.t 0))⟩,
  ⟨some 31, none, .op (.len true (.t 30))⟩,
  ⟨some 32, none, .op (.bin .gtr (.t 31) (.c (.i .i64 9)))⟩,
  ⟨some 29, none, .op (.mov (.t 32))⟩]
def digits_Read.r12 : List AStep := [
  ⟨some 2, none, .op (.mov (.c (.i .i64 0)))⟩,
  ⟨some 3, none, .op (.mov (.c (.i .i64 2)))⟩]
def digits_Read.r13 : List AStep := [
  ⟨some 34, none, .op (.mov (.t 0))⟩,
  ⟨some 35, none, .call n_strconv_Atoi [.t 34]⟩,
  ⟨some 33, none, .op (.mov (.t 35))⟩,
  ⟨some 36, none, .op (.ext 0 (.t 33))⟩,
  ⟨some 37, none, .op (.ext 1 (.t 33))⟩,
  ⟨some 5, none, .op (.mov (.t 36))⟩,
  ⟨some 6, none, .op (.mov (.t 37))⟩]
def digits_Read.r14 : List AStep := [
  ⟨some 38, none, .op (.mov (.t 6))⟩,
  ⟨some 39, none, .op (.eqk .ifn true (.t 38) (.c (.nifc)))⟩,
  ⟨some 40, none, .op (.mov (.t 39))⟩,
  ⟨some 41, (some (40, false)), .op (.mov (.t 5))⟩,
  ⟨some 42, (some (40, false)), .op (.bin .gtr (.t 41) (.c (.i .i64 268435456)))⟩,
  ⟨some 43, none, .op (.pick (.t 40) (.c (.b true)) (.t 42))⟩]
def digits_Read.r15 : List AStep := [
  ⟨some 2, none, .op (.mov (.c (.i .i64 0)))⟩,
  ⟨some 3, none, .op (.mov (.c (.i .i64 2)))⟩]
def digits_Read.r16 : List AStep := [
  ⟨some 44, none, .op (.mov (.t 5))⟩,
  ⟨some 2, none, .op (.mov (.t 44))⟩,
  ⟨some 3, none, .op (.mov (.c (.i .i64 0)))⟩]
def digits_Read : AFunc := ⟨45, [.t 2, .t 3], .seq (.post [0] (.region digits_Read.r0)) (.seq (.seq (.post [0, 8] (.region digits_Read.r1)) (.post [0] (.cond (.t 8) (.seq (.post [2, 3] (.region digits_Read.r2)) (.ret)) (.skip)))) (.seq (.seq (.post [0, 10, 11] (.region digits_Read.r3)) (.post [0] (.block 0 (.loop digits_Read.l0)))) (.seq (.post [0] (.block 2 (.seq (.post [0, 20] (.region digits_Read.r9)) (.post [0] (.cond (.t 20) (.seq (.post [2, 3] (.region digits_Read.r10)) (.ret)) (.seq (.post [0, 29] (.region digits_Read.r11)) (.post [0] (.cond (.t 29) (.seq (.post [2, 3] (.region digits_Read.r12)) (.ret)) (.skip))))))))) (.seq (.post [5, 6] (.region digits_Read.r13)) (.seq (.seq (.post [5, 43] (.region digits_Read.r14)) (.post [5] (.cond (.t 43) (.seq (.post [2, 3] (.region digits_Read.r15)) (.ret)) (.skip)))) (.seq (.post [2, 3] (.region digits_Read.r16)) (.ret)))))))⟩
theorem digits_Read.ok : okFunc Tryz.prog Tryz.f161 digits_Read = true := by kernel_rfl
theorem digits_Read.at : Tryz.prog.funcs[n_digits_Read]? = some Tryz.f161 := Tryz.func161
def names_number.r0 : List AStep := [
  ⟨some 2, none, .op (.mov (.c (.i .i64 0)))⟩,
  ⟨some 3, none, .op (.mov (.c (.b false)))⟩]
def names_number.r1 : List AStep := [
  ⟨some 7, none, .op (.mov (.t 0))⟩,
  ⟨some 8, none, .call n_digits_Read [.t 7]⟩,
  ⟨some 6, none, .op (.mov (.t 8))⟩,
  ⟨some 9, none, .op (.ext 0 (.t 6))⟩,
  ⟨some 10, none, .op (.ext 1 (.t 6))⟩,
  ⟨some 4, none, .op (.mov (.t 9))⟩,
  ⟨some 5, none, .op (.mov (.t 10))⟩]
def names_number.r2 : List AStep := [
  ⟨some 11, none, .op (.mov (.t 4))⟩,
  ⟨some 12, none, .op (.mov (.t 5))⟩,
  ⟨some 13, none, .op (.bin .eql (.t 12) (.c (.i .i64 0)))⟩,
  ⟨some 2, none, .op (.mov (.t 11))⟩,
  ⟨some 3, none, .op (.mov (.t 13))⟩]
def names_number : AFunc := ⟨14, [.t 2, .t 3], .seq (.post [0] (.region names_number.r0)) (.seq (.post [4, 5] (.region names_number.r1)) (.seq (.post [2, 3] (.region names_number.r2)) (.ret)))⟩
theorem names_number.ok : okFunc Tryz.prog Tryz.f138 names_number = true := by kernel_rfl
theorem names_number.at : Tryz.prog.funcs[n_names_number]? = some Tryz.f138 := Tryz.func138
def names_read.r0 : List AStep := [
  ⟨some 2, none, .op (.new [.i .i64 0, .s [], .i .i64 0, .s [], .i .i64 0, .i .i64 0])⟩,
  ⟨some 3, none, .op (.mov (.c (.b false)))⟩]
def names_read.r1 : List AStep := [
  ⟨some 9, none, .op (.build [.i .i64 0, .s [], .i .i64 0, .s [], .i .i64 0, .i .i64 0] [(5, 1, .c (.i .i64 (-1)))])⟩,
  ⟨some 4, none, .op (.new [.i .i64 0, .s [], .i .i64 0, .s [], .i .i64 0, .i .i64 0])⟩,
  ⟨none, none, .op (.store 6 (.t 4) (.t 9))⟩]
def names_read.r2 : List AStep := [
  ⟨some 5, none, .op (.mov (.c (.b true)))⟩]
def names_read.r3 : List AStep := [
  ⟨some 10, none, .op (.mov (.t 0))⟩,
  ⟨some 11, none, .call n_strings_IndexByte [.t 10, .c (.i .u8 43)]⟩,
  ⟨some 6, none, .op (.mov (.t 11))⟩]
def names_read.r4 : List AStep := [
  ⟨some 12, none, .op (.mov (.t 6))⟩,
  ⟨some 13, none, .op (.bin .geq (.t 12) (.c (.i .i64 0)))⟩]
def names_read.r5 : List AStep := [
  ⟨some 15, none, .op (.mov (.t 0))⟩,
  ⟨some 16, none, .op (.mov (.t 6))⟩,
  ⟨some 17, none, .op (.bin .add (.t 16) (.c (.i .i64 1)))⟩,
  ⟨some 18, none, .op (.sls (.t 15) (some (.t 17)) none)⟩,
  ⟨some 19, none, .call n_names_number [.t 18]⟩,
  ⟨some 14, none, .op (.mov (.t 19))⟩,
  ⟨some 20, none, .op (.ext 0 (.t 14))⟩,
  ⟨some 21, none, .op (.ext 1 (.t 14))⟩,
  ⟨some 22, none, .op (.fadr 5 (.t 4))⟩,
  ⟨none, none, .op (.store 1 (.t 22) (.t 20))⟩,
  ⟨some 5, none, .op (.mov (.t 21))⟩]
def names_read.r6 : List AStep := [
  ⟨some 23, none, .op (.mov (.t 5))⟩,
  ⟨some 24, none, .op (.un .not (.t 23))⟩]
def names_read.r7 : List AStep := [
  ⟨some 25, none, .op (.load true 6 (.t 4))⟩,
  ⟨none, none, .op (.store 6 (.t 2) (.t 25))⟩,
  ⟨some 3, none, .op (.mov (.c (.b false)))⟩]
def names_read.r8 : List AStep := [
  ⟨some 26, none, .op (.mov (.t 0))⟩,
  ⟨some 27, none, .op (.mov (.t 6))⟩,
  ⟨some 28, none, .op (.sls (.t 26) none (some (.t 27)))⟩,
  ⟨some 0, none, .op (.mov (.t 28))⟩]
def names_read.r9 : List AStep := [
  ⟨some 30, none, .op (.mov (.t 0))⟩,
  ⟨some 31, none, .call n_digits_Split [.t 30]⟩,
  ⟨some 29, none, .op (.mov (.t 31))⟩,
  ⟨some 32, none, .op (.ext 0 (.t 29))⟩,
  ⟨some 33, none, .op (.ext 1 (.t 29))⟩,
  ⟨some 7, none, .op (.mov (.t 32))⟩,
  ⟨some 8, none, .op (.mov (.t 33))⟩]
def names_read.r10 : List AStep := [
  ⟨some 34, none, .op (.mov (.t 8))⟩,
  ⟨some 35, none, .op (.bin .eql (.t 34) (.c (.s [])))⟩]
def names_read.r11 : List AStep := [
  ⟨some 36, none, .op (.mov (.t 7))⟩,
  ⟨some 37, none, .op (.fadr 0 (.t 4))⟩,
  ⟨none, none, .op (.store 1 (.t 37) (.c (.i .i64 5)))⟩,
  ⟨some 38, none, .op (.fadr 3 (.t 4))⟩,
  ⟨none, none, .op (.store 1 (.t 38) (.t 36))⟩]
def names_read.r12 : List AStep := [
  ⟨some 39, none, .op (.load true 6 (.t 4))⟩,
  ⟨none, none, .op (.store 6 (.t 2) (.t 39))⟩,
  ⟨some 3, none, .op (.mov (.c (.b true)))⟩]
def names_read.r13 : List AStep := [
  ⟨some 40, none, .op (.mov (.t 7))⟩,
  ⟨some 41, none, .op (.fadr 1 (.t 4))⟩,
  ⟨none, none, .op (.store 1 (.t 41) (.t 40))⟩]
def names_read.r14 : List AStep := [
  ⟨some 42, none, .op (.mov (.t 8))⟩,
  ⟨some 43, none, .op (.idx (.t 42) (.c (.i .i64 0)))⟩,
  ⟨some 44, none, .op (.bin .eql (.t 43) (.c (.i .u8 126)))⟩]
def names_read.r15 : List AStep := [
  ⟨some 46, none, .op (.mov (.t 8))⟩,
  ⟨some 47, none, .op (.sls (.t 46) (some (.c (.i .i64 1))) none)⟩,
  ⟨some 48, none, .call n_digits_Split [.t 47]⟩,
  ⟨some 45, none, .op (.mov (.t 48))⟩,
  ⟨some 49, none, .op (.ext 0 (.t 45))⟩,
  ⟨some 50, none, .op (.ext 1 (.t 45))⟩,
  ⟨some 7, none, .op (.mov (.t 49))⟩,
  ⟨some 8, none, .op (.mov (.t 50))⟩]
def names_read.r16 : List AStep := [
  ⟨some 52, none, .op (.mov (.t 7))⟩,
  ⟨some 53, none, .call n_names_number [.t 52]⟩,
  ⟨some 51, none, .op (.mov (.t 53))⟩,
  ⟨some 54, none, .op (.ext 0 (.t 51))⟩,
  ⟨some 55, none, .op (.ext 1 (.t 51))⟩,
  ⟨some 56, none, .op (.fadr 2 (.t 4))⟩,
  ⟨none, none, .op (.store 1 (.t 56) (.t 54))⟩,
  ⟨some 5, none, .op (.mov (.t 55))⟩]
def names_read.r17 : List AStep := [
  ⟨some 57, none, .op (.mov (.t 5))⟩,
  ⟨some 58, none, .op (.un .not (.t 57))⟩,
  ⟨some 59, none, .op (.mov (.t 58))⟩,
  ⟨some 60, (some (59, false)), .op (.mov (.t 8))⟩,
  ⟨some 61, (some (59, false)), .op (.bin .eql (.t 60) (.c (.s [])))⟩,
  ⟨some 62, none, .op (.pick (.t 59) (.c (.b true)) (.t 61))⟩]
def names_read.r18 : List AStep := [
  ⟨some 63, none, .op (.load true 6 (.t 4))⟩,
  ⟨none, none, .op (.store 6 (.t 2) (.t 63))⟩,
  ⟨some 3, none, .op (.mov (.c (.b false)))⟩]
def names_read.r19 : List AStep := [
  ⟨some 64, none, .op (.mov (.t 8))⟩,
  ⟨some 65, none, .op (.idx (.t 64) (.c (.i .i64 0)))⟩,
  ⟨some 66, none, .call n_strings_IndexByte [.c (.s [32, 46, 36, 64, 40, 32, 37, 35]), .t 65]⟩,
  ⟨some 67, none, .op (.fadr 0 (.t 4))⟩,
  ⟨none, none, .op (.store 1 (.t 67) (.t 66))⟩]
def names_read.r20 : List AStep := [
  ⟨some 68, none, .op (.mov (.t 8))⟩,
  ⟨some 69, none, .op (.sls (.t 68) (some (.c (.i .i64 1))) none)⟩,
  ⟨some 8, none, .op (.mov (.t 69))⟩]
def names_read.r21 : List AStep := [
  ⟨some 70, none, .op (.fadr 0 (.t 4))⟩,
  ⟨some 71, none, .op (.load false 1 (.t 70))⟩]
def names_read.r22 : List AStep := [
  ⟨some 73, none, .op (.bin .eql (.t 71) (.c (.i .i64 1)))⟩,
  ⟨some 72, none, .op (.mov (.t 73))⟩]
def names_read.r23 : List AStep := [
  ⟨some 74, none, .op (.bin .eql (.t 71) (.c (.i .i64 6)))⟩,
  ⟨some 72, none, .op (.mov (.t 74))⟩]
def names_read.r24 : List AStep := [
  ⟨some 75, none, .op (.mov (.t 8))⟩,
  ⟨some 76, none, .op (.fadr 3 (.t 4))⟩,
  ⟨none, none, .op (.store 1 (.t 76) (.t 75))⟩]
def names_read.r25 : List AStep := [
  ⟨some 78, none, .op (.bin .eql (.t 71) (.c (.i .i64 4)))⟩,
  ⟨some 77, none, .op (.mov (.t 78))⟩]
def names_read.r26 : List AStep := [
  ⟨some 79, none, .op (.load true 6 (.t 4))⟩,
  ⟨some 80, none, .op (.mov (.t 8))⟩,
  ⟨some 81, none, .op (.bin .eql (.t 80) (.c (.s [41])))⟩,
  ⟨none, none, .op (.store 6 (.t 2) (.t 79))⟩,
  ⟨some 3, none, .op (.mov (.t 81))⟩]
def names_read.r27 : List AStep := [
  ⟨some 83, none, .op (.bin .eql (.t 71) (.c (.i .i64 2)))⟩,
  ⟨some 82, none, .op (.mov (.t 83))⟩]
def names_read.r28 : List AStep := [
  ⟨some 84, none, .op (.bin .eql (.t 71) (.c (.i .i64 3)))⟩,
  ⟨some 82, none, .op (.mov (.t 84))⟩]
def names_read.r29 : List AStep := [
  ⟨some 85, none, .op (.bin .eql (.t 71) (.c (.i .i64 7)))⟩,
  ⟨some 82, none, .op (.mov (.t 85))⟩]
def names_read.r30 : List AStep := [
  ⟨some 87, none, .op (.mov (.t 8))⟩,
  ⟨some 88, none, .call n_names_number [.t 87]⟩,
  ⟨some 86, none, .op (.mov (.t 88))⟩,
  ⟨some 89, none, .op (.ext 0 (.t 86))⟩,
  ⟨some 90, none, .op (.ext 1 (.t 86))⟩,
  ⟨some 91, none, .op (.fadr 4 (.t 4))⟩,
  ⟨none, none, .op (.store 1 (.t 91) (.t 89))⟩,
  ⟨some 5, none, .op (.mov (.t 90))⟩]
def names_read.r31 : List AStep := [
  ⟨some 5, none, .op (.mov (.c (.b false)))⟩]
def names_read.r32 : List AStep := [
  ⟨some 92, none, .op (.load true 6 (.t 4))⟩,
  ⟨some 93, none, .op (.mov (.t 5))⟩,
  ⟨none, none, .op (.store 6 (.t 2) (.t 92))⟩,
  ⟨some 3, none, .op (.mov (.t 93))⟩]
def names_read : AFunc := ⟨94, [.cell 2 true 6, .t 3], .seq (.post [0, 2] (.region names_read.r0)) (.seq (.post [0, 2, 4] (.region names_read.r1)) (.seq (.post [0, 2, 4, 5] (.region names_read.r2)) (.seq (.seq (.post [0, 2, 4, 5, 6] (.region names_read.r3)) (.seq (.post [0, 2, 4, 5, 6, 13] (.region names_read.r4)) (.post [0, 2, 4, 5] (.cond (.t 13) (.seq (.seq (.post [0, 2, 4, 5, 6] (.region names_read.r5)) (.seq (.post [0, 2, 4, 5, 6, 24] (.region names_read.r6)) (.post [0, 2, 4, 5, 6] (.cond (.t 24) (.seq (.post [2, 3] (.region names_read.r7)) (.ret)) (.skip))))) (.post [0, 2, 4, 5] (.region names_read.r8))) (.skip))))) (.seq (.post [2, 4, 5, 7, 8] (.region names_read.r9)) (.seq (.seq (.post [2, 4, 5, 7, 8, 35] (.region names_read.r10)) (.post [2, 4, 5, 7, 8] (.cond (.t 35) (.seq (.post [2, 4] (.region names_read.r11)) (.seq (.post [2, 3] (.region names_read.r12)) (.ret))) (.skip)))) (.seq (.post [2, 4, 5, 8] (.region names_read.r13)) (.seq (.seq (.post [2, 4, 5, 8, 44] (.region names_read.r14)) (.post [2, 4, 5, 8] (.cond (.t 44) (.seq (.post [2, 4, 7, 8] (.region names_read.r15)) (.seq (.post [2, 4, 5, 8] (.region names_read.r16)) (.seq (.post [2, 4, 5, 8, 62] (.region names_read.r17)) (.post [2, 4, 5, 8] (.cond (.t 62) (.seq (.post [2, 3] (.region names_read.r18)) (.ret)) (.skip)))))) (.skip)))) (.seq (.post [2, 4, 5, 8] (.region names_read.r19)) (.seq (.seq (.post [2, 4, 5, 8] (.region names_read.r20)) (.seq (.post [2, 4, 5, 8, 71] (.region names_read.r21)) (.post [2, 4, 5] (.block 0 (.seq (.seq (.post [2, 4, 5, 8, 71, 72] (.region names_read.r22)) (.post [2, 4, 5, 8, 71, 72] (.cond (.t 72) (.skip) (.post [2, 4, 5, 8, 71, 72] (.region names_read.r23))))) (.post [2, 4, 5] (.cond (.t 72) (.post [2, 4, 5] (.region names_read.r24)) (.seq (.post [2, 4, 8, 71, 77] (.region names_read.r25)) (.post [2, 4, 5] (.cond (.t 77) (.seq (.post [2, 3] (.region names_read.r26)) (.ret)) (.seq (.seq (.post [2, 4, 8, 71, 82] (.region names_read.r27)) (.post [2, 4, 8, 82] (.cond (.t 82) (.skip) (.seq (.post [2, 4, 8, 71, 82] (.region names_read.r28)) (.post [2, 4, 8, 82] (.cond (.t 82) (.skip) (.post [2, 4, 8, 82] (.region names_read.r29)))))))) (.post [2, 4, 5] (.cond (.t 82) (.post [2, 4, 5] (.region names_read.r30)) (.post [2, 4, 5] (.region names_read.r31))))))))))))))) (.seq (.post [2, 3] (.region names_read.r32)) (.ret)))))))))))⟩
theorem names_read.ok : okFunc Tryz.prog Tryz.f107 names_read = true := by kernel_rfl
theorem names_read.at : Tryz.prog.funcs[n_names_read]? = some Tryz.f107 := Tryz.func107
def names_Node_cellRight.r0 : List AStep := [
  ⟨some 1, none, .op (.boxf (.t 0))⟩,
  ⟨some 2, none, .op (.mov (.c (.b false)))⟩]
def names_Node_cellRight.r1 : List AStep := [
  ⟨some 3, none, .op (.fadr 5 (.t 1))⟩,
  ⟨some 4, none, .op (.load false 1 (.t 3))⟩,
  ⟨some 5, none, .op (.bin .geq (.t 4) (.c (.i .i64 (-1))))⟩,
  ⟨some 6, none, .op (.mov (.t 5))⟩,
  ⟨some 7, (some (6, true)), .op (.fadr 5 (.t 1))⟩,
  ⟨some 8, (some (6, true)), .op (.load false 1 (.t 7))⟩,
  ⟨some 9, (some (6, true)), .op (.bin .leq (.t 8) (.c (.i .i64 268435456)))⟩,
  ⟨some 10, none, .op (.pick (.t 6) (.t 9) (.c (.b false)))⟩,
  ⟨some 2, none, .op (.mov (.t 10))⟩]
def names_Node_cellRight : AFunc := ⟨11, [.t 2], .seq (.post [1] (.region names_Node_cellRight.r0)) (.seq (.post [2] (.region names_Node_cellRight.r1)) (.ret))⟩
theorem names_Node_cellRight.ok : okFunc Tryz.prog Tryz.f139 names_Node_cellRight = true := by kernel_rfl
theorem names_Node_cellRight.at : Tryz.prog.funcs[n_names_Node_cellRight]? = some Tryz.f139 := Tryz.func139
def names_Node_right.r0 : List AStep := [
  ⟨some 1, none, .op (.boxf (.t 0))⟩,
  ⟨some 2, none, .op (.mov (.c (.b false)))⟩]
def names_Node_right.r1 : List AStep := [
  ⟨some 5, none, .op (.load true 6 (.t 1))⟩,
  ⟨some 3, none, .op (.new [.i .i64 0, .s [], .i .i64 0, .s [], .i .i64 0, .i .i64 0])⟩,
  ⟨none, none, .op (.store 6 (.t 3) (.t 5))⟩]
def names_Node_right.r2 : List AStep := [
  ⟨some 6, none, .op (.fadr 0 (.t 3))⟩,
  ⟨none, none, .op (.store 1 (.t 6) (.c (.i .i64 0)))⟩,
  ⟨some 7, none, .op (.fadr 1 (.t 3))⟩,
  ⟨none, none, .op (.store 1 (.t 7) (.c (.s [])))⟩,
  ⟨some 8, none, .op (.fadr 2 (.t 3))⟩,
  ⟨none, none, .op (.store 1 (.t 8) (.c (.i .i64 0)))⟩]
def names_Node_right.r3 : List AStep := [
  ⟨some 9, none, .op (.fadr 0 (.t 1))⟩,
  ⟨some 10, none, .op (.load false 1 (.t 9))⟩,
  ⟨some 11, none, .op (.bin .neq (.t 10) (.c (.i .i64 5)))⟩,
  ⟨some 12, none, .op (.mov (.t 11))⟩,
  ⟨some 13, (some (12, true)), .op (.fadr 1 (.t 1))⟩,
  ⟨some 14, (some (12, true)), .op (.load false 1 (.t 13))⟩,
  ⟨some 15, (some (12, true)), .call n_digits_Name [.t 14]⟩,
  ⟨some 16, (some (12, true)), .op (.un .not (.t 15))⟩,
  ⟨some 17, (some (12, true)), .op (.mov (.t 16))⟩,
  ⟨some 18, (some (17, false)), .op (.fadr 2 (.t 1))⟩,
  ⟨some 19, (some (17, false)), .op (.load false 1 (.t 18))⟩,
  ⟨some 20, (some (17, false)), .op (.bin .lss (.t 19) (.c (.i .i64 0)))⟩,
  ⟨some 21, (some (12, true)), .op (.pick (.t 17) (.c (.b true)) (.t 20))⟩,
  ⟨some 22, (some (12, true)), .op (.mov (.t 21))⟩,
  ⟨some 23, (some (22, false)), .op (.fadr 2 (.t 1))⟩,
  ⟨some 24, (some (22, false)), .op (.load false 1 (.t 23))⟩,
  ⟨some 25, (some (22, false)), .op (.bin .gtr (.t 24) (.c (.i .i64 268435456)))⟩,
  ⟨some 26, (some (12, true)), .op (.pick (.t 22) (.c (.b true)) (.t 25))⟩,
  ⟨some 27, none, .op (.pick (.t 12) (.t 26) (.c (.b false)))⟩]
def names_Node_right.r4 : List AStep := [
  ⟨some 2, none, .op (.mov (.c (.b false)))⟩]
def names_Node_right.r5 : List AStep := [
  ⟨some 4, none, .op (.mov (.c (.i .i64 0)))⟩]
def names_Node_right.r6 : List AStep := [
  ⟨some 28, none, .op (.fadr 0 (.t 1))⟩,
  ⟨some 29, none, .op (.load false 1 (.t 28))⟩]
def names_Node_right.r7 : List AStep := [
  ⟨some 31, none, .op (.bin .eql (.t 29) (.c (.i .i64 5)))⟩,
  ⟨some 30, none, .op (.mov (.t 31))⟩]
def names_Node_right.r8 : List AStep := [
  ⟨some 33, none, .op (.bin .eql (.t 29) (.c (.i .i64 6)))⟩,
  ⟨some 32, none, .op (.mov (.t 33))⟩]
def names_Node_right.r9 : List AStep := [
  ⟨some 35, none, .op (.bin .eql (.t 29) (.c (.i .i64 1)))⟩,
  ⟨some 34, none, .op (.mov (.t 35))⟩]
def names_Node_right.r10 : List AStep := [
  ⟨some 37, none, .op (.bin .eql (.t 29) (.c (.i .i64 7)))⟩,
  ⟨some 36, none, .op (.mov (.t 37))⟩]
def names_Node_right.r11 : List AStep := [
  ⟨some 39, none, .op (.bin .eql (.t 29) (.c (.i .i64 4)))⟩,
  ⟨some 38, none, .op (.mov (.t 39))⟩]
def names_Node_right.r12 : List AStep := [
  ⟨some 41, none, .op (.bin .eql (.t 29) (.c (.i .i64 3)))⟩,
  ⟨some 40, none, .op (.mov (.t 41))⟩]
def names_Node_right.r13 : List AStep := [
  ⟨some 43, none, .op (.bin .eql (.t 29) (.c (.i .i64 2)))⟩,
  ⟨some 42, none, .op (.mov (.t 43))⟩]
def names_Node_right.r14 : List AStep := [
  ⟨some 44, none, .op (.fadr 1 (.t 1))⟩,
  ⟨some 45, none, .op (.load false 1 (.t 44))⟩,
  ⟨some 46, none, .op (.bin .neq (.t 45) (.c (.s [])))⟩,
  ⟨some 47, none, .op (.mov (.t 46))⟩,
  ⟨some 48, (some (47, false)), .op (.fadr 2 (.t 1))⟩,
  ⟨some 49, (some (47, false)), .op (.load false 1 (.t 48))⟩,
  ⟨some 50, (some (47, false)), .op (.bin .neq (.t 49) (.c (.i .i64 0)))⟩,
  ⟨some 51, none, .op (.pick (.t 47) (.c (.b true)) (.t 50))⟩]
def names_Node_right.r15 : List AStep := [
  ⟨some 2, none, .op (.mov (.c (.b false)))⟩]
def names_Node_right.r16 : List AStep := [
  ⟨some 52, none, .op (.fadr 3 (.t 1))⟩,
  ⟨some 53, none, .op (.load false 1 (.t 52))⟩,
  ⟨some 54, none, .call n_digits_Name [.t 53]⟩,
  ⟨some 55, none, .op (.mov (.t 54))⟩,
  ⟨some 56, (some (55, true)), .op (.load true 6 (.t 3))⟩,
  ⟨some 57, (some (55, true)), .op (.fadr 3 (.t 1))⟩,
  ⟨some 58, (some (55, true)), .op (.load false 1 (.t 57))⟩,
  ⟨some 59, (some (55, true)), .op (.fadr 5 (.t 1))⟩,
  ⟨some 60, (some (55, true)), .op (.load false 1 (.t 59))⟩,
  ⟨some 61, (some (55, true)), .op (.build [.i .i64 0, .s [], .i .i64 0, .s [], .i .i64 0, .i .i64 0] [(3, 1, .t 58), (5, 1, .t 60)])⟩,
  ⟨some 62, (some (55, true)), .op (.eqa false [0, 1, 0, 1, 0, 0] (.t 56) (.t 61))⟩,
  ⟨some 63, none, .op (.pick (.t 55) (.t 62) (.c (.b false)))⟩,
  ⟨some 64, none, .op (.mov (.t 63))⟩,
  ⟨some 65, (some (64, true)), .op (.load true 6 (.t 1))⟩,
  ⟨some 66, (some (64, true)), .call n_names_Node_cellRight [.t 65]⟩,
  ⟨some 67, none, .op (.pick (.t 64) (.t 66) (.c (.b false)))⟩,
  ⟨some 2, none, .op (.mov (.t 67))⟩]
def names_Node_right.r17 : List AStep := [
  ⟨some 68, none, .op (.fadr 3 (.t 1))⟩,
  ⟨some 69, none, .op (.load false 1 (.t 68))⟩,
  ⟨some 70, none, .call n_digits_Name [.t 69]⟩,
  ⟨some 71, none, .op (.mov (.t 70))⟩,
  ⟨some 72, (some (71, true)), .op (.load true 6 (.t 3))⟩,
  ⟨some 73, (some (71, true)), .op (.fadr 3 (.t 1))⟩,
  ⟨some 74, (some (71, true)), .op (.load false 1 (.t 73))⟩,
  ⟨some 75, (some (71, true)), .op (.build [.i .i64 0, .s [], .i .i64 0, .s [], .i .i64 0, .i .i64 0] [(3, 1, .t 74), (5, 1, .c (.i .i64 (-1)))])⟩,
  ⟨some 76, (some (71, true)), .op (.eqa false [0, 1, 0, 1, 0, 0] (.t 72) (.t 75))⟩,
  ⟨some 77, none, .op (.pick (.t 71) (.t 76) (.c (.b false)))⟩,
  ⟨some 2, none, .op (.mov (.t 77))⟩]
def names_Node_right.r18 : List AStep := [
  ⟨some 78, none, .op (.fadr 4 (.t 1))⟩,
  ⟨some 79, none, .op (.load false 1 (.t 78))⟩,
  ⟨some 80, none, .op (.bin .geq (.t 79) (.c (.i .i64 1)))⟩,
  ⟨some 81, none, .op (.mov (.t 80))⟩,
  ⟨some 82, (some (81, true)), .op (.fadr 4 (.t 1))⟩,
  ⟨some 83, (some (81, true)), .op (.load false 1 (.t 82))⟩,
  ⟨some 84, (some (81, true)), .op (.bin .leq (.t 83) (.c (.i .i64 268435456)))⟩,
  ⟨some 85, none, .op (.pick (.t 81) (.t 84) (.c (.b false)))⟩,
  ⟨some 86, none, .op (.mov (.t 85))⟩,
  ⟨some 87, (some (86, true)), .op (.load true 6 (.t 3))⟩,
  ⟨some 88, (some (86, true)), .op (.fadr 4 (.t 1))⟩,
  ⟨some 89, (some (86, true)), .op (.load false 1 (.t 88))⟩,
  ⟨some 90, (some (86, true)), .op (.fadr 5 (.t 1))⟩,
  ⟨some 91, (some (86, true)), .op (.load false 1 (.t 90))⟩,
  ⟨some 92, (some (86, true)), .op (.build [.i .i64 0, .s [], .i .i64 0, .s [], .i .i64 0, .i .i64 0] [(4, 1, .t 89), (5, 1, .t 91)])⟩,
  ⟨some 93, (some (86, true)), .op (.eqa false [0, 1, 0, 1, 0, 0] (.t 87) (.t 92))⟩,
  ⟨some 94, none, .op (.pick (.t 86) (.t 93) (.c (.b false)))⟩,
  ⟨some 95, none, .op (.mov (.t 94))⟩,
  ⟨some 96, (some (95, true)), .op (.load true 6 (.t 1))⟩,
  ⟨some 97, (some (95, true)), .call n_names_Node_cellRight [.t 96]⟩,
  ⟨some 98, none, .op (.pick (.t 95) (.t 97) (.c (.b false)))⟩,
  ⟨some 2, none, .op (.mov (.t 98))⟩]
def names_Node_right.r19 : List AStep := [
  ⟨some 99, none, .op (.load true 6 (.t 3))⟩,
  ⟨some 100, none, .op (.build [.i .i64 0, .s [], .i .i64 0, .s [], .i .i64 0, .i .i64 0] [(5, 1, .c (.i .i64 (-1)))])⟩,
  ⟨some 101, none, .op (.eqa false [0, 1, 0, 1, 0, 0] (.t 99) (.t 100))⟩,
  ⟨some 2, none, .op (.mov (.t 101))⟩]
def names_Node_right.r20 : List AStep := [
  ⟨some 4, none, .op (.mov (.c (.i .i64 1)))⟩]
def names_Node_right.r21 : List AStep := [
  ⟨some 102, none, .op (.fadr 4 (.t 1))⟩,
  ⟨some 103, none, .op (.load false 1 (.t 102))⟩,
  ⟨some 104, none, .op (.mov (.t 4))⟩,
  ⟨some 105, none, .op (.bin .geq (.t 103) (.t 104))⟩,
  ⟨some 106, none, .op (.mov (.t 105))⟩,
  ⟨some 107, (some (106, true)), .op (.fadr 4 (.t 1))⟩,
  ⟨some 108, (some (106, true)), .op (.load false 1 (.t 107))⟩,
  ⟨some 109, (some (106, true)), .op (.bin .leq (.t 108) (.c (.i .i64 268435456)))⟩,
  ⟨some 110, none, .op (.pick (.t 106) (.t 109) (.c (.b false)))⟩,
  ⟨some 111, none, .op (.mov (.t 110))⟩,
  ⟨some 112, (some (111, true)), .op (.load true 6 (.t 3))⟩,
  ⟨some 113, (some (111, true)), .op (.fadr 4 (.t 1))⟩,
  ⟨some 114, (some (111, true)), .op (.load false 1 (.t 113))⟩,
  ⟨some 115, (some (111, true)), .op (.build [.i .i64 0, .s [], .i .i64 0, .s [], .i .i64 0, .i .i64 0] [(4, 1, .t 114), (5, 1, .c (.i .i64 (-1)))])⟩,
  ⟨some 116, (some (111, true)), .op (.eqa false [0, 1, 0, 1, 0, 0] (.t 112) (.t 115))⟩,
  ⟨some 117, none, .op (.pick (.t 111) (.t 116) (.c (.b false)))⟩,
  ⟨some 2, none, .op (.mov (.t 117))⟩]
def names_Node_right.r22 : List AStep := [
  ⟨some 2, none, .op (.mov (.c (.b false)))⟩]
def names_Node_right : AFunc := ⟨118, [.t 2], .seq (.post [1] (.region names_Node_right.r0)) (.seq (.post [1, 3] (.region names_Node_right.r1)) (.seq (.post [1, 3] (.region names_Node_right.r2)) (.seq (.seq (.post [1, 3, 27] (.region names_Node_right.r3)) (.post [1, 3] (.cond (.t 27) (.seq (.post [2] (.region names_Node_right.r4)) (.ret)) (.skip)))) (.seq (.post [1, 3, 4] (.region names_Node_right.r5)) (.seq (.seq (.post [1, 3, 4, 29] (.region names_Node_right.r6)) (.post [] (.block 0 (.seq (.post [1, 3, 4] (.block 7 (.seq (.post [1, 3] (.block 6 (.seq (.post [3] (.block 5 (.seq (.post [1, 3] (.block 4 (.seq (.post [1, 3] (.block 3 (.seq (.post [1, 3] (.block 2 (.seq (.post [1, 3] (.block 1 (.seq (.seq (.seq (.post [1, 3, 4, 29, 30] (.region names_Node_right.r7)) (.post [1, 3, 4, 29] (.cond (.t 30) (.exit 1) (.skip)))) (.seq (.seq (.post [1, 3, 4, 29, 32] (.region names_Node_right.r8)) (.post [1, 3, 4, 29] (.cond (.t 32) (.exit 2) (.skip)))) (.seq (.seq (.post [1, 3, 4, 29, 34] (.region names_Node_right.r9)) (.post [1, 3, 4, 29] (.cond (.t 34) (.exit 3) (.skip)))) (.seq (.seq (.post [1, 3, 4, 29, 36] (.region names_Node_right.r10)) (.post [1, 3, 4, 29] (.cond (.t 36) (.exit 4) (.skip)))) (.seq (.seq (.post [1, 3, 4, 29, 38] (.region names_Node_right.r11)) (.post [1, 3, 4, 29] (.cond (.t 38) (.exit 5) (.skip)))) (.seq (.seq (.post [1, 3, 4, 29, 40] (.region names_Node_right.r12)) (.post [1, 3, 4, 29] (.cond (.t 40) (.exit 6) (.skip)))) (.seq (.post [1, 3, 4, 42] (.region names_Node_right.r13)) (.post [] (.cond (.t 42) (.exit 7) (.skip)))))))))) (.exit 0)))) (.seq (.post [1, 3, 51] (.region names_Node_right.r14)) (.post [1, 3] (.cond (.t 51) (.seq (.post [2] (.region names_Node_right.r15)) (.ret)) (.skip))))))) (.seq (.seq (.post [2] (.region names_Node_right.r16)) (.ret)) (.exit 0))))) (.seq (.seq (.post [2] (.region names_Node_right.r17)) (.ret)) (.exit 0))))) (.seq (.seq (.post [2] (.region names_Node_right.r18)) (.ret)) (.exit 0))))) (.seq (.seq (.post [2] (.region names_Node_right.r19)) (.ret)) (.exit 0))))) (.post [1, 3, 4] (.region names_Node_right.r20))))) (.seq (.seq (.post [2] (.region names_Node_right.r21)) (.ret)) (.exit 0)))))) (.seq (.post [2] (.region names_Node_right.r22)) (.ret)))))))⟩
theorem names_Node_right.ok : okFunc Tryz.prog Tryz.f108 names_Node_right = true := by kernel_rfl
theorem names_Node_right.at : Tryz.prog.funcs[n_names_Node_right]? = some Tryz.f108 := Tryz.func108
def names_Read.r0 : List AStep := [
  ⟨some 2, none, .op (.new [.i .i64 0, .s [], .i .i64 0, .s [], .i .i64 0, .i .i64 0])⟩,
  ⟨some 3, none, .op (.mov (.c (.i .i64 0)))⟩]
def names_Read.r1 : List AStep := [
  ⟨some 7, none, .op (.mov (.t 0))⟩,
  ⟨some 8, none, .call n_names_read [.t 7]⟩,
  ⟨some 6, none, .op (.mov (.t 8))⟩,
  ⟨some 9, none, .op (.ext 0 (.t 6))⟩,
  ⟨some 10, none, .op (.ext 1 (.t 6))⟩,
  ⟨some 4, none, .op (.new [.i .i64 0, .s [], .i .i64 0, .s [], .i .i64 0, .i .i64 0])⟩,
  ⟨none, none, .op (.store 6 (.t 4) (.t 9))⟩,
  ⟨some 5, none, .op (.mov (.t 10))⟩]
def names_Read.r2 : List AStep := [
  ⟨some 11, none, .op (.mov (.t 5))⟩,
  ⟨some 12, none, .op (.un .not (.t 11))⟩,
  ⟨some 13, none, .op (.mov (.t 12))⟩,
  ⟨some 14, (some (13, false)), .op (.load true 6 (.t 4))⟩,
  ⟨some 15, (some (13, false)), .call n_names_Node_right [.t 14]⟩,
  ⟨some 16, (some (13, false)), .op (.un .not (.t 15))⟩,
  ⟨some 17, none, .op (.pick (.t 13) (.c (.b true)) (.t 16))⟩,
  ⟨some 18, none, .op (.mov (.t 17))⟩,
  ⟨some 19, (some (18, false)), .op (.load true 6 (.t 4))⟩,
  ⟨some 20, (some (18, false)), .call n_names_Node_write [.t 19]⟩,
  ⟨some 21, (some (18, false)), .op (.mov (.t 0))⟩,
  ⟨some 22, (some (18, false)), .op (.bin .neq (.t 20) (.t 21))⟩,
  ⟨some 23, none, .op (.pick (.t 18) (.c (.b true)) (.t 22))⟩]
def names_Read.r3 : List AStep := [
  ⟨some 24, none, .op (.build [.i .i64 0, .s [], .i .i64 0, .s [], .i .i64 0, .i .i64 0] [])⟩,
  ⟨none, none, .op (.store 6 (.t 2) (.t 24))⟩,
  ⟨some 3, none, .op (.mov (.c (.i .i64 11)))⟩]
def names_Read.r4 : List AStep := [
  ⟨some 25, none, .op (.load true 6 (.t 4))⟩,
  ⟨none, none, .op (.store 6 (.t 2) (.t 25))⟩,
  ⟨some 3, none, .op (.mov (.c (.i .i64 0)))⟩]
def names_Read : AFunc := ⟨26, [.cell 2 true 6, .t 3], .seq (.post [0, 2] (.region names_Read.r0)) (.seq (.post [0, 2, 4, 5] (.region names_Read.r1)) (.seq (.seq (.post [2, 4, 23] (.region names_Read.r2)) (.post [2, 4] (.cond (.t 23) (.seq (.post [2, 3] (.region names_Read.r3)) (.ret)) (.skip)))) (.seq (.post [2, 3] (.region names_Read.r4)) (.ret))))⟩
theorem names_Read.ok : okFunc Tryz.prog Tryz.f70 names_Read = true := by kernel_rfl
theorem names_Read.at : Tryz.prog.funcs[n_names_Read]? = some Tryz.f70 := Tryz.func70
def system_kindsRight.r0 : List AStep := [
  ⟨some 4, none, .op (.mov (.c (.b false)))⟩]
def system_kindsRight.r1 : List AStep := [
  ⟨some 5, none, .op (.mov (.t 0))⟩,
  ⟨some 6, none, .call n_strings_Trim [.t 5, .c (.s [105, 112])]⟩,
  ⟨some 7, none, .op (.bin .eql (.t 6) (.c (.s [])))⟩,
  ⟨some 8, none, .op (.mov (.t 7))⟩,
  ⟨some 9, (some (8, true)), .op (.mov (.t 0))⟩,
  ⟨some 10, (some (8, true)), .op (.len true (.t 9))⟩,
  ⟨some 11, (some (8, true)), .op (.mov (.t 1))⟩,
  ⟨some 12, (some (8, true)), .op (.bin .leq (.t 10) (.t 11))⟩,
  ⟨some 13, none, .op (.pick (.t 8) (.t 12) (.c (.b false)))⟩,
  ⟨some 4, none, .op (.mov (.t 13))⟩]
def system_kindsRight : AFunc := ⟨14, [.t 4], .seq (.post [0, 1] (.region system_kindsRight.r0)) (.seq (.post [4] (.region system_kindsRight.r1)) (.ret))⟩
theorem system_kindsRight.ok : okFunc Tryz.prog Tryz.f98 system_kindsRight = true := by kernel_rfl
theorem system_kindsRight.at : Tryz.prog.funcs[n_system_kindsRight]? = some Tryz.f98 := Tryz.func98
def system_tagRight.r0 : List AStep := [
  ⟨some 2, none, .op (.mov (.c (.b false)))⟩]
def system_tagRight.r1 : List AStep := [
  ⟨some 3, none, .op (.mov (.t 0))⟩,
  ⟨some 4, none, .op (.bin .neq (.t 3) (.c (.s [])))⟩,
  ⟨some 5, none, .op (.mov (.t 4))⟩,
  ⟨some 6, (some (5, true)), .op (.mov (.t 0))⟩,
  ⟨some 7, (some (5, true)), .op (.len true (.t 6))⟩,
  ⟨some 8, (some (5, true)), .op (.bin .leq (.t 7) (.c (.i .i64 60)))⟩,
  ⟨some 9, none, .op (.pick (.t 5) (.t 8) (.c (.b false)))⟩,
  ⟨some 2, none, .op (.mov (.t 9))⟩]
def system_tagRight : AFunc := ⟨10, [.t 2], .seq (.post [0] (.region system_tagRight.r0)) (.seq (.post [2] (.region system_tagRight.r1)) (.ret))⟩
theorem system_tagRight.ok : okFunc Tryz.prog Tryz.f99 system_tagRight = true := by kernel_rfl
theorem system_tagRight.at : Tryz.prog.funcs[n_system_tagRight]? = some Tryz.f99 := Tryz.func99
def slices_Index_api_Mark_api_Mark.r0 : List AStep := [
  ⟨some 3, none, .op (.boxf (.t 1))⟩,
  ⟨some 4, none, .op (.mov (.c (.i .i64 0)))⟩]
def slices_Index_api_Mark_api_Mark.r1 : List AStep := [
  ⟨some 6, none, .op (.mov (.t 0))⟩,
  ⟨some 7, none, .op (.len false (.t 6))⟩,
  ⟨some 8, none, .op (.mov (.c (.i .i64 0)))⟩]
def slices_Index_api_Mark_api_Mark.r2 : List AStep := [
  ⟨some 9, none, .op (.bin .lss (.t 8) (.t 7))⟩]
def slices_Index_api_Mark_api_Mark.r3 : List AStep := [
  ⟨some 10, none, .op (.mov (.t 8))⟩,
  ⟨some 5, none, .op (.mov (.t 10))⟩]
def slices_Index_api_Mark_api_Mark.r4 : List AStep := [
  ⟨some 11, none, .op (.load true 2 (.t 3))⟩,
  ⟨some 12, none, .op (.mov (.t 0))⟩,
  ⟨some 13, none, .op (.mov (.t 5))⟩,
  ⟨some 14, none, .op (.iad 2 (.t 12) (.t 13))⟩,
  ⟨some 15, none, .op (.load true 2 (.t 14))⟩,
  ⟨some 16, none, .op (.eqa false [0, 1] (.t 11) (.t 15))⟩]
def slices_Index_api_Mark_api_Mark.r5 : List AStep := [
  ⟨some 17, none, .op (.mov (.t 5))⟩,
  ⟨some 4, none, .op (.mov (.t 17))⟩]
def slices_Index_api_Mark_api_Mark.r6 : List AStep := [
  ⟨some 18, none, .op (.bin .add (.t 8) (.c (.i .i64 1)))⟩,
  ⟨some 8, none, .op (.mov (.t 18))⟩]
def slices_Index_api_Mark_api_Mark.l0 : ACode := .seq (.post [0, 3, 7, 8, 9] (.region slices_Index_api_Mark_api_Mark.r2)) (.seq (.post [0, 3, 7, 8] (.cond (.t 9) (.skip) (.exit 0))) (.seq (.post [0, 3, 7, 8] (.block 1 (.seq (.post [0, 3, 5, 7, 8] (.region slices_Index_api_Mark_api_Mark.r3)) (.seq (.post [0, 3, 5, 7, 8, 16] (.draw [0, 0, 0, 6, 14, 31] slices_Index_api_Mark_api_Mark.r4)) (.post [0, 3, 7, 8] (.cond (.t 16) (.seq (.post [4] (.region slices_Index_api_Mark_api_Mark.r5)) (.ret)) (.skip))))))) (.post [0, 3, 7, 8] (.region slices_Index_api_Mark_api_Mark.r6))))
def slices_Index_api_Mark_api_Mark.r7 : List AStep := [
  ⟨some 4, none, .op (.mov (.c (.i .i64 (-1))))⟩]
def slices_Index_api_Mark_api_Mark : AFunc := ⟨19, [.t 4], .seq (.post [0, 3] (.region slices_Index_api_Mark_api_Mark.r0)) (.seq (.seq (.post [0, 3, 7, 8] (.region slices_Index_api_Mark_api_Mark.r1)) (.post [] (.block 0 (.loop slices_Index_api_Mark_api_Mark.l0)))) (.seq (.post [4] (.region slices_Index_api_Mark_api_Mark.r7)) (.ret)))⟩
theorem slices_Index_api_Mark_api_Mark.ok : okFunc Tryz.prog Tryz.f134 slices_Index_api_Mark_api_Mark = true := by kernel_rfl
theorem slices_Index_api_Mark_api_Mark.at : Tryz.prog.funcs[n_slices_Index_api_Mark_api_Mark]? = some Tryz.f134 := Tryz.func134
def slices_Contains_api_Mark_api_Mark.r0 : List AStep := [
  ⟨some 3, none, .op (.boxf (.t 1))⟩,
  ⟨some 4, none, .op (.mov (.c (.b false)))⟩]
def slices_Contains_api_Mark_api_Mark.r1 : List AStep := [
  ⟨some 5, none, .op (.mov (.t 0))⟩,
  ⟨some 6, none, .op (.load true 2 (.t 3))⟩,
  ⟨some 7, none, .call n_slices_Index_api_Mark_api_Mark [.t 5, .t 6]⟩,
  ⟨some 8, none, .op (.bin .geq (.t 7) (.c (.i .i64 0)))⟩,
  ⟨some 4, none, .op (.mov (.t 8))⟩]
def slices_Contains_api_Mark_api_Mark : AFunc := ⟨9, [.t 4], .seq (.post [0, 3] (.region slices_Contains_api_Mark_api_Mark.r0)) (.seq (.post [4] (.region slices_Contains_api_Mark_api_Mark.r1)) (.ret))⟩
theorem slices_Contains_api_Mark_api_Mark.ok : okFunc Tryz.prog Tryz.f100 slices_Contains_api_Mark_api_Mark = true := by kernel_rfl
theorem slices_Contains_api_Mark_api_Mark.at : Tryz.prog.funcs[n_slices_Contains_api_Mark_api_Mark]? = some Tryz.f100 := Tryz.func100
def system_object.r0 : List AStep := [
  ⟨some 1, none, .op (.boxf (.t 0))⟩,
  ⟨some 2, none, .op (.mov (.c (.i .i64 0)))⟩]
def system_object.r1 : List AStep := [
  ⟨some 9, none, .op (.fadr 0 (.t 1))⟩,
  ⟨some 10, none, .op (.load false 1 (.t 9))⟩,
  ⟨some 11, none, .call n_names_Read [.t 10]⟩,
  ⟨some 8, none, .op (.mov (.t 11))⟩,
  ⟨some 12, none, .op (.ext 0 (.t 8))⟩,
  ⟨some 13, none, .op (.ext 1 (.t 8))⟩,
  ⟨some 3, none, .op (.new [.i .i64 0, .s [], .i .i64 0, .s [], .i .i64 0, .i .i64 0])⟩,
  ⟨none, none, .op (.store 6 (.t 3) (.t 12))⟩,
  ⟨some 4, none, .op (.mov (.t 13))⟩]
def system_object.r2 : List AStep := [
  ⟨some 15, none, .op (.mov (.t 4))⟩,
  ⟨some 16, none, .op (.bin .neq (.t 15) (.c (.i .i64 0)))⟩,
  ⟨some 17, none, .op (.mov (.t 16))⟩,
  ⟨some 18, (some (17, false)), .op (.fadr 0 (.t 3))⟩,
  ⟨some 19, (some (17, false)), .op (.load false 1 (.t 18))⟩,
  ⟨some 20, (some (17, false)), .op (.bin .lss (.t 19) (.c (.i .i64 5)))⟩,
  ⟨some 21, none, .op (.pick (.t 17) (.c (.b true)) (.t 20))⟩,
  ⟨some 22, none, .op (.mov (.t 21))⟩,
  ⟨some 23, (some (22, false)), .op (.fadr 5 (.t 3))⟩,
  ⟨some 24, (some (22, false)), .op (.load false 1 (.t 23))⟩,
  ⟨some 25, (some (22, false)), .op (.bin .geq (.t 24) (.c (.i .i64 0)))⟩,
  ⟨some 26, none, .op (.pick (.t 22) (.c (.b true)) (.t 25))⟩,
  ⟨some 14, none, .op (.mov (.t 26))⟩]
def system_object.r3 : List AStep := [
  ⟨some 2, none, .op (.mov (.c (.i .i64 11)))⟩]
def system_object.r4 : List AStep := [
  ⟨some 28, none, .op (.fadr 1 (.t 1))⟩,
  ⟨some 29, none, .op (.load false 1 (.t 28))⟩,
  ⟨some 30, none, .op (.bin .eql (.t 29) (.c (.s [])))⟩,
  ⟨some 31, none, .op (.mov (.t 30))⟩,
  ⟨some 32, (some (31, false)), .op (.fadr 1 (.t 1))⟩,
  ⟨some 33, (some (31, false)), .op (.load false 1 (.t 32))⟩,
  ⟨some 34, (some (31, false)), .call n_system_kindsRight [.t 33, .c (.i .i64 64)]⟩,
  ⟨some 35, (some (31, false)), .op (.un .not (.t 34))⟩,
  ⟨some 36, none, .op (.pick (.t 31) (.c (.b true)) (.t 35))⟩,
  ⟨some 27, none, .op (.mov (.t 36))⟩]
def system_object.r5 : List AStep := [
  ⟨some 2, none, .op (.mov (.c (.i .i64 5)))⟩]
def system_object.r6 : List AStep := [
  ⟨some 5, none, .op (.mov (.c (.i .i64 0)))⟩]
def system_object.r7 : List AStep := [
  ⟨some 37, none, .op (.fadr 2 (.t 1))⟩,
  ⟨some 38, none, .op (.load false 1 (.t 37))⟩,
  ⟨some 39, none, .op (.len false (.t 38))⟩,
  ⟨some 40, none, .op (.mov (.c (.i .i64 0)))⟩]
def system_object.r8 : List AStep := [
  ⟨some 41, none, .op (.bin .lss (.t 40) (.t 39))⟩]
def system_object.r9 : List AStep := [
  ⟨some 42, none, .op (.mov (.t 40))⟩,
  ⟨some 43, none, .op (.iad 2 (.t 38) (.t 40))⟩,
  ⟨some 44, none, .op (.load true 2 (.t 43))⟩,
  ⟨some 7, none, .op (.new [.i .i64 0, .s []])⟩,
  ⟨some 6, none, .op (.mov (.t 42))⟩,
  ⟨none, none, .op (.store 2 (.t 7) (.t 44))⟩]
def system_object.r10 : List AStep := [
  ⟨some 45, none, .op (.fadr 0 (.t 7))⟩,
  ⟨some 46, none, .op (.load false 1 (.t 45))⟩,
  ⟨some 47, none, .op (.mov (.t 5))⟩,
  ⟨some 48, none, .op (.bin .lss (.t 46) (.t 47))⟩,
  ⟨some 49, none, .op (.mov (.t 48))⟩,
  ⟨some 50, (some (49, false)), .op (.fadr 0 (.t 7))⟩,
  ⟨some 51, (some (49, false)), .op (.load false 1 (.t 50))⟩,
  ⟨some 52, (some (49, false)), .op (.fadr 1 (.t 1))⟩,
  ⟨some 53, (some (49, false)), .op (.load false 1 (.t 52))⟩,
  ⟨some 54, (some (49, false)), .op (.len true (.t 53))⟩,
  ⟨some 55, (some (49, false)), .op (.bin .geq (.t 51) (.t 54))⟩,
  ⟨some 56, none, .op (.pick (.t 49) (.c (.b true)) (.t 55))⟩,
  ⟨some 57, none, .op (.mov (.t 56))⟩,
  ⟨some 58, (some (57, false)), .op (.fadr 1 (.t 7))⟩,
  ⟨some 59, (some (57, false)), .op (.load false 1 (.t 58))⟩,
  ⟨some 60, (some (57, false)), .call n_system_tagRight [.t 59]⟩,
  ⟨some 61, (some (57, false)), .op (.un .not (.t 60))⟩,
  ⟨some 62, none, .op (.pick (.t 57) (.c (.b true)) (.t 61))⟩,
  ⟨some 63, none, .op (.mov (.t 62))⟩,
  ⟨some 64, (some (63, false)), .op (.fadr 2 (.t 1))⟩,
  ⟨some 65, (some (63, false)), .op (.load false 1 (.t 64))⟩,
  ⟨some 66, (some (63, false)), .op (.mov (.t 6))⟩,
  ⟨some 67, (some (63, false)), .op (.slc 2 (.t 65) none (some (.t 66)))⟩,
  ⟨some 68, (some (63, false)), .op (.load true 2 (.t 7))⟩,
  ⟨some 69, (some (63, false)), .call n_slices_Contains_api_Mark_api_Mark [.t 67, .t 68]⟩,
  ⟨some 70, none, .op (.pick (.t 63) (.c (.b true)) (.t 69))⟩]
def system_object.r11 : List AStep := [
  ⟨some 2, none, .op (.mov (.c (.i .i64 3)))⟩]
def system_object.r12 : List AStep := [
  ⟨some 71, none, .op (.fadr 0 (.t 7))⟩,
  ⟨some 72, none, .op (.load false 1 (.t 71))⟩,
  ⟨some 5, none, .op (.mov (.t 72))⟩]
def system_object.r13 : List AStep := [
  ⟨some 73, none, .op (.bin .add (.t 40) (.c (.i .i64 1)))⟩,
  ⟨some 40, none, .op (.mov (.t 73))⟩]
def system_object.l0 : ACode := .seq (.post [1, 5, 38, 39, 40, 41] (.region system_object.r8)) (.seq (.post [1, 5, 38, 39, 40] (.cond (.t 41) (.skip) (.exit 1))) (.seq (.post [1, 5, 38, 39, 40] (.block 2 (.seq (.post [1, 5, 6, 7, 38, 39, 40] (.region system_object.r9)) (.seq (.seq (.post [1, 7, 38, 39, 40, 70] (.draw [0, 1, 0, 7, 15, 31, 63, 31, 159, 415, 1023, 2047, 4095, 8191, 16383, 32767, 65535, 131071, 262143, 524287, 1048575, 524287, 4194303, 524287, 16777215, 33554431] system_object.r10)) (.post [1, 7, 38, 39, 40] (.cond (.t 70) (.seq (.post [2] (.region system_object.r11)) (.ret)) (.skip)))) (.post [1, 5, 38, 39, 40] (.region system_object.r12)))))) (.post [1, 5, 38, 39, 40] (.region system_object.r13))))
def system_object.r14 : List AStep := [
  ⟨some 2, none, .op (.mov (.c (.i .i64 0)))⟩]
def system_object : AFunc := ⟨74, [.t 2], .seq (.post [1] (.region system_object.r0)) (.seq (.post [1, 3, 4] (.region system_object.r1)) (.seq (.post [1] (.block 0 (.seq (.post [1, 14] (.region system_object.r2)) (.post [1] (.cond (.t 14) (.seq (.post [2] (.region system_object.r3)) (.ret)) (.seq (.post [1, 27] (.region system_object.r4)) (.post [1] (.cond (.t 27) (.seq (.post [2] (.region system_object.r5)) (.ret)) (.skip))))))))) (.seq (.post [1, 5] (.region system_object.r6)) (.seq (.seq (.post [1, 5, 38, 39, 40] (.region system_object.r7)) (.post [] (.block 1 (.loop system_object.l0)))) (.seq (.post [2] (.region system_object.r14)) (.ret))))))⟩
theorem system_object.ok : okFunc Tryz.prog Tryz.f58 system_object = true := by kernel_rfl
theorem system_object.at : Tryz.prog.funcs[n_system_object]? = some Tryz.f58 := Tryz.func58
def cmp_isNaN_string.r0 : List AStep := [
  ⟨some 2, none, .op (.mov (.c (.b false)))⟩]
def cmp_isNaN_string.r1 : List AStep := [
  ⟨some 3, none, .op (.mov (.t 0))⟩,
  ⟨some 4, none, .op (.mov (.t 0))⟩,
  ⟨some 5, none, .op (.bin .neq (.t 3) (.t 4))⟩,
  ⟨some 2, none, .op (.mov (.t 5))⟩]
def cmp_isNaN_string : AFunc := ⟨6, [.t 2], .seq (.post [0] (.region cmp_isNaN_string.r0)) (.seq (.post [2] (.region cmp_isNaN_string.r1)) (.ret))⟩
theorem cmp_isNaN_string.ok : okFunc Tryz.prog Tryz.f115 cmp_isNaN_string = true := by kernel_rfl
theorem cmp_isNaN_string.at : Tryz.prog.funcs[n_cmp_isNaN_string]? = some Tryz.f115 := Tryz.func115
def cmp_Compare_string.r0 : List AStep := [
  ⟨some 4, none, .op (.mov (.c (.i .i64 0)))⟩]
def cmp_Compare_string.r1 : List AStep := [
  ⟨some 7, none, .op (.mov (.t 0))⟩,
  ⟨some 8, none, .call n_cmp_isNaN_string [.t 7]⟩,
  ⟨some 5, none, .op (.mov (.t 8))⟩]
def cmp_Compare_string.r2 : List AStep := [
  ⟨some 9, none, .op (.mov (.t 1))⟩,
  ⟨some 10, none, .call n_cmp_isNaN_string [.t 9]⟩,
  ⟨some 6, none, .op (.mov (.t 10))⟩]
def cmp_Compare_string.r3 : List AStep := [
  ⟨some 11, none, .op (.mov (.t 5))⟩]
def cmp_Compare_string.r4 : List AStep := [
  ⟨some 12, none, .op (.mov (.t 6))⟩]
def cmp_Compare_string.r5 : List AStep := [
  ⟨some 4, none, .op (.mov (.c (.i .i64 0)))⟩]
def cmp_Compare_string.r6 : List AStep := [
  ⟨some 4, none, .op (.mov (.c (.i .i64 (-1))))⟩]
def cmp_Compare_string.r7 : List AStep := [
  ⟨some 13, none, .op (.mov (.t 6))⟩]
def cmp_Compare_string.r8 : List AStep := [
  ⟨some 4, none, .op (.mov (.c (.i .i64 1)))⟩]
def cmp_Compare_string.r9 : List AStep := [
  ⟨some 14, none, .op (.mov (.t 0))⟩,
  ⟨some 15, none, .op (.mov (.t 1))⟩,
  ⟨some 16, none, .op (.bin .lss (.t 14) (.t 15))⟩]
def cmp_Compare_string.r10 : List AStep := [
  ⟨some 4, none, .op (.mov (.c (.i .i64 (-1))))⟩]
def cmp_Compare_string.r11 : List AStep := [
  ⟨some 17, none, .op (.mov (.t 0))⟩,
  ⟨some 18, none, .op (.mov (.t 1))⟩,
  ⟨some 19, none, .op (.bin .gtr (.t 17) (.t 18))⟩]
def cmp_Compare_string.r12 : List AStep := [
  ⟨some 4, none, .op (.mov (.c (.i .i64 1)))⟩]
def cmp_Compare_string.r13 : List AStep := [
  ⟨some 4, none, .op (.mov (.c (.i .i64 0)))⟩]
def cmp_Compare_string : AFunc := ⟨20, [.t 4], .seq (.post [0, 1] (.region cmp_Compare_string.r0)) (.seq (.post [0, 1, 5] (.region cmp_Compare_string.r1)) (.seq (.post [0, 1, 5, 6] (.region cmp_Compare_string.r2)) (.seq (.seq (.post [0, 1, 6, 11] (.region cmp_Compare_string.r3)) (.post [0, 1, 6] (.cond (.t 11) (.seq (.seq (.post [12] (.region cmp_Compare_string.r4)) (.post [] (.cond (.t 12) (.seq (.post [4] (.region cmp_Compare_string.r5)) (.ret)) (.skip)))) (.seq (.post [4] (.region cmp_Compare_string.r6)) (.ret))) (.skip)))) (.seq (.seq (.post [0, 1, 13] (.region cmp_Compare_string.r7)) (.post [0, 1] (.cond (.t 13) (.seq (.post [4] (.region cmp_Compare_string.r8)) (.ret)) (.skip)))) (.seq (.seq (.post [0, 1, 16] (.region cmp_Compare_string.r9)) (.post [0, 1] (.cond (.t 16) (.seq (.post [4] (.region cmp_Compare_string.r10)) (.ret)) (.skip)))) (.seq (.seq (.post [19] (.region cmp_Compare_string.r11)) (.post [] (.cond (.t 19) (.seq (.post [4] (.region cmp_Compare_string.r12)) (.ret)) (.skip)))) (.seq (.post [4] (.region cmp_Compare_string.r13)) (.ret))))))))⟩
theorem cmp_Compare_string.ok : okFunc Tryz.prog Tryz.f101 cmp_Compare_string = true := by kernel_rfl
theorem cmp_Compare_string.at : Tryz.prog.funcs[n_cmp_Compare_string]? = some Tryz.f101 := Tryz.func101
def system_byObj.r0 : List AStep := [
  ⟨some 2, none, .op (.boxf (.t 0))⟩,
  ⟨some 3, none, .op (.boxf (.t 1))⟩,
  ⟨some 4, none, .op (.mov (.c (.i .i64 0)))⟩]
def system_byObj.r1 : List AStep := [
  ⟨some 5, none, .op (.fadr 0 (.t 2))⟩,
  ⟨some 6, none, .op (.load false 1 (.t 5))⟩,
  ⟨some 7, none, .op (.fadr 0 (.t 3))⟩,
  ⟨some 8, none, .op (.load false 1 (.t 7))⟩,
  ⟨some 9, none, .call n_cmp_Compare_string [.t 6, .t 8]⟩,
  ⟨some 4, none, .op (.mov (.t 9))⟩]
def system_byObj : AFunc := ⟨10, [.t 4], .seq (.post [2, 3] (.region system_byObj.r0)) (.seq (.post [4] (.region system_byObj.r1)) (.ret))⟩
theorem system_byObj.ok : okFunc Tryz.prog Tryz.f59 system_byObj = true := by kernel_rfl
theorem system_byObj.at : Tryz.prog.funcs[n_system_byObj]? = some Tryz.f59 := Tryz.func59
def system_each_api_Fn.r0 : List AStep := [
  ⟨some 6, none, .op (.mov (.c (.i .i64 0)))⟩]
def system_each_api_Fn.r1 : List AStep := [
  ⟨some 10, none, .op (.mov (.t 0))⟩,
  ⟨some 11, none, .op (.len false (.t 10))⟩,
  ⟨some 12, none, .op (.mov (.c (.i .i64 0)))⟩]
def system_each_api_Fn.r2 : List AStep := [
  ⟨some 13, none, .op (.bin .lss (.t 12) (.t 11))⟩]
def system_each_api_Fn.r3 : List AStep := [
  ⟨some 14, none, .op (.mov (.t 12))⟩,
  ⟨some 15, none, .op (.iad 3 (.t 10) (.t 12))⟩,
  ⟨some 16, none, .op (.load true 3 (.t 15))⟩,
  ⟨some 8, none, .op (.new [.s [], .s [], .s []])⟩,
  ⟨some 7, none, .op (.mov (.t 14))⟩,
  ⟨none, none, .op (.store 3 (.t 8) (.t 16))⟩]
def system_each_api_Fn.r4 : List AStep := [
  ⟨some 17, none, .op (.mov (.t 1))⟩,
  ⟨some 18, none, .op (.load true 3 (.t 8))⟩,
  ⟨some 19, none, .callv (.t 17) [.t 18]⟩,
  ⟨some 9, none, .op (.mov (.t 19))⟩]
def system_each_api_Fn.r5 : List AStep := [
  ⟨some 20, none, .op (.mov (.t 9))⟩,
  ⟨some 21, none, .op (.bin .neq (.t 20) (.c (.i .i64 0)))⟩]
def system_each_api_Fn.r6 : List AStep := [
  ⟨some 22, none, .op (.mov (.t 9))⟩,
  ⟨some 6, none, .op (.mov (.t 22))⟩]
def system_each_api_Fn.r7 : List AStep := [
  ⟨some 23, none, .op (.mov (.t 7))⟩,
  ⟨some 24, none, .op (.bin .gtr (.t 23) (.c (.i .i64 0)))⟩,
  ⟨some 25, none, .op (.mov (.t 24))⟩,
  ⟨some 26, (some (25, true)), .op (.mov (.t 2))⟩,
  ⟨some 27, (some (25, true)), .op (.mov (.t 0))⟩,
  ⟨some 28, (some (25, true)), .op (.mov (.t 7))⟩,
  ⟨some 29, (some (25, true)), .op (.bin .sub (.t 28) (.c (.i .i64 1)))⟩,
  ⟨some 30, (some (25, true)), .op (.iad 3 (.t 27) (.t 29))⟩,
  ⟨some 31, (some (25, true)), .op (.load true 3 (.t 30))⟩,
  ⟨some 32, (some (25, true)), .op (.load true 3 (.t 8))⟩,
  ⟨some 33, (some (25, true)), .callv (.t 26) [.t 31, .t 32]⟩,
  ⟨some 34, (some (25, true)), .op (.bin .geq (.t 33) (.c (.i .i64 0)))⟩,
  ⟨some 35, none, .op (.pick (.t 25) (.t 34) (.c (.b false)))⟩]
def system_each_api_Fn.r8 : List AStep := [
  ⟨some 6, none, .op (.mov (.c (.i .i64 13)))⟩]
def system_each_api_Fn.r9 : List AStep := [
  ⟨some 36, none, .op (.bin .add (.t 12) (.c (.i .i64 1)))⟩,
  ⟨some 12, none, .op (.mov (.t 36))⟩]
def system_each_api_Fn.l0 : ACode := .seq (.post [0, 1, 2, 10, 11, 12, 13] (.region system_each_api_Fn.r2)) (.seq (.post [0, 1, 2, 10, 11, 12] (.cond (.t 13) (.skip) (.exit 0))) (.seq (.post [0, 1, 2, 10, 11, 12] (.block 1 (.seq (.post [0, 1, 2, 7, 8, 10, 11, 12] (.region system_each_api_Fn.r3)) (.seq (.seq (.post [0, 1, 2, 7, 8, 9, 10, 11, 12] (.region system_each_api_Fn.r4)) (.seq (.post [0, 1, 2, 7, 8, 9, 10, 11, 12, 21] (.region system_each_api_Fn.r5)) (.post [0, 1, 2, 7, 8, 10, 11, 12] (.cond (.t 21) (.seq (.post [6] (.region system_each_api_Fn.r6)) (.ret)) (.skip))))) (.seq (.post [0, 1, 2, 10, 11, 12, 35] (.draw [0, 1, 3, 7, 7, 7, 39, 119, 247, 7, 1023, 2047, 4095] system_each_api_Fn.r7)) (.post [0, 1, 2, 10, 11, 12] (.cond (.t 35) (.seq (.post [6] (.region system_each_api_Fn.r8)) (.ret)) (.skip)))))))) (.post [0, 1, 2, 10, 11, 12] (.region system_each_api_Fn.r9))))
def system_each_api_Fn.r10 : List AStep := [
  ⟨some 6, none, .op (.mov (.c (.i .i64 0)))⟩]
def system_each_api_Fn : AFunc := ⟨37, [.t 6], .seq (.post [0, 1, 2] (.region system_each_api_Fn.r0)) (.seq (.seq (.post [0, 1, 2, 10, 11, 12] (.region system_each_api_Fn.r1)) (.post [] (.block 0 (.loop system_each_api_Fn.l0)))) (.seq (.post [6] (.region system_each_api_Fn.r10)) (.ret)))⟩
theorem system_each_api_Fn.ok : okFunc Tryz.prog Tryz.f60 system_each_api_Fn = true := by kernel_rfl
theorem system_each_api_Fn.at : Tryz.prog.funcs[n_system_each_api_Fn]? = some Tryz.f60 := Tryz.func60
def system_function.r0 : List AStep := [
  ⟨some 1, none, .op (.boxf (.t 0))⟩,
  ⟨some 2, none, .op (.mov (.c (.i .i64 0)))⟩]
def system_function.r1 : List AStep := [
  ⟨some 6, none, .op (.fadr 0 (.t 1))⟩,
  ⟨some 7, none, .op (.load false 1 (.t 6))⟩,
  ⟨some 8, none, .call n_names_Read [.t 7]⟩,
  ⟨some 5, none, .op (.mov (.t 8))⟩,
  ⟨some 9, none, .op (.ext 0 (.t 5))⟩,
  ⟨some 10, none, .op (.ext 1 (.t 5))⟩,
  ⟨some 3, none, .op (.new [.i .i64 0, .s [], .i .i64 0, .s [], .i .i64 0, .i .i64 0])⟩,
  ⟨none, none, .op (.store 6 (.t 3) (.t 9))⟩,
  ⟨some 4, none, .op (.mov (.t 10))⟩]
def system_function.r2 : List AStep := [
  ⟨some 12, none, .op (.mov (.t 4))⟩,
  ⟨some 13, none, .op (.bin .neq (.t 12) (.c (.i .i64 0)))⟩,
  ⟨some 14, none, .op (.mov (.t 13))⟩,
  ⟨some 15, (some (14, false)), .op (.fadr 0 (.t 3))⟩,
  ⟨some 16, (some (14, false)), .op (.load false 1 (.t 15))⟩,
  ⟨some 17, (some (14, false)), .op (.bin .neq (.t 16) (.c (.i .i64 4)))⟩,
  ⟨some 18, none, .op (.pick (.t 14) (.c (.b true)) (.t 17))⟩,
  ⟨some 11, none, .op (.mov (.t 18))⟩]
def system_function.r3 : List AStep := [
  ⟨some 2, none, .op (.mov (.c (.i .i64 11)))⟩]
def system_function.r4 : List AStep := [
  ⟨some 20, none, .op (.fadr 1 (.t 1))⟩,
  ⟨some 21, none, .op (.load false 1 (.t 20))⟩,
  ⟨some 22, none, .call n_system_kindsRight [.t 21, .c (.i .i64 6)]⟩,
  ⟨some 23, none, .op (.un .not (.t 22))⟩,
  ⟨some 24, none, .op (.mov (.t 23))⟩,
  ⟨some 25, (some (24, false)), .op (.fadr 2 (.t 1))⟩,
  ⟨some 26, (some (24, false)), .op (.load false 1 (.t 25))⟩,
  ⟨some 27, (some (24, false)), .op (.bin .neq (.t 26) (.c (.s [105])))⟩,
  ⟨some 28, (some (24, false)), .op (.mov (.t 27))⟩,
  ⟨some 29, (some (28, true)), .op (.fadr 2 (.t 1))⟩,
  ⟨some 30, (some (28, true)), .op (.load false 1 (.t 29))⟩,
  ⟨some 31, (some (28, true)), .op (.bin .neq (.t 30) (.c (.s [112])))⟩,
  ⟨some 32, (some (24, false)), .op (.pick (.t 28) (.t 31) (.c (.b false)))⟩,
  ⟨some 33, (some (24, false)), .op (.mov (.t 32))⟩,
  ⟨some 34, (some (33, true)), .op (.fadr 2 (.t 1))⟩,
  ⟨some 35, (some (33, true)), .op (.load false 1 (.t 34))⟩,
  ⟨some 36, (some (33, true)), .op (.bin .neq (.t 35) (.c (.s [118])))⟩,
  ⟨some 37, (some (24, false)), .op (.pick (.t 33) (.t 36) (.c (.b false)))⟩,
  ⟨some 38, none, .op (.pick (.t 24) (.c (.b true)) (.t 37))⟩,
  ⟨some 19, none, .op (.mov (.t 38))⟩]
def system_function.r5 : List AStep := [
  ⟨some 2, none, .op (.mov (.c (.i .i64 5)))⟩]
def system_function.r6 : List AStep := [
  ⟨some 2, none, .op (.mov (.c (.i .i64 0)))⟩]
def system_function : AFunc := ⟨39, [.t 2], .seq (.post [1] (.region system_function.r0)) (.seq (.post [1, 3, 4] (.region system_function.r1)) (.seq (.post [] (.block 0 (.seq (.post [1, 11] (.region system_function.r2)) (.post [] (.cond (.t 11) (.seq (.post [2] (.region system_function.r3)) (.ret)) (.seq (.post [19] (.region system_function.r4)) (.post [] (.cond (.t 19) (.seq (.post [2] (.region system_function.r5)) (.ret)) (.skip))))))))) (.seq (.post [2] (.region system_function.r6)) (.ret))))⟩
theorem system_function.ok : okFunc Tryz.prog Tryz.f61 system_function = true := by kernel_rfl
theorem system_function.at : Tryz.prog.funcs[n_system_function]? = some Tryz.f61 := Tryz.func61
def system_byFn.r0 : List AStep := [
  ⟨some 2, none, .op (.boxf (.t 0))⟩,
  ⟨some 3, none, .op (.boxf (.t 1))⟩,
  ⟨some 4, none, .op (.mov (.c (.i .i64 0)))⟩]
def system_byFn.r1 : List AStep := [
  ⟨some 5, none, .op (.fadr 0 (.t 2))⟩,
  ⟨some 6, none, .op (.load false 1 (.t 5))⟩,
  ⟨some 7, none, .op (.fadr 0 (.t 3))⟩,
  ⟨some 8, none, .op (.load false 1 (.t 7))⟩,
  ⟨some 9, none, .call n_cmp_Compare_string [.t 6, .t 8]⟩,
  ⟨some 4, none, .op (.mov (.t 9))⟩]
def system_byFn : AFunc := ⟨10, [.t 4], .seq (.post [2, 3] (.region system_byFn.r0)) (.seq (.post [4] (.region system_byFn.r1)) (.ret))⟩
theorem system_byFn.ok : okFunc Tryz.prog Tryz.f62 system_byFn = true := by kernel_rfl
theorem system_byFn.at : Tryz.prog.funcs[n_system_byFn]? = some Tryz.f62 := Tryz.func62
def system_each_api_Con.r0 : List AStep := [
  ⟨some 6, none, .op (.mov (.c (.i .i64 0)))⟩]
def system_each_api_Con.r1 : List AStep := [
  ⟨some 10, none, .op (.mov (.t 0))⟩,
  ⟨some 11, none, .op (.len false (.t 10))⟩,
  ⟨some 12, none, .op (.mov (.c (.i .i64 0)))⟩]
def system_each_api_Con.r2 : List AStep := [
  ⟨some 13, none, .op (.bin .lss (.t 12) (.t 11))⟩]
def system_each_api_Con.r3 : List AStep := [
  ⟨some 14, none, .op (.mov (.t 12))⟩,
  ⟨some 15, none, .op (.iad 6 (.t 10) (.t 12))⟩,
  ⟨some 16, none, .op (.load true 6 (.t 15))⟩,
  ⟨some 8, none, .op (.new [.i .i64 0, .s [], .s [], .i .i64 0, .s [], .sl none 0 0])⟩,
  ⟨some 7, none, .op (.mov (.t 14))⟩,
  ⟨none, none, .op (.store 6 (.t 8) (.t 16))⟩]
def system_each_api_Con.r4 : List AStep := [
  ⟨some 17, none, .op (.mov (.t 1))⟩,
  ⟨some 18, none, .op (.load true 6 (.t 8))⟩,
  ⟨some 19, none, .callv (.t 17) [.t 18]⟩,
  ⟨some 9, none, .op (.mov (.t 19))⟩]
def system_each_api_Con.r5 : List AStep := [
  ⟨some 20, none, .op (.mov (.t 9))⟩,
  ⟨some 21, none, .op (.bin .neq (.t 20) (.c (.i .i64 0)))⟩]
def system_each_api_Con.r6 : List AStep := [
  ⟨some 22, none, .op (.mov (.t 9))⟩,
  ⟨some 6, none, .op (.mov (.t 22))⟩]
def system_each_api_Con.r7 : List AStep := [
  ⟨some 23, none, .op (.mov (.t 7))⟩,
  ⟨some 24, none, .op (.bin .gtr (.t 23) (.c (.i .i64 0)))⟩,
  ⟨some 25, none, .op (.mov (.t 24))⟩,
  ⟨some 26, (some (25, true)), .op (.mov (.t 2))⟩,
  ⟨some 27, (some (25, true)), .op (.mov (.t 0))⟩,
  ⟨some 28, (some (25, true)), .op (.mov (.t 7))⟩,
  ⟨some 29, (some (25, true)), .op (.bin .sub (.t 28) (.c (.i .i64 1)))⟩,
  ⟨some 30, (some (25, true)), .op (.iad 6 (.t 27) (.t 29))⟩,
  ⟨some 31, (some (25, true)), .op (.load true 6 (.t 30))⟩,
  ⟨some 32, (some (25, true)), .op (.load true 6 (.t 8))⟩,
  ⟨some 33, (some (25, true)), .callv (.t 26) [.t 31, .t 32]⟩,
  ⟨some 34, (some (25, true)), .op (.bin .geq (.t 33) (.c (.i .i64 0)))⟩,
  ⟨some 35, none, .op (.pick (.t 25) (.t 34) (.c (.b false)))⟩]
def system_each_api_Con.r8 : List AStep := [
  ⟨some 6, none, .op (.mov (.c (.i .i64 13)))⟩]
def system_each_api_Con.r9 : List AStep := [
  ⟨some 36, none, .op (.bin .add (.t 12) (.c (.i .i64 1)))⟩,
  ⟨some 12, none, .op (.mov (.t 36))⟩]
def system_each_api_Con.l0 : ACode := .seq (.post [0, 1, 2, 10, 11, 12, 13] (.region system_each_api_Con.r2)) (.seq (.post [0, 1, 2, 10, 11, 12] (.cond (.t 13) (.skip) (.exit 0))) (.seq (.post [0, 1, 2, 10, 11, 12] (.block 1 (.seq (.post [0, 1, 2, 7, 8, 10, 11, 12] (.region system_each_api_Con.r3)) (.seq (.seq (.post [0, 1, 2, 7, 8, 9, 10, 11, 12] (.region system_each_api_Con.r4)) (.seq (.post [0, 1, 2, 7, 8, 9, 10, 11, 12, 21] (.region system_each_api_Con.r5)) (.post [0, 1, 2, 7, 8, 10, 11, 12] (.cond (.t 21) (.seq (.post [6] (.region system_each_api_Con.r6)) (.ret)) (.skip))))) (.seq (.post [0, 1, 2, 10, 11, 12, 35] (.draw [0, 1, 3, 7, 7, 7, 39, 119, 247, 7, 1023, 2047, 4095] system_each_api_Con.r7)) (.post [0, 1, 2, 10, 11, 12] (.cond (.t 35) (.seq (.post [6] (.region system_each_api_Con.r8)) (.ret)) (.skip)))))))) (.post [0, 1, 2, 10, 11, 12] (.region system_each_api_Con.r9))))
def system_each_api_Con.r10 : List AStep := [
  ⟨some 6, none, .op (.mov (.c (.i .i64 0)))⟩]
def system_each_api_Con : AFunc := ⟨37, [.t 6], .seq (.post [0, 1, 2] (.region system_each_api_Con.r0)) (.seq (.seq (.post [0, 1, 2, 10, 11, 12] (.region system_each_api_Con.r1)) (.post [] (.block 0 (.loop system_each_api_Con.l0)))) (.seq (.post [6] (.region system_each_api_Con.r10)) (.ret)))⟩
theorem system_each_api_Con.ok : okFunc Tryz.prog Tryz.f63 system_each_api_Con = true := by kernel_rfl
theorem system_each_api_Con.at : Tryz.prog.funcs[n_system_each_api_Con]? = some Tryz.f63 := Tryz.func63
def system_Node.r0 : List AStep := [
  ⟨some 2, none, .op (.mov (.c (.b false)))⟩]
def system_Node.r1 : List AStep := [
  ⟨some 6, none, .op (.mov (.t 0))⟩,
  ⟨some 7, none, .call n_names_Read [.t 6]⟩,
  ⟨some 5, none, .op (.mov (.t 7))⟩,
  ⟨some 8, none, .op (.ext 0 (.t 5))⟩,
  ⟨some 9, none, .op (.ext 1 (.t 5))⟩,
  ⟨some 3, none, .op (.new [.i .i64 0, .s [], .i .i64 0, .s [], .i .i64 0, .i .i64 0])⟩,
  ⟨none, none, .op (.store 6 (.t 3) (.t 8))⟩,
  ⟨some 4, none, .op (.mov (.t 9))⟩]
def system_Node.r2 : List AStep := [
  ⟨some 10, none, .op (.mov (.t 4))⟩,
  ⟨some 11, none, .op (.bin .eql (.t 10) (.c (.i .i64 0)))⟩,
  ⟨some 12, none, .op (.mov (.t 11))⟩,
  ⟨some 13, (some (12, true)), .op (.fadr 0 (.t 3))⟩,
  ⟨some 14, (some (12, true)), .op (.load false 1 (.t 13))⟩,
  ⟨some 15, (some (12, true)), .op (.bin .leq (.t 14) (.c (.i .i64 3)))⟩,
  ⟨some 16, (some (12, true)), .op (.mov (.t 15))⟩,
  ⟨some 17, (some (16, false)), .op (.fadr 5 (.t 3))⟩,
  ⟨some 18, (some (16, false)), .op (.load false 1 (.t 17))⟩,
  ⟨some 19, (some (16, false)), .op (.bin .geq (.t 18) (.c (.i .i64 0)))⟩,
  ⟨some 20, (some (12, true)), .op (.pick (.t 16) (.c (.b true)) (.t 19))⟩,
  ⟨some 21, none, .op (.pick (.t 12) (.t 20) (.c (.b false)))⟩,
  ⟨some 2, none, .op (.mov (.t 21))⟩]
def system_Node : AFunc := ⟨22, [.t 2], .seq (.post [0] (.region system_Node.r0)) (.seq (.post [3, 4] (.region system_Node.r1)) (.seq (.post [2] (.region system_Node.r2)) (.ret)))⟩
theorem system_Node.ok : okFunc Tryz.prog Tryz.f39 system_Node = true := by kernel_rfl
theorem system_Node.at : Tryz.prog.funcs[n_system_Node]? = some Tryz.f39 := Tryz.func39
def system_Place.r0 : List AStep := [
  ⟨some 2, none, .op (.mov (.c (.b false)))⟩]
def system_Place.r1 : List AStep := [
  ⟨some 6, none, .op (.mov (.t 0))⟩,
  ⟨some 7, none, .call n_names_Read [.t 6]⟩,
  ⟨some 5, none, .op (.mov (.t 7))⟩,
  ⟨some 8, none, .op (.ext 0 (.t 5))⟩,
  ⟨some 9, none, .op (.ext 1 (.t 5))⟩,
  ⟨some 3, none, .op (.new [.i .i64 0, .s [], .i .i64 0, .s [], .i .i64 0, .i .i64 0])⟩,
  ⟨none, none, .op (.store 6 (.t 3) (.t 8))⟩,
  ⟨some 4, none, .op (.mov (.t 9))⟩]
def system_Place.r2 : List AStep := [
  ⟨some 10, none, .op (.mov (.t 4))⟩,
  ⟨some 11, none, .op (.bin .eql (.t 10) (.c (.i .i64 0)))⟩,
  ⟨some 12, none, .op (.mov (.t 11))⟩,
  ⟨some 13, (some (12, true)), .op (.fadr 0 (.t 3))⟩,
  ⟨some 14, (some (12, true)), .op (.load false 1 (.t 13))⟩,
  ⟨some 15, (some (12, true)), .op (.bin .eql (.t 14) (.c (.i .i64 4)))⟩,
  ⟨some 16, (some (12, true)), .op (.mov (.t 15))⟩,
  ⟨some 17, (some (16, false)), .op (.fadr 5 (.t 3))⟩,
  ⟨some 18, (some (16, false)), .op (.load false 1 (.t 17))⟩,
  ⟨some 19, (some (16, false)), .op (.bin .geq (.t 18) (.c (.i .i64 0)))⟩,
  ⟨some 20, (some (12, true)), .op (.pick (.t 16) (.c (.b true)) (.t 19))⟩,
  ⟨some 21, none, .op (.pick (.t 12) (.t 20) (.c (.b false)))⟩,
  ⟨some 2, none, .op (.mov (.t 21))⟩]
def system_Place : AFunc := ⟨22, [.t 2], .seq (.post [0] (.region system_Place.r0)) (.seq (.post [3, 4] (.region system_Place.r1)) (.seq (.post [2] (.region system_Place.r2)) (.ret)))⟩
theorem system_Place.ok : okFunc Tryz.prog Tryz.f102 system_Place = true := by kernel_rfl
theorem system_Place.at : Tryz.prog.funcs[n_system_Place]? = some Tryz.f102 := Tryz.func102
def internal_stringslite_Cut.r0 : List AStep := [
  ⟨some 4, none, .op (.mov (.c (.s [])))⟩,
  ⟨some 5, none, .op (.mov (.c (.s [])))⟩,
  ⟨some 6, none, .op (.mov (.c (.b false)))⟩]
def internal_stringslite_Cut.r1 : List AStep := [
  ⟨some 8, none, .op (.mov (.t 0))⟩,
  ⟨some 9, none, .op (.mov (.t 1))⟩,
  ⟨some 10, none, .call n_internal_stringslite_Index [.t 8, .t 9]⟩,
  ⟨some 7, none, .op (.mov (.t 10))⟩]
def internal_stringslite_Cut.r2 : List AStep := [
  ⟨some 11, none, .op (.mov (.t 7))⟩,
  ⟨some 12, none, .op (.bin .geq (.t 11) (.c (.i .i64 0)))⟩]
def internal_stringslite_Cut.r3 : List AStep := [
  ⟨some 13, none, .op (.mov (.t 0))⟩,
  ⟨some 14, none, .op (.mov (.t 7))⟩,
  ⟨some 15, none, .op (.sls (.t 13) none (some (.t 14)))⟩,
  ⟨some 16, none, .op (.mov (.t 0))⟩,
  ⟨some 17, none, .op (.mov (.t 7))⟩,
  ⟨some 18, none, .op (.mov (.t 1))⟩,
  ⟨some 19, none, .op (.len true (.t 18))⟩,
  ⟨some 20, none, .op (.bin .add (.t 17) (.t 19))⟩,
  ⟨some 21, none, .op (.sls (.t 16) (some (.t 20)) none)⟩,
  ⟨some 4, none, .op (.mov (.t 15))⟩,
  ⟨some 5, none, .op (.mov (.t 21))⟩,
  ⟨some 6, none, .op (.mov (.c (.b true)))⟩]
def internal_stringslite_Cut.r4 : List AStep := [
  ⟨some 22, none, .op (.mov (.t 0))⟩,
  ⟨some 4, none, .op (.mov (.t 22))⟩,
  ⟨some 5, none, .op (.mov (.c (.s [])))⟩,
  ⟨some 6, none, .op (.mov (.c (.b false)))⟩]
def internal_stringslite_Cut : AFunc := ⟨23, [.t 4, .t 5, .t 6], .seq (.post [0, 1] (.region internal_stringslite_Cut.r0)) (.seq (.seq (.post [0, 1, 7] (.region internal_stringslite_Cut.r1)) (.seq (.post [0, 1, 7, 12] (.region internal_stringslite_Cut.r2)) (.post [0] (.cond (.t 12) (.seq (.post [4, 5, 6] (.draw [0, 0, 3, 0, 0, 0, 32, 112, 248, 7, 1023, 2047] internal_stringslite_Cut.r3)) (.ret)) (.skip))))) (.seq (.post [4, 5, 6] (.region internal_stringslite_Cut.r4)) (.ret)))⟩
theorem internal_stringslite_Cut.ok : okFunc Tryz.prog Tryz.f159 internal_stringslite_Cut = true := by kernel_rfl
theorem internal_stringslite_Cut.at : Tryz.prog.funcs[n_internal_stringslite_Cut]? = some Tryz.f159 := Tryz.func159
def strings_Cut.r0 : List AStep := [
  ⟨some 4, none, .op (.mov (.c (.s [])))⟩,
  ⟨some 5, none, .op (.mov (.c (.s [])))⟩,
  ⟨some 6, none, .op (.mov (.c (.b false)))⟩]
def strings_Cut.r1 : List AStep := [
  ⟨some 7, none, .op (.mov (.t 0))⟩,
  ⟨some 8, none, .op (.mov (.t 1))⟩,
  ⟨some 9, none, .call n_internal_stringslite_Cut [.t 7, .t 8]⟩,
  ⟨some 10, none, .op (.ext 0 (.t 9))⟩,
  ⟨some 11, none, .op (.ext 1 (.t 9))⟩,
  ⟨some 12, none, .op (.ext 2 (.t 9))⟩,
  ⟨some 4, none, .op (.mov (.t 10))⟩,
  ⟨some 5, none, .op (.mov (.t 11))⟩,
  ⟨some 6, none, .op (.mov (.t 12))⟩]
def strings_Cut : AFunc := ⟨13, [.t 4, .t 5, .t 6], .seq (.post [0, 1] (.region strings_Cut.r0)) (.seq (.post [4, 5, 6] (.region strings_Cut.r1)) (.ret))⟩
theorem strings_Cut.ok : okFunc Tryz.prog Tryz.f135 strings_Cut = true := by kernel_rfl
theorem strings_Cut.at : Tryz.prog.funcs[n_strings_Cut]? = some Tryz.f135 := Tryz.func135
def system_called.r0 : List AStep := [
  ⟨some 1, none, .op (.boxf (.t 0))⟩,
  ⟨some 2, none, .op (.mov (.c (.b false)))⟩]
def system_called.r1 : List AStep := [
  ⟨some 10, none, .op (.fadr 4 (.t 1))⟩,
  ⟨some 11, none, .op (.load false 1 (.t 10))⟩,
  ⟨some 12, none, .call n_strings_Cut [.t 11, .c (.s [62])]⟩,
  ⟨some 9, none, .op (.mov (.t 12))⟩,
  ⟨some 13, none, .op (.ext 0 (.t 9))⟩,
  ⟨some 14, none, .op (.ext 1 (.t 9))⟩,
  ⟨some 15, none, .op (.ext 2 (.t 9))⟩,
  ⟨some 3, none, .op (.mov (.t 13))⟩,
  ⟨some 4, none, .op (.mov (.t 14))⟩,
  ⟨some 5, none, .op (.mov (.t 15))⟩]
def system_called.r2 : List AStep := [
  ⟨some 16, none, .op (.mov (.t 5))⟩,
  ⟨some 17, none, .op (.un .not (.t 16))⟩,
  ⟨some 18, none, .op (.mov (.t 17))⟩,
  ⟨some 19, (some (18, false)), .op (.fadr 3 (.t 1))⟩,
  ⟨some 20, (some (18, false)), .op (.load false 1 (.t 19))⟩,
  ⟨some 21, (some (18, false)), .op (.bin .neq (.t 20) (.c (.i .i64 0)))⟩,
  ⟨some 22, none, .op (.pick (.t 18) (.c (.b true)) (.t 21))⟩,
  ⟨some 23, none, .op (.mov (.t 22))⟩,
  ⟨some 24, (some (23, false)), .op (.mov (.t 3))⟩,
  ⟨some 25, (some (23, false)), .call n_system_kindsRight [.t 24, .c (.i .i64 6)]⟩,
  ⟨some 26, (some (23, false)), .op (.un .not (.t 25))⟩,
  ⟨some 27, none, .op (.pick (.t 23) (.c (.b true)) (.t 26))⟩,
  ⟨some 28, none, .op (.mov (.t 27))⟩,
  ⟨some 29, (some (28, false)), .op (.mov (.t 4))⟩,
  ⟨some 30, (some (28, false)), .op (.bin .neq (.t 29) (.c (.s [])))⟩,
  ⟨some 31, (some (28, false)), .op (.mov (.t 30))⟩,
  ⟨some 32, (some (31, true)), .op (.mov (.t 4))⟩,
  ⟨some 33, (some (31, true)), .op (.bin .neq (.t 32) (.c (.s [105])))⟩,
  ⟨some 34, (some (28, false)), .op (.pick (.t 31) (.t 33) (.c (.b false)))⟩,
  ⟨some 35, (some (28, false)), .op (.mov (.t 34))⟩,
  ⟨some 36, (some (35, true)), .op (.mov (.t 4))⟩,
  ⟨some 37, (some (35, true)), .op (.bin .neq (.t 36) (.c (.s [112])))⟩,
  ⟨some 38, (some (28, false)), .op (.pick (.t 35) (.t 37) (.c (.b false)))⟩,
  ⟨some 39, none, .op (.pick (.t 28) (.c (.b true)) (.t 38))⟩,
  ⟨some 40, none, .op (.mov (.t 39))⟩,
  ⟨some 41, (some (40, false)), .op (.fadr 5 (.t 1))⟩,
  ⟨some 42, (some (40, false)), .op (.load false 1 (.t 41))⟩,
  ⟨some 43, (some (40, false)), .op (.len false (.t 42))⟩,
  ⟨some 44, (some (40, false)), .op (.mov (.t 3))⟩,
  ⟨some 45, (some (40, false)), .op (.len true (.t 44))⟩,
  ⟨some 46, (some (40, false)), .op (.bin .add (.t 45) (.c (.i .i64 1)))⟩,
  ⟨some 47, (some (40, false)), .op (.bin .neq (.t 43) (.t 46))⟩,
  ⟨some 48, none, .op (.pick (.t 40) (.c (.b true)) (.t 47))⟩]
def system_called.r3 : List AStep := [
  ⟨some 2, none, .op (.mov (.c (.b false)))⟩]
def system_called.r4 : List AStep := [
  ⟨some 49, none, .op (.fadr 5 (.t 1))⟩,
  ⟨some 50, none, .op (.load false 1 (.t 49))⟩,
  ⟨some 51, none, .op (.len false (.t 50))⟩,
  ⟨some 52, none, .op (.mov (.c (.i .i64 0)))⟩]
def system_called.r5 : List AStep := [
  ⟨some 53, none, .op (.bin .lss (.t 52) (.t 51))⟩]
def system_called.r6 : List AStep := [
  ⟨some 54, none, .op (.mov (.t 52))⟩,
  ⟨some 55, none, .op (.iad 1 (.t 50) (.t 52))⟩,
  ⟨some 56, none, .op (.load false 1 (.t 55))⟩,
  ⟨some 6, none, .op (.mov (.t 54))⟩,
  ⟨some 7, none, .op (.mov (.t 56))⟩]
def system_called.r7 : List AStep := [
  ⟨some 57, none, .op (.mov (.t 4))⟩,
  ⟨some 58, none, .op (.bin .eql (.t 57) (.c (.s [112])))⟩,
  ⟨some 8, none, .op (.mov (.t 58))⟩]
def system_called.r8 : List AStep := [
  ⟨some 59, none, .op (.mov (.t 6))⟩,
  ⟨some 60, none, .op (.bin .gtr (.t 59) (.c (.i .i64 0)))⟩]
def system_called.r9 : List AStep := [
  ⟨some 61, none, .op (.mov (.t 3))⟩,
  ⟨some 62, none, .op (.mov (.t 6))⟩,
  ⟨some 63, none, .op (.bin .sub (.t 62) (.c (.i .i64 1)))⟩,
  ⟨some 64, none, .op (.idx (.t 61) (.t 63))⟩,
  ⟨some 65, none, .op (.bin .eql (.t 64) (.c (.i .u8 112)))⟩,
  ⟨some 8, none, .op (.mov (.t 65))⟩]
def system_called.r10 : List AStep := [
  ⟨some 66, none, .op (.mov (.t 7))⟩,
  ⟨some 67, none, .op (.bin .neq (.t 66) (.c (.s [])))⟩,
  ⟨some 68, none, .op (.mov (.t 67))⟩,
  ⟨some 69, (some (68, true)), .op (.mov (.t 8))⟩,
  ⟨some 70, (some (68, true)), .op (.un .not (.t 69))⟩,
  ⟨some 71, (some (68, true)), .op (.mov (.t 70))⟩,
  ⟨some 72, (some (71, false)), .op (.mov (.t 7))⟩,
  ⟨some 73, (some (71, false)), .call n_system_Node [.t 72]⟩,
  ⟨some 74, (some (71, false)), .op (.un .not (.t 73))⟩,
  ⟨some 75, (some (68, true)), .op (.pick (.t 71) (.c (.b true)) (.t 74))⟩,
  ⟨some 76, none, .op (.pick (.t 68) (.t 75) (.c (.b false)))⟩]
def system_called.r11 : List AStep := [
  ⟨some 2, none, .op (.mov (.c (.b false)))⟩]
def system_called.r12 : List AStep := [
  ⟨some 77, none, .op (.bin .add (.t 52) (.c (.i .i64 1)))⟩,
  ⟨some 52, none, .op (.mov (.t 77))⟩]
def system_called.l0 : ACode := .seq (.post [3, 4, 50, 51, 52, 53] (.region system_called.r5)) (.seq (.post [3, 4, 50, 51, 52] (.cond (.t 53) (.skip) (.exit 0))) (.seq (.post [3, 4, 50, 51, 52] (.block 1 (.seq (.post [3, 4, 6, 7, 50, 51, 52] (.region system_called.r6)) (.seq (.post [3, 4, 6, 7, 8, 50, 51, 52] (.region system_called.r7)) (.seq (.seq (.post [3, 4, 6, 7, 8, 50, 51, 52, 60] (.region system_called.r8)) (.post [3, 4, 7, 8, 50, 51, 52] (.cond (.t 60) (.post [3, 4, 7, 8, 50, 51, 52] (.region system_called.r9)) (.skip)))) (.seq (.post [3, 4, 50, 51, 52, 76] (.region system_called.r10)) (.post [3, 4, 50, 51, 52] (.cond (.t 76) (.seq (.post [2] (.region system_called.r11)) (.ret)) (.skip))))))))) (.post [3, 4, 50, 51, 52] (.region system_called.r12))))
def system_called.r13 : List AStep := [
  ⟨some 2, none, .op (.mov (.c (.b true)))⟩]
def system_called : AFunc := ⟨78, [.t 2], .seq (.post [1] (.region system_called.r0)) (.seq (.post [1, 3, 4, 5] (.region system_called.r1)) (.seq (.seq (.post [1, 3, 4, 48] (.region system_called.r2)) (.post [1, 3, 4] (.cond (.t 48) (.seq (.post [2] (.region system_called.r3)) (.ret)) (.skip)))) (.seq (.seq (.post [3, 4, 50, 51, 52] (.region system_called.r4)) (.post [] (.block 0 (.loop system_called.l0)))) (.seq (.post [2] (.region system_called.r13)) (.ret)))))⟩
theorem system_called.ok : okFunc Tryz.prog Tryz.f103 system_called = true := by kernel_rfl
theorem system_called.at : Tryz.prog.funcs[n_system_called]? = some Tryz.f103 := Tryz.func103
def system_con.r0 : List AStep := [
  ⟨some 1, none, .op (.boxf (.t 0))⟩,
  ⟨some 2, none, .op (.mov (.c (.i .i64 0)))⟩]
def system_con.r1 : List AStep := [
  ⟨some 3, none, .op (.mov (.c (.b false)))⟩]
def system_con.r2 : List AStep := [
  ⟨some 6, none, .op (.fadr 0 (.t 1))⟩,
  ⟨some 7, none, .op (.load false 1 (.t 6))⟩]
def system_con.r3 : List AStep := [
  ⟨some 9, none, .op (.bin .eql (.t 7) (.c (.i .i64 1)))⟩,
  ⟨some 8, none, .op (.mov (.t 9))⟩]
def system_con.r4 : List AStep := [
  ⟨some 10, none, .op (.fadr 1 (.t 1))⟩,
  ⟨some 11, none, .op (.load false 1 (.t 10))⟩,
  ⟨some 12, none, .call n_system_Node [.t 11]⟩,
  ⟨some 13, none, .op (.mov (.t 12))⟩,
  ⟨some 14, (some (13, true)), .op (.fadr 2 (.t 1))⟩,
  ⟨some 15, (some (13, true)), .op (.load false 1 (.t 14))⟩,
  ⟨some 16, (some (13, true)), .call n_system_Place [.t 15]⟩,
  ⟨some 17, none, .op (.pick (.t 13) (.t 16) (.c (.b false)))⟩,
  ⟨some 3, none, .op (.mov (.t 17))⟩]
def system_con.r5 : List AStep := [
  ⟨some 19, none, .op (.bin .eql (.t 7) (.c (.i .i64 2)))⟩,
  ⟨some 18, none, .op (.mov (.t 19))⟩]
def system_con.r6 : List AStep := [
  ⟨some 20, none, .op (.bin .eql (.t 7) (.c (.i .i64 3)))⟩,
  ⟨some 18, none, .op (.mov (.t 20))⟩]
def system_con.r7 : List AStep := [
  ⟨some 21, none, .op (.bin .eql (.t 7) (.c (.i .i64 4)))⟩,
  ⟨some 18, none, .op (.mov (.t 21))⟩]
def system_con.r8 : List AStep := [
  ⟨some 22, none, .op (.bin .eql (.t 7) (.c (.i .i64 5)))⟩,
  ⟨some 18, none, .op (.mov (.t 22))⟩]
def system_con.r9 : List AStep := [
  ⟨some 23, none, .op (.fadr 1 (.t 1))⟩,
  ⟨some 24, none, .op (.load false 1 (.t 23))⟩,
  ⟨some 25, none, .call n_system_Node [.t 24]⟩,
  ⟨some 26, none, .op (.mov (.t 25))⟩,
  ⟨some 27, (some (26, true)), .op (.fadr 2 (.t 1))⟩,
  ⟨some 28, (some (26, true)), .op (.load false 1 (.t 27))⟩,
  ⟨some 29, (some (26, true)), .call n_system_Node [.t 28]⟩,
  ⟨some 30, none, .op (.pick (.t 26) (.t 29) (.c (.b false)))⟩,
  ⟨some 3, none, .op (.mov (.t 30))⟩]
def system_con.r10 : List AStep := [
  ⟨some 32, none, .op (.bin .eql (.t 7) (.c (.i .i64 6)))⟩,
  ⟨some 31, none, .op (.mov (.t 32))⟩]
def system_con.r11 : List AStep := [
  ⟨some 34, none, .op (.fadr 1 (.t 1))⟩,
  ⟨some 35, none, .op (.load false 1 (.t 34))⟩,
  ⟨some 36, none, .call n_names_Read [.t 35]⟩,
  ⟨some 33, none, .op (.mov (.t 36))⟩,
  ⟨some 37, none, .op (.ext 0 (.t 33))⟩,
  ⟨some 38, none, .op (.ext 1 (.t 33))⟩,
  ⟨some 4, none, .op (.new [.i .i64 0, .s [], .i .i64 0, .s [], .i .i64 0, .i .i64 0])⟩,
  ⟨none, none, .op (.store 6 (.t 4) (.t 37))⟩,
  ⟨some 5, none, .op (.mov (.t 38))⟩]
def system_con.r12 : List AStep := [
  ⟨some 39, none, .op (.mov (.t 5))⟩,
  ⟨some 40, none, .op (.bin .eql (.t 39) (.c (.i .i64 0)))⟩,
  ⟨some 41, none, .op (.mov (.t 40))⟩,
  ⟨some 42, (some (41, true)), .op (.fadr 0 (.t 4))⟩,
  ⟨some 43, (some (41, true)), .op (.load false 1 (.t 42))⟩,
  ⟨some 44, (some (41, true)), .op (.bin .eql (.t 43) (.c (.i .i64 3)))⟩,
  ⟨some 45, none, .op (.pick (.t 41) (.t 44) (.c (.b false)))⟩,
  ⟨some 46, none, .op (.mov (.t 45))⟩,
  ⟨some 47, (some (46, true)), .op (.fadr 2 (.t 1))⟩,
  ⟨some 48, (some (46, true)), .op (.load false 1 (.t 47))⟩,
  ⟨some 49, (some (46, true)), .call n_system_Node [.t 48]⟩,
  ⟨some 50, none, .op (.pick (.t 46) (.t 49) (.c (.b false)))⟩,
  ⟨some 3, none, .op (.mov (.t 50))⟩]
def system_con.r13 : List AStep := [
  ⟨some 2, none, .op (.mov (.c (.i .i64 5)))⟩]
def system_con.r14 : List AStep := [
  ⟨some 51, none, .op (.mov (.t 3))⟩,
  ⟨some 52, none, .op (.un .not (.t 51))⟩]
def system_con.r15 : List AStep := [
  ⟨some 2, none, .op (.mov (.c (.i .i64 11)))⟩]
def system_con.r16 : List AStep := [
  ⟨some 53, none, .op (.fadr 0 (.t 1))⟩,
  ⟨some 54, none, .op (.load false 1 (.t 53))⟩]
def system_con.r17 : List AStep := [
  ⟨some 70, none, .op (.bin .eql (.t 54) (.c (.i .i64 6)))⟩,
  ⟨some 69, none, .op (.mov (.t 70))⟩]
def system_con.r18 : List AStep := [
  ⟨some 71, none, .op (.load true 6 (.t 1))⟩,
  ⟨some 72, none, .call n_system_called [.t 71]⟩,
  ⟨some 3, none, .op (.mov (.t 72))⟩]
def system_con.r19 : List AStep := [
  ⟨some 74, none, .op (.bin .eql (.t 54) (.c (.i .i64 5)))⟩,
  ⟨some 73, none, .op (.mov (.t 74))⟩]
def system_con.r20 : List AStep := [
  ⟨some 75, none, .op (.fadr 5 (.t 1))⟩,
  ⟨some 76, none, .op (.load false 1 (.t 75))⟩,
  ⟨some 77, none, .op (.len false (.t 76))⟩,
  ⟨some 78, none, .op (.bin .eql (.t 77) (.c (.i .i64 0)))⟩,
  ⟨some 79, none, .op (.mov (.t 78))⟩,
  ⟨some 80, (some (79, true)), .op (.fadr 3 (.t 1))⟩,
  ⟨some 81, (some (79, true)), .op (.load false 1 (.t 80))⟩,
  ⟨some 82, (some (79, true)), .op (.bin .geq (.t 81) (.c (.i .i64 0)))⟩,
  ⟨some 83, none, .op (.pick (.t 79) (.t 82) (.c (.b false)))⟩,
  ⟨some 84, none, .op (.mov (.t 83))⟩,
  ⟨some 85, (some (84, true)), .op (.fadr 3 (.t 1))⟩,
  ⟨some 86, (some (84, true)), .op (.load false 1 (.t 85))⟩,
  ⟨some 87, (some (84, true)), .op (.bin .leq (.t 86) (.c (.i .i64 64)))⟩,
  ⟨some 88, none, .op (.pick (.t 84) (.t 87) (.c (.b false)))⟩,
  ⟨some 89, none, .op (.mov (.t 88))⟩,
  ⟨some 90, (some (89, true)), .op (.fadr 4 (.t 1))⟩,
  ⟨some 91, (some (89, true)), .op (.load false 1 (.t 90))⟩,
  ⟨some 92, (some (89, true)), .call n_system_tagRight [.t 91]⟩,
  ⟨some 93, none, .op (.pick (.t 89) (.t 92) (.c (.b false)))⟩,
  ⟨some 3, none, .op (.mov (.t 93))⟩]
def system_con.r21 : List AStep := [
  ⟨some 55, none, .op (.fadr 5 (.t 1))⟩,
  ⟨some 56, none, .op (.load false 1 (.t 55))⟩,
  ⟨some 57, none, .op (.len false (.t 56))⟩,
  ⟨some 58, none, .op (.bin .eql (.t 57) (.c (.i .i64 0)))⟩,
  ⟨some 59, none, .op (.mov (.t 58))⟩,
  ⟨some 60, (some (59, true)), .op (.fadr 3 (.t 1))⟩,
  ⟨some 61, (some (59, true)), .op (.load false 1 (.t 60))⟩,
  ⟨some 62, (some (59, true)), .op (.bin .eql (.t 61) (.c (.i .i64 0)))⟩,
  ⟨some 63, none, .op (.pick (.t 59) (.t 62) (.c (.b false)))⟩,
  ⟨some 64, none, .op (.mov (.t 63))⟩,
  ⟨some 65, (some (64, true)), .op (.fadr 4 (.t 1))⟩,
  ⟨some 66, (some (64, true)), .op (.load false 1 (.t 65))⟩,
  ⟨some 67, (some (64, true)), .op (.bin .eql (.t 66) (.c (.s [])))⟩,
  ⟨some 68, none, .op (.pick (.t 64) (.t 67) (.c (.b false)))⟩,
  ⟨some 3, none, .op (.mov (.t 68))⟩]
def system_con.r22 : List AStep := [
  ⟨some 94, none, .op (.mov (.t 3))⟩,
  ⟨some 95, none, .op (.un .not (.t 94))⟩]
def system_con.r23 : List AStep := [
  ⟨some 2, none, .op (.mov (.c (.i .i64 3)))⟩]
def system_con.r24 : List AStep := [
  ⟨some 2, none, .op (.mov (.c (.i .i64 0)))⟩]
def system_con : AFunc := ⟨96, [.t 2], .seq (.post [1] (.region system_con.r0)) (.seq (.post [1] (.region system_con.r1)) (.seq (.seq (.post [1, 7] (.region system_con.r2)) (.post [1, 3] (.block 0 (.seq (.post [1, 7, 8] (.region system_con.r3)) (.post [1, 3] (.cond (.t 8) (.post [1, 3] (.region system_con.r4)) (.seq (.seq (.post [1, 7, 18] (.region system_con.r5)) (.post [1, 7, 18] (.cond (.t 18) (.skip) (.seq (.post [1, 7, 18] (.region system_con.r6)) (.post [1, 7, 18] (.cond (.t 18) (.skip) (.seq (.post [1, 7, 18] (.region system_con.r7)) (.post [1, 7, 18] (.cond (.t 18) (.skip) (.post [1, 7, 18] (.region system_con.r8))))))))))) (.post [1, 3] (.cond (.t 18) (.post [1, 3] (.region system_con.r9)) (.seq (.post [1, 31] (.region system_con.r10)) (.post [1, 3] (.cond (.t 31) (.seq (.post [1, 4, 5] (.region system_con.r11)) (.post [1, 3] (.region system_con.r12))) (.seq (.post [2] (.region system_con.r13)) (.ret)))))))))))))) (.seq (.seq (.post [1, 52] (.region system_con.r14)) (.post [1] (.cond (.t 52) (.seq (.post [2] (.region system_con.r15)) (.ret)) (.skip)))) (.seq (.seq (.post [1, 54] (.region system_con.r16)) (.post [3] (.block 1 (.seq (.post [1, 54, 69] (.region system_con.r17)) (.post [3] (.cond (.t 69) (.post [3] (.region system_con.r18)) (.seq (.post [1, 73] (.region system_con.r19)) (.post [3] (.cond (.t 73) (.post [3] (.region system_con.r20)) (.post [3] (.region system_con.r21))))))))))) (.seq (.seq (.post [95] (.region system_con.r22)) (.post [] (.cond (.t 95) (.seq (.post [2] (.region system_con.r23)) (.ret)) (.skip)))) (.seq (.post [2] (.region system_con.r24)) (.ret)))))))⟩
theorem system_con.ok : okFunc Tryz.prog Tryz.f64 system_con = true := by kernel_rfl
theorem system_con.at : Tryz.prog.funcs[n_system_con]? = some Tryz.f64 := Tryz.func64
def cmp_isNaN_int.r0 : List AStep := [
  ⟨some 2, none, .op (.mov (.c (.b false)))⟩]
def cmp_isNaN_int.r1 : List AStep := [
  ⟨some 3, none, .op (.mov (.t 0))⟩,
  ⟨some 4, none, .op (.mov (.t 0))⟩,
  ⟨some 5, none, .op (.bin .neq (.t 3) (.t 4))⟩,
  ⟨some 2, none, .op (.mov (.t 5))⟩]
def cmp_isNaN_int : AFunc := ⟨6, [.t 2], .seq (.post [0] (.region cmp_isNaN_int.r0)) (.seq (.post [2] (.region cmp_isNaN_int.r1)) (.ret))⟩
theorem cmp_isNaN_int.ok : okFunc Tryz.prog Tryz.f136 cmp_isNaN_int = true := by kernel_rfl
theorem cmp_isNaN_int.at : Tryz.prog.funcs[n_cmp_isNaN_int]? = some Tryz.f136 := Tryz.func136
def cmp_Compare_int.r0 : List AStep := [
  ⟨some 4, none, .op (.mov (.c (.i .i64 0)))⟩]
def cmp_Compare_int.r1 : List AStep := [
  ⟨some 7, none, .op (.mov (.t 0))⟩,
  ⟨some 8, none, .call n_cmp_isNaN_int [.t 7]⟩,
  ⟨some 5, none, .op (.mov (.t 8))⟩]
def cmp_Compare_int.r2 : List AStep := [
  ⟨some 9, none, .op (.mov (.t 1))⟩,
  ⟨some 10, none, .call n_cmp_isNaN_int [.t 9]⟩,
  ⟨some 6, none, .op (.mov (.t 10))⟩]
def cmp_Compare_int.r3 : List AStep := [
  ⟨some 11, none, .op (.mov (.t 5))⟩]
def cmp_Compare_int.r4 : List AStep := [
  ⟨some 12, none, .op (.mov (.t 6))⟩]
def cmp_Compare_int.r5 : List AStep := [
  ⟨some 4, none, .op (.mov (.c (.i .i64 0)))⟩]
def cmp_Compare_int.r6 : List AStep := [
  ⟨some 4, none, .op (.mov (.c (.i .i64 (-1))))⟩]
def cmp_Compare_int.r7 : List AStep := [
  ⟨some 13, none, .op (.mov (.t 6))⟩]
def cmp_Compare_int.r8 : List AStep := [
  ⟨some 4, none, .op (.mov (.c (.i .i64 1)))⟩]
def cmp_Compare_int.r9 : List AStep := [
  ⟨some 14, none, .op (.mov (.t 0))⟩,
  ⟨some 15, none, .op (.mov (.t 1))⟩,
  ⟨some 16, none, .op (.bin .lss (.t 14) (.t 15))⟩]
def cmp_Compare_int.r10 : List AStep := [
  ⟨some 4, none, .op (.mov (.c (.i .i64 (-1))))⟩]
def cmp_Compare_int.r11 : List AStep := [
  ⟨some 17, none, .op (.mov (.t 0))⟩,
  ⟨some 18, none, .op (.mov (.t 1))⟩,
  ⟨some 19, none, .op (.bin .gtr (.t 17) (.t 18))⟩]
def cmp_Compare_int.r12 : List AStep := [
  ⟨some 4, none, .op (.mov (.c (.i .i64 1)))⟩]
def cmp_Compare_int.r13 : List AStep := [
  ⟨some 4, none, .op (.mov (.c (.i .i64 0)))⟩]
def cmp_Compare_int : AFunc := ⟨20, [.t 4], .seq (.post [0, 1] (.region cmp_Compare_int.r0)) (.seq (.post [0, 1, 5] (.region cmp_Compare_int.r1)) (.seq (.post [0, 1, 5, 6] (.region cmp_Compare_int.r2)) (.seq (.seq (.post [0, 1, 6, 11] (.region cmp_Compare_int.r3)) (.post [0, 1, 6] (.cond (.t 11) (.seq (.seq (.post [12] (.region cmp_Compare_int.r4)) (.post [] (.cond (.t 12) (.seq (.post [4] (.region cmp_Compare_int.r5)) (.ret)) (.skip)))) (.seq (.post [4] (.region cmp_Compare_int.r6)) (.ret))) (.skip)))) (.seq (.seq (.post [0, 1, 13] (.region cmp_Compare_int.r7)) (.post [0, 1] (.cond (.t 13) (.seq (.post [4] (.region cmp_Compare_int.r8)) (.ret)) (.skip)))) (.seq (.seq (.post [0, 1, 16] (.region cmp_Compare_int.r9)) (.post [0, 1] (.cond (.t 16) (.seq (.post [4] (.region cmp_Compare_int.r10)) (.ret)) (.skip)))) (.seq (.seq (.post [19] (.region cmp_Compare_int.r11)) (.post [] (.cond (.t 19) (.seq (.post [4] (.region cmp_Compare_int.r12)) (.ret)) (.skip)))) (.seq (.post [4] (.region cmp_Compare_int.r13)) (.ret))))))))⟩
theorem cmp_Compare_int.ok : okFunc Tryz.prog Tryz.f105 cmp_Compare_int = true := by kernel_rfl
theorem cmp_Compare_int.at : Tryz.prog.funcs[n_cmp_Compare_int]? = some Tryz.f105 := Tryz.func105
def slices_Compare_string_string.r0 : List AStep := [
  ⟨some 4, none, .op (.mov (.c (.i .i64 0)))⟩]
def slices_Compare_string_string.r1 : List AStep := [
  ⟨some 9, none, .op (.mov (.t 0))⟩,
  ⟨some 10, none, .op (.len false (.t 9))⟩,
  ⟨some 11, none, .op (.mov (.c (.i .i64 0)))⟩]
def slices_Compare_string_string.r2 : List AStep := [
  ⟨some 12, none, .op (.bin .lss (.t 11) (.t 10))⟩]
def slices_Compare_string_string.r3 : List AStep := [
  ⟨some 13, none, .op (.mov (.t 11))⟩,
  ⟨some 14, none, .op (.iad 1 (.t 9) (.t 11))⟩,
  ⟨some 15, none, .op (.load false 1 (.t 14))⟩,
  ⟨some 5, none, .op (.mov (.t 13))⟩,
  ⟨some 6, none, .op (.mov (.t 15))⟩]
def slices_Compare_string_string.r4 : List AStep := [
  ⟨some 16, none, .op (.mov (.t 5))⟩,
  ⟨some 17, none, .op (.mov (.t 1))⟩,
  ⟨some 18, none, .op (.len false (.t 17))⟩,
  ⟨some 19, none, .op (.bin .geq (.t 16) (.t 18))⟩]
def slices_Compare_string_string.r5 : List AStep := [
  ⟨some 4, none, .op (.mov (.c (.i .i64 1)))⟩]
def slices_Compare_string_string.r6 : List AStep := [
  ⟨some 20, none, .op (.mov (.t 1))⟩,
  ⟨some 21, none, .op (.mov (.t 5))⟩,
  ⟨some 22, none, .op (.iad 1 (.t 20) (.t 21))⟩,
  ⟨some 23, none, .op (.load false 1 (.t 22))⟩,
  ⟨some 7, none, .op (.mov (.t 23))⟩]
def slices_Compare_string_string.r7 : List AStep := [
  ⟨some 24, none, .op (.mov (.t 6))⟩,
  ⟨some 25, none, .op (.mov (.t 7))⟩,
  ⟨some 26, none, .call n_cmp_Compare_string [.t 24, .t 25]⟩,
  ⟨some 8, none, .op (.mov (.t 26))⟩]
def slices_Compare_string_string.r8 : List AStep := [
  ⟨some 27, none, .op (.mov (.t 8))⟩,
  ⟨some 28, none, .op (.bin .neq (.t 27) (.c (.i .i64 0)))⟩]
def slices_Compare_string_string.r9 : List AStep := [
  ⟨some 29, none, .op (.mov (.t 8))⟩,
  ⟨some 4, none, .op (.mov (.t 29))⟩]
def slices_Compare_string_string.r10 : List AStep := [
  ⟨some 30, none, .op (.bin .add (.t 11) (.c (.i .i64 1)))⟩,
  ⟨some 11, none, .op (.mov (.t 30))⟩]
def slices_Compare_string_string.l0 : ACode := .seq (.post [0, 1, 9, 10, 11, 12] (.region slices_Compare_string_string.r2)) (.seq (.post [0, 1, 9, 10, 11] (.cond (.t 12) (.skip) (.exit 0))) (.seq (.post [0, 1, 9, 10, 11] (.block 1 (.seq (.post [0, 1, 5, 6, 9, 10, 11] (.region slices_Compare_string_string.r3)) (.seq (.seq (.post [0, 1, 5, 6, 9, 10, 11, 19] (.region slices_Compare_string_string.r4)) (.post [0, 1, 5, 6, 9, 10, 11] (.cond (.t 19) (.seq (.post [4] (.region slices_Compare_string_string.r5)) (.ret)) (.skip)))) (.seq (.post [0, 1, 6, 7, 9, 10, 11] (.region slices_Compare_string_string.r6)) (.seq (.post [0, 1, 8, 9, 10, 11] (.region slices_Compare_string_string.r7)) (.seq (.post [0, 1, 8, 9, 10, 11, 28] (.region slices_Compare_string_string.r8)) (.post [0, 1, 9, 10, 11] (.cond (.t 28) (.seq (.post [4] (.region slices_Compare_string_string.r9)) (.ret)) (.skip)))))))))) (.post [0, 1, 9, 10, 11] (.region slices_Compare_string_string.r10))))
def slices_Compare_string_string.r11 : List AStep := [
  ⟨some 31, none, .op (.mov (.t 0))⟩,
  ⟨some 32, none, .op (.len false (.t 31))⟩,
  ⟨some 33, none, .op (.mov (.t 1))⟩,
  ⟨some 34, none, .op (.len false (.t 33))⟩,
  ⟨some 35, none, .op (.bin .lss (.t 32) (.t 34))⟩]
def slices_Compare_string_string.r12 : List AStep := [
  ⟨some 4, none, .op (.mov (.c (.i .i64 (-1))))⟩]
def slices_Compare_string_string.r13 : List AStep := [
  ⟨some 4, none, .op (.mov (.c (.i .i64 0)))⟩]
def slices_Compare_string_string : AFunc := ⟨36, [.t 4], .seq (.post [0, 1] (.region slices_Compare_string_string.r0)) (.seq (.seq (.post [0, 1, 9, 10, 11] (.region slices_Compare_string_string.r1)) (.post [0, 1] (.block 0 (.loop slices_Compare_string_string.l0)))) (.seq (.seq (.post [35] (.region slices_Compare_string_string.r11)) (.post [] (.cond (.t 35) (.seq (.post [4] (.region slices_Compare_string_string.r12)) (.ret)) (.skip)))) (.seq (.post [4] (.region slices_Compare_string_string.r13)) (.ret))))⟩
theorem slices_Compare_string_string.ok : okFunc Tryz.prog Tryz.f106 slices_Compare_string_string = true := by kernel_rfl
theorem slices_Compare_string_string.at : Tryz.prog.funcs[n_slices_Compare_string_string]? = some Tryz.f106 := Tryz.func106
def cmp_Or_int.r0 : List AStep := [
  ⟨some 2, none, .op (.mov (.c (.i .i64 0)))⟩]
def cmp_Or_int.r1 : List AStep := [
  ⟨some 3, none, .op (.mov (.c (.i .i64 0)))⟩]
def cmp_Or_int.r2 : List AStep := [
  ⟨some 6, none, .op (.mov (.t 0))⟩,
  ⟨some 7, none, .op (.len false (.t 6))⟩,
  ⟨some 8, none, .op (.mov (.c (.i .i64 0)))⟩]
def cmp_Or_int.r3 : List AStep := [
  ⟨some 9, none, .op (.bin .lss (.t 8) (.t 7))⟩]
def cmp_Or_int.r4 : List AStep := [
  ⟨some 10, none, .op (.iad 1 (.t 6) (.t 8))⟩,
  ⟨some 11, none, .op (.load false 1 (.t 10))⟩,
  ⟨some 5, none, .op (.mov (.t 11))⟩]
def cmp_Or_int.r5 : List AStep := [
  ⟨some 12, none, .op (.mov (.t 5))⟩,
  ⟨some 13, none, .op (.mov (.t 3))⟩,
  ⟨some 14, none, .op (.bin .neq (.t 12) (.t 13))⟩]
def cmp_Or_int.r6 : List AStep := [
  ⟨some 15, none, .op (.mov (.t 5))⟩,
  ⟨some 2, none, .op (.mov (.t 15))⟩]
def cmp_Or_int.r7 : List AStep := [
  ⟨some 16, none, .op (.bin .add (.t 8) (.c (.i .i64 1)))⟩,
  ⟨some 8, none, .op (.mov (.t 16))⟩]
def cmp_Or_int.l0 : ACode := .seq (.post [3, 6, 7, 8, 9] (.region cmp_Or_int.r3)) (.seq (.post [3, 6, 7, 8] (.cond (.t 9) (.skip) (.exit 0))) (.seq (.post [3, 6, 7, 8] (.block 1 (.seq (.post [3, 5, 6, 7, 8] (.region cmp_Or_int.r4)) (.seq (.post [3, 5, 6, 7, 8, 14] (.region cmp_Or_int.r5)) (.post [3, 6, 7, 8] (.cond (.t 14) (.seq (.post [2] (.region cmp_Or_int.r6)) (.ret)) (.skip))))))) (.post [3, 6, 7, 8] (.region cmp_Or_int.r7))))
def cmp_Or_int.r8 : List AStep := [
  ⟨some 17, none, .op (.mov (.t 3))⟩,
  ⟨some 2, none, .op (.mov (.t 17))⟩]
def cmp_Or_int : AFunc := ⟨18, [.t 2], .seq (.post [0] (.region cmp_Or_int.r0)) (.seq (.post [0, 3] (.region cmp_Or_int.r1)) (.seq (.seq (.post [3, 6, 7, 8] (.region cmp_Or_int.r2)) (.post [3] (.block 0 (.loop cmp_Or_int.l0)))) (.seq (.post [2] (.region cmp_Or_int.r8)) (.ret))))⟩
theorem cmp_Or_int.ok : okFunc Tryz.prog Tryz.f104 cmp_Or_int = true := by kernel_rfl
theorem cmp_Or_int.at : Tryz.prog.funcs[n_cmp_Or_int]? = some Tryz.f104 := Tryz.func104
def system_Compare.r0 : List AStep := [
  ⟨some 2, none, .op (.boxf (.t 0))⟩,
  ⟨some 3, none, .op (.boxf (.t 1))⟩,
  ⟨some 4, none, .op (.mov (.c (.i .i64 0)))⟩]
def system_Compare.r1 : List AStep := [
  ⟨some 5, none, .op (.fadr 0 (.t 2))⟩,
  ⟨some 6, none, .op (.load false 1 (.t 5))⟩,
  ⟨some 7, none, .op (.fadr 0 (.t 3))⟩,
  ⟨some 8, none, .op (.load false 1 (.t 7))⟩,
  ⟨some 9, none, .call n_cmp_Compare_int [.t 6, .t 8]⟩,
  ⟨some 10, none, .op (.fadr 1 (.t 2))⟩,
  ⟨some 11, none, .op (.load false 1 (.t 10))⟩,
  ⟨some 12, none, .op (.fadr 1 (.t 3))⟩,
  ⟨some 13, none, .op (.load false 1 (.t 12))⟩,
  ⟨some 14, none, .call n_cmp_Compare_string [.t 11, .t 13]⟩,
  ⟨some 15, none, .op (.fadr 2 (.t 2))⟩,
  ⟨some 16, none, .op (.load false 1 (.t 15))⟩,
  ⟨some 17, none, .op (.fadr 2 (.t 3))⟩,
  ⟨some 18, none, .op (.load false 1 (.t 17))⟩,
  ⟨some 19, none, .call n_cmp_Compare_string [.t 16, .t 18]⟩,
  ⟨some 20, none, .op (.fadr 3 (.t 2))⟩,
  ⟨some 21, none, .op (.load false 1 (.t 20))⟩,
  ⟨some 22, none, .op (.fadr 3 (.t 3))⟩,
  ⟨some 23, none, .op (.load false 1 (.t 22))⟩,
  ⟨some 24, none, .call n_cmp_Compare_int [.t 21, .t 23]⟩,
  ⟨some 25, none, .op (.fadr 4 (.t 2))⟩,
  ⟨some 26, none, .op (.load false 1 (.t 25))⟩,
  ⟨some 27, none, .op (.fadr 4 (.t 3))⟩,
  ⟨some 28, none, .op (.load false 1 (.t 27))⟩,
  ⟨some 29, none, .call n_cmp_Compare_string [.t 26, .t 28]⟩,
  ⟨some 30, none, .op (.fadr 5 (.t 2))⟩,
  ⟨some 31, none, .op (.load false 1 (.t 30))⟩,
  ⟨some 32, none, .op (.fadr 5 (.t 3))⟩,
  ⟨some 33, none, .op (.load false 1 (.t 32))⟩,
  ⟨some 34, none, .call n_slices_Compare_string_string [.t 31, .t 33]⟩,
  ⟨some 35, none, .op (.bfz 6 1 [.i .i64 0] [(0, 1, .t 9), (1, 1, .t 14), (2, 1, .t 19), (3, 1, .t 24), (4, 1, .t 29), (5, 1, .t 34)])⟩,
  ⟨some 36, none, .call n_cmp_Or_int [.t 35]⟩,
  ⟨some 4, none, .op (.mov (.t 36))⟩]
def system_Compare : AFunc := ⟨37, [.t 4], .seq (.post [2, 3] (.region system_Compare.r0)) (.seq (.post [4] (.draw [0, 1, 0, 4, 15, 0, 32, 0, 128, 511, 0, 1024, 0, 4096, 16383, 0, 32768, 0, 131072, 524287, 0, 1048576, 0, 4194304, 16777215, 0, 33554432, 0, 134217728, 536870911, 1073741823, 2147483647, 4294967295] system_Compare.r1)) (.ret))⟩
theorem system_Compare.ok : okFunc Tryz.prog Tryz.f65 system_Compare = true := by kernel_rfl
theorem system_Compare.at : Tryz.prog.funcs[n_system_Compare]? = some Tryz.f65 := Tryz.func65
def system_Check.r0 : List AStep := [
  ⟨some 1, none, .op (.boxf (.t 0))⟩,
  ⟨some 2, none, .op (.mov (.c (.i .i64 0)))⟩]
def system_Check.r1 : List AStep := [
  ⟨some 5, none, .op (.fadr 0 (.t 1))⟩,
  ⟨some 6, none, .op (.load false 1 (.t 5))⟩,
  ⟨some 7, none, .op (.len false (.t 6))⟩,
  ⟨some 8, none, .op (.bin .gtr (.t 7) (.c (.i .i64 600)))⟩,
  ⟨some 9, none, .op (.mov (.t 8))⟩,
  ⟨some 10, (some (9, false)), .op (.fadr 1 (.t 1))⟩,
  ⟨some 11, (some (9, false)), .op (.load false 1 (.t 10))⟩,
  ⟨some 12, (some (9, false)), .op (.len false (.t 11))⟩,
  ⟨some 13, (some (9, false)), .op (.bin .gtr (.t 12) (.c (.i .i64 600)))⟩,
  ⟨some 14, none, .op (.pick (.t 9) (.c (.b true)) (.t 13))⟩,
  ⟨some 15, none, .op (.mov (.t 14))⟩,
  ⟨some 16, (some (15, false)), .op (.fadr 2 (.t 1))⟩,
  ⟨some 17, (some (15, false)), .op (.load false 1 (.t 16))⟩,
  ⟨some 18, (some (15, false)), .op (.len false (.t 17))⟩,
  ⟨some 19, (some (15, false)), .op (.bin .gtr (.t 18) (.c (.i .i64 6000)))⟩,
  ⟨some 20, none, .op (.pick (.t 15) (.c (.b true)) (.t 19))⟩]
def system_Check.r2 : List AStep := [
  ⟨some 2, none, .op (.mov (.c (.i .i64 4)))⟩]
def system_Check.r3 : List AStep := [
  ⟨some 21, none, .op (.fadr 0 (.t 1))⟩,
  ⟨some 22, none, .op (.load false 1 (.t 21))⟩,
  ⟨some 23, none, .call n_system_each_api_Obj [.t 22, .c (.fn 58 []), .c (.fn 59 [])]⟩,
  ⟨some 3, none, .op (.mov (.t 23))⟩]
def system_Check.r4 : List AStep := [
  ⟨some 24, none, .op (.mov (.t 3))⟩,
  ⟨some 25, none, .op (.bin .neq (.t 24) (.c (.i .i64 0)))⟩]
def system_Check.r5 : List AStep := [
  ⟨some 26, none, .op (.mov (.t 3))⟩,
  ⟨some 2, none, .op (.mov (.t 26))⟩]
def system_Check.r6 : List AStep := [
  ⟨some 27, none, .op (.fadr 1 (.t 1))⟩,
  ⟨some 28, none, .op (.load false 1 (.t 27))⟩,
  ⟨some 29, none, .call n_system_each_api_Fn [.t 28, .c (.fn 61 []), .c (.fn 62 [])]⟩,
  ⟨some 4, none, .op (.mov (.t 29))⟩]
def system_Check.r7 : List AStep := [
  ⟨some 30, none, .op (.mov (.t 4))⟩,
  ⟨some 31, none, .op (.bin .neq (.t 30) (.c (.i .i64 0)))⟩]
def system_Check.r8 : List AStep := [
  ⟨some 32, none, .op (.mov (.t 4))⟩,
  ⟨some 2, none, .op (.mov (.t 32))⟩]
def system_Check.r9 : List AStep := [
  ⟨some 33, none, .op (.fadr 2 (.t 1))⟩,
  ⟨some 34, none, .op (.load false 1 (.t 33))⟩,
  ⟨some 35, none, .call n_system_each_api_Con [.t 34, .c (.fn 64 []), .c (.fn 65 [])]⟩,
  ⟨some 2, none, .op (.mov (.t 35))⟩]
def system_Check : AFunc := ⟨36, [.t 2], .seq (.post [1] (.region system_Check.r0)) (.seq (.seq (.post [1, 20] (.region system_Check.r1)) (.post [1] (.cond (.t 20) (.seq (.post [2] (.region system_Check.r2)) (.ret)) (.skip)))) (.seq (.seq (.post [1, 3] (.region system_Check.r3)) (.seq (.post [1, 3, 25] (.region system_Check.r4)) (.post [1] (.cond (.t 25) (.seq (.post [2] (.region system_Check.r5)) (.ret)) (.skip))))) (.seq (.seq (.post [1, 4] (.region system_Check.r6)) (.seq (.post [1, 4, 31] (.region system_Check.r7)) (.post [1] (.cond (.t 31) (.seq (.post [2] (.region system_Check.r8)) (.ret)) (.skip))))) (.seq (.post [2] (.region system_Check.r9)) (.ret)))))⟩
theorem system_Check.ok : okFunc Tryz.prog Tryz.f27 system_Check = true := by kernel_rfl
theorem system_Check.at : Tryz.prog.funcs[n_system_Check]? = some Tryz.f27 := Tryz.func27
def summary_Check_1_1.r0 : List AStep := [
  ⟨some 2, none, .op (.boxf (.t 0))⟩,
  ⟨some 3, none, .op (.mov (.c (.b false)))⟩]
def summary_Check_1_1.r1 : List AStep := [
  ⟨some 4, none, .op (.fadr 0 (.t 2))⟩,
  ⟨some 5, none, .op (.load false 1 (.t 4))⟩,
  ⟨some 6, none, .op (.load false 1 (.t 1))⟩,
  ⟨some 7, none, .op (.bin .eql (.t 5) (.t 6))⟩,
  ⟨some 3, none, .op (.mov (.t 7))⟩]
def summary_Check_1_1 : AFunc := ⟨8, [.t 3], .seq (.post [1, 2] (.region summary_Check_1_1.r0)) (.seq (.post [3] (.region summary_Check_1_1.r1)) (.ret))⟩
theorem summary_Check_1_1.ok : okFunc Tryz.prog Tryz.f30 summary_Check_1_1 = true := by kernel_rfl
theorem summary_Check_1_1.at : Tryz.prog.funcs[n_summary_Check_1_1]? = some Tryz.f30 := Tryz.func30
def slices_IndexFunc_api_Obj_api_Obj.r0 : List AStep := [
  ⟨some 4, none, .op (.mov (.c (.i .i64 0)))⟩]
def slices_IndexFunc_api_Obj_api_Obj.r1 : List AStep := [
  ⟨some 6, none, .op (.mov (.t 0))⟩,
  ⟨some 7, none, .op (.len false (.t 6))⟩,
  ⟨some 8, none, .op (.mov (.c (.i .i64 0)))⟩]
def slices_IndexFunc_api_Obj_api_Obj.r2 : List AStep := [
  ⟨some 9, none, .op (.bin .lss (.t 8) (.t 7))⟩]
def slices_IndexFunc_api_Obj_api_Obj.r3 : List AStep := [
  ⟨some 10, none, .op (.mov (.t 8))⟩,
  ⟨some 5, none, .op (.mov (.t 10))⟩]
def slices_IndexFunc_api_Obj_api_Obj.r4 : List AStep := [
  ⟨some 11, none, .op (.mov (.t 1))⟩,
  ⟨some 12, none, .op (.mov (.t 0))⟩,
  ⟨some 13, none, .op (.mov (.t 5))⟩,
  ⟨some 14, none, .op (.iad 3 (.t 12) (.t 13))⟩,
  ⟨some 15, none, .op (.load true 3 (.t 14))⟩,
  ⟨some 16, none, .callv (.t 11) [.t 15]⟩]
def slices_IndexFunc_api_Obj_api_Obj.r5 : List AStep := [
  ⟨some 17, none, .op (.mov (.t 5))⟩,
  ⟨some 4, none, .op (.mov (.t 17))⟩]
def slices_IndexFunc_api_Obj_api_Obj.r6 : List AStep := [
  ⟨some 18, none, .op (.bin .add (.t 8) (.c (.i .i64 1)))⟩,
  ⟨some 8, none, .op (.mov (.t 18))⟩]
def slices_IndexFunc_api_Obj_api_Obj.l0 : ACode := .seq (.post [0, 1, 7, 8, 9] (.region slices_IndexFunc_api_Obj_api_Obj.r2)) (.seq (.post [0, 1, 7, 8] (.cond (.t 9) (.skip) (.exit 0))) (.seq (.post [0, 1, 7, 8] (.block 1 (.seq (.post [0, 1, 5, 7, 8] (.region slices_IndexFunc_api_Obj_api_Obj.r3)) (.seq (.post [0, 1, 5, 7, 8, 16] (.region slices_IndexFunc_api_Obj_api_Obj.r4)) (.post [0, 1, 7, 8] (.cond (.t 16) (.seq (.post [4] (.region slices_IndexFunc_api_Obj_api_Obj.r5)) (.ret)) (.skip))))))) (.post [0, 1, 7, 8] (.region slices_IndexFunc_api_Obj_api_Obj.r6))))
def slices_IndexFunc_api_Obj_api_Obj.r7 : List AStep := [
  ⟨some 4, none, .op (.mov (.c (.i .i64 (-1))))⟩]
def slices_IndexFunc_api_Obj_api_Obj : AFunc := ⟨19, [.t 4], .seq (.post [0, 1] (.region slices_IndexFunc_api_Obj_api_Obj.r0)) (.seq (.seq (.post [0, 1, 7, 8] (.region slices_IndexFunc_api_Obj_api_Obj.r1)) (.post [] (.block 0 (.loop slices_IndexFunc_api_Obj_api_Obj.l0)))) (.seq (.post [4] (.region slices_IndexFunc_api_Obj_api_Obj.r7)) (.ret)))⟩
theorem slices_IndexFunc_api_Obj_api_Obj.at : Tryz.prog.funcs[n_slices_IndexFunc_api_Obj_api_Obj]? = some Tryz.f66 := Tryz.func66
def slices_ContainsFunc_api_Obj_api_Obj.r0 : List AStep := [
  ⟨some 4, none, .op (.mov (.c (.b false)))⟩]
def slices_ContainsFunc_api_Obj_api_Obj.r1 : List AStep := [
  ⟨some 5, none, .op (.mov (.t 0))⟩,
  ⟨some 6, none, .op (.mov (.t 1))⟩,
  ⟨some 7, none, .call n_slices_IndexFunc_api_Obj_api_Obj [.t 5, .t 6]⟩,
  ⟨some 8, none, .op (.bin .geq (.t 7) (.c (.i .i64 0)))⟩,
  ⟨some 4, none, .op (.mov (.t 8))⟩]
def slices_ContainsFunc_api_Obj_api_Obj : AFunc := ⟨9, [.t 4], .seq (.post [0, 1] (.region slices_ContainsFunc_api_Obj_api_Obj.r0)) (.seq (.post [4] (.region slices_ContainsFunc_api_Obj_api_Obj.r1)) (.ret))⟩
theorem slices_ContainsFunc_api_Obj_api_Obj.at : Tryz.prog.funcs[n_slices_ContainsFunc_api_Obj_api_Obj]? = some Tryz.f29 := Tryz.func29
def summary_Check_1_2.r0 : List AStep := [
  ⟨some 2, none, .op (.boxf (.t 0))⟩,
  ⟨some 3, none, .op (.mov (.c (.b false)))⟩]
def summary_Check_1_2.r1 : List AStep := [
  ⟨some 4, none, .op (.fadr 0 (.t 2))⟩,
  ⟨some 5, none, .op (.load false 1 (.t 4))⟩,
  ⟨some 6, none, .op (.load false 1 (.t 1))⟩,
  ⟨some 7, none, .op (.bin .eql (.t 5) (.t 6))⟩,
  ⟨some 3, none, .op (.mov (.t 7))⟩]
def summary_Check_1_2 : AFunc := ⟨8, [.t 3], .seq (.post [1, 2] (.region summary_Check_1_2.r0)) (.seq (.post [3] (.region summary_Check_1_2.r1)) (.ret))⟩
theorem summary_Check_1_2.ok : okFunc Tryz.prog Tryz.f32 summary_Check_1_2 = true := by kernel_rfl
theorem summary_Check_1_2.at : Tryz.prog.funcs[n_summary_Check_1_2]? = some Tryz.f32 := Tryz.func32
def slices_IndexFunc_api_Fn_api_Fn.r0 : List AStep := [
  ⟨some 4, none, .op (.mov (.c (.i .i64 0)))⟩]
def slices_IndexFunc_api_Fn_api_Fn.r1 : List AStep := [
  ⟨some 6, none, .op (.mov (.t 0))⟩,
  ⟨some 7, none, .op (.len false (.t 6))⟩,
  ⟨some 8, none, .op (.mov (.c (.i .i64 0)))⟩]
def slices_IndexFunc_api_Fn_api_Fn.r2 : List AStep := [
  ⟨some 9, none, .op (.bin .lss (.t 8) (.t 7))⟩]
def slices_IndexFunc_api_Fn_api_Fn.r3 : List AStep := [
  ⟨some 10, none, .op (.mov (.t 8))⟩,
  ⟨some 5, none, .op (.mov (.t 10))⟩]
def slices_IndexFunc_api_Fn_api_Fn.r4 : List AStep := [
  ⟨some 11, none, .op (.mov (.t 1))⟩,
  ⟨some 12, none, .op (.mov (.t 0))⟩,
  ⟨some 13, none, .op (.mov (.t 5))⟩,
  ⟨some 14, none, .op (.iad 3 (.t 12) (.t 13))⟩,
  ⟨some 15, none, .op (.load true 3 (.t 14))⟩,
  ⟨some 16, none, .callv (.t 11) [.t 15]⟩]
def slices_IndexFunc_api_Fn_api_Fn.r5 : List AStep := [
  ⟨some 17, none, .op (.mov (.t 5))⟩,
  ⟨some 4, none, .op (.mov (.t 17))⟩]
def slices_IndexFunc_api_Fn_api_Fn.r6 : List AStep := [
  ⟨some 18, none, .op (.bin .add (.t 8) (.c (.i .i64 1)))⟩,
  ⟨some 8, none, .op (.mov (.t 18))⟩]
def slices_IndexFunc_api_Fn_api_Fn.l0 : ACode := .seq (.post [0, 1, 7, 8, 9] (.region slices_IndexFunc_api_Fn_api_Fn.r2)) (.seq (.post [0, 1, 7, 8] (.cond (.t 9) (.skip) (.exit 0))) (.seq (.post [0, 1, 7, 8] (.block 1 (.seq (.post [0, 1, 5, 7, 8] (.region slices_IndexFunc_api_Fn_api_Fn.r3)) (.seq (.post [0, 1, 5, 7, 8, 16] (.region slices_IndexFunc_api_Fn_api_Fn.r4)) (.post [0, 1, 7, 8] (.cond (.t 16) (.seq (.post [4] (.region slices_IndexFunc_api_Fn_api_Fn.r5)) (.ret)) (.skip))))))) (.post [0, 1, 7, 8] (.region slices_IndexFunc_api_Fn_api_Fn.r6))))
def slices_IndexFunc_api_Fn_api_Fn.r7 : List AStep := [
  ⟨some 4, none, .op (.mov (.c (.i .i64 (-1))))⟩]
def slices_IndexFunc_api_Fn_api_Fn : AFunc := ⟨19, [.t 4], .seq (.post [0, 1] (.region slices_IndexFunc_api_Fn_api_Fn.r0)) (.seq (.seq (.post [0, 1, 7, 8] (.region slices_IndexFunc_api_Fn_api_Fn.r1)) (.post [] (.block 0 (.loop slices_IndexFunc_api_Fn_api_Fn.l0)))) (.seq (.post [4] (.region slices_IndexFunc_api_Fn_api_Fn.r7)) (.ret)))⟩
theorem slices_IndexFunc_api_Fn_api_Fn.at : Tryz.prog.funcs[n_slices_IndexFunc_api_Fn_api_Fn]? = some Tryz.f67 := Tryz.func67
def slices_ContainsFunc_api_Fn_api_Fn.r0 : List AStep := [
  ⟨some 4, none, .op (.mov (.c (.b false)))⟩]
def slices_ContainsFunc_api_Fn_api_Fn.r1 : List AStep := [
  ⟨some 5, none, .op (.mov (.t 0))⟩,
  ⟨some 6, none, .op (.mov (.t 1))⟩,
  ⟨some 7, none, .call n_slices_IndexFunc_api_Fn_api_Fn [.t 5, .t 6]⟩,
  ⟨some 8, none, .op (.bin .geq (.t 7) (.c (.i .i64 0)))⟩,
  ⟨some 4, none, .op (.mov (.t 8))⟩]
def slices_ContainsFunc_api_Fn_api_Fn : AFunc := ⟨9, [.t 4], .seq (.post [0, 1] (.region slices_ContainsFunc_api_Fn_api_Fn.r0)) (.seq (.post [4] (.region slices_ContainsFunc_api_Fn_api_Fn.r1)) (.ret))⟩
theorem slices_ContainsFunc_api_Fn_api_Fn.at : Tryz.prog.funcs[n_slices_ContainsFunc_api_Fn_api_Fn]? = some Tryz.f31 := Tryz.func31
def summary_Check_1.r0 : List AStep := [
  ⟨some 2, none, .op (.box (.t 0))⟩,
  ⟨some 3, none, .op (.mov (.c (.b false)))⟩]
def summary_Check_1.r1 : List AStep := [
  ⟨some 4, none, .op (.fadr 4 (.t 1))⟩,
  ⟨some 5, none, .op (.fadr 0 (.t 4))⟩,
  ⟨some 6, none, .op (.load false 1 (.t 5))⟩,
  ⟨some 7, none, .op (.mkfn n_summary_Check_1_1 [.t 2])⟩,
  ⟨some 8, none, .call n_slices_ContainsFunc_api_Obj_api_Obj [.t 6, .t 7]⟩,
  ⟨some 9, none, .op (.mov (.t 8))⟩,
  ⟨some 10, (some (9, false)), .op (.fadr 4 (.t 1))⟩,
  ⟨some 11, (some (9, false)), .op (.fadr 1 (.t 10))⟩,
  ⟨some 12, (some (9, false)), .op (.load false 1 (.t 11))⟩,
  ⟨some 13, (some (9, false)), .op (.mkfn n_summary_Check_1_2 [.t 2])⟩,
  ⟨some 14, (some (9, false)), .call n_slices_ContainsFunc_api_Fn_api_Fn [.t 12, .t 13]⟩,
  ⟨some 15, none, .op (.pick (.t 9) (.c (.b true)) (.t 14))⟩,
  ⟨some 3, none, .op (.mov (.t 15))⟩]
def summary_Check_1 : AFunc := ⟨16, [.t 3], .seq (.post [1, 2] (.region summary_Check_1.r0)) (.seq (.post [3] (.region summary_Check_1.r1)) (.ret))⟩
theorem summary_Check_1.ok : okFunc Tryz.prog Tryz.f28 summary_Check_1 = true := by kernel_rfl
theorem summary_Check_1.at : Tryz.prog.funcs[n_summary_Check_1]? = some Tryz.f28 := Tryz.func28
def summary_rises.r0 : List AStep := [
  ⟨some 2, none, .op (.mov (.c (.b false)))⟩]
def summary_rises.r1 : List AStep := [
  ⟨some 3, none, .op (.mov (.c (.i .i64 1)))⟩]
def summary_rises.r2 : List AStep := [
  ⟨some 4, none, .op (.mov (.t 3))⟩,
  ⟨some 5, none, .op (.mov (.t 0))⟩,
  ⟨some 6, none, .op (.len false (.t 5))⟩,
  ⟨some 7, none, .op (.bin .lss (.t 4) (.t 6))⟩]
def summary_rises.r3 : List AStep := [
  ⟨some 10, none, .op (.mov (.t 0))⟩,
  ⟨some 11, none, .op (.mov (.t 3))⟩,
  ⟨some 12, none, .op (.iad 1 (.t 10) (.t 11))⟩,
  ⟨some 13, none, .op (.load false 1 (.t 12))⟩,
  ⟨some 14, none, .op (.mov (.t 0))⟩,
  ⟨some 15, none, .op (.mov (.t 3))⟩,
  ⟨some 16, none, .op (.bin .sub (.t 15) (.c (.i .i64 1)))⟩,
  ⟨some 17, none, .op (.iad 1 (.t 14) (.t 16))⟩,
  ⟨some 18, none, .op (.load false 1 (.t 17))⟩,
  ⟨some 19, none, .op (.bin .leq (.t 13) (.t 18))⟩]
def summary_rises.r4 : List AStep := [
  ⟨some 2, none, .op (.mov (.c (.b false)))⟩]
def summary_rises.r5 : List AStep := [
  ⟨some 8, none, .op (.mov (.t 3))⟩,
  ⟨some 9, none, .op (.bin .add (.t 8) (.c (.i .i64 1)))⟩,
  ⟨some 3, none, .op (.mov (.t 9))⟩]
def summary_rises.l0 : ACode := .seq (.seq (.post [0, 3, 7] (.region summary_rises.r2)) (.post [0, 3] (.cond (.t 7) (.skip) (.exit 0)))) (.seq (.post [0, 3] (.block 1 (.seq (.post [0, 3, 19] (.draw [0, 0, 3, 7, 0, 0, 32, 112, 240, 511] summary_rises.r3)) (.post [0, 3] (.cond (.t 19) (.seq (.post [2] (.region summary_rises.r4)) (.ret)) (.skip)))))) (.post [0, 3] (.region summary_rises.r5)))
def summary_rises.r6 : List AStep := [
  ⟨some 2, none, .op (.mov (.c (.b true)))⟩]
def summary_rises : AFunc := ⟨20, [.t 2], .seq (.post [0] (.region summary_rises.r0)) (.seq (.seq (.post [0, 3] (.region summary_rises.r1)) (.post [] (.block 0 (.loop summary_rises.l0)))) (.seq (.post [2] (.region summary_rises.r6)) (.ret)))⟩
theorem summary_rises.ok : okFunc Tryz.prog Tryz.f33 summary_rises = true := by kernel_rfl
theorem summary_rises.at : Tryz.prog.funcs[n_summary_rises]? = some Tryz.f33 := Tryz.func33
def summary_Check_2.r0 : List AStep := [
  ⟨some 3, none, .op (.mov (.c (.b false)))⟩]
def summary_Check_2.r1 : List AStep := [
  ⟨some 4, none, .op (.load false 1 (.t 1))⟩,
  ⟨some 5, none, .op (.mov (.t 0))⟩,
  ⟨some 6, none, .callv (.t 4) [.t 5]⟩,
  ⟨some 7, none, .op (.un .not (.t 6))⟩,
  ⟨some 3, none, .op (.mov (.t 7))⟩]
def summary_Check_2 : AFunc := ⟨8, [.t 3], .seq (.post [0, 1] (.region summary_Check_2.r0)) (.seq (.post [3] (.region summary_Check_2.r1)) (.ret))⟩
theorem summary_Check_2.ok : okFunc Tryz.prog Tryz.f35 summary_Check_2 = true := by kernel_rfl
theorem summary_Check_2.at : Tryz.prog.funcs[n_summary_Check_2]? = some Tryz.f35 := Tryz.func35
def slices_IndexFunc_string_string.r0 : List AStep := [
  ⟨some 4, none, .op (.mov (.c (.i .i64 0)))⟩]
def slices_IndexFunc_string_string.r1 : List AStep := [
  ⟨some 6, none, .op (.mov (.t 0))⟩,
  ⟨some 7, none, .op (.len false (.t 6))⟩,
  ⟨some 8, none, .op (.mov (.c (.i .i64 0)))⟩]
def slices_IndexFunc_string_string.r2 : List AStep := [
  ⟨some 9, none, .op (.bin .lss (.t 8) (.t 7))⟩]
def slices_IndexFunc_string_string.r3 : List AStep := [
  ⟨some 10, none, .op (.mov (.t 8))⟩,
  ⟨some 5, none, .op (.mov (.t 10))⟩]
def slices_IndexFunc_string_string.r4 : List AStep := [
  ⟨some 11, none, .op (.mov (.t 1))⟩,
  ⟨some 12, none, .op (.mov (.t 0))⟩,
  ⟨some 13, none, .op (.mov (.t 5))⟩,
  ⟨some 14, none, .op (.iad 1 (.t 12) (.t 13))⟩,
  ⟨some 15, none, .op (.load false 1 (.t 14))⟩,
  ⟨some 16, none, .callv (.t 11) [.t 15]⟩]
def slices_IndexFunc_string_string.r5 : List AStep := [
  ⟨some 17, none, .op (.mov (.t 5))⟩,
  ⟨some 4, none, .op (.mov (.t 17))⟩]
def slices_IndexFunc_string_string.r6 : List AStep := [
  ⟨some 18, none, .op (.bin .add (.t 8) (.c (.i .i64 1)))⟩,
  ⟨some 8, none, .op (.mov (.t 18))⟩]
def slices_IndexFunc_string_string.l0 : ACode := .seq (.post [0, 1, 7, 8, 9] (.region slices_IndexFunc_string_string.r2)) (.seq (.post [0, 1, 7, 8] (.cond (.t 9) (.skip) (.exit 0))) (.seq (.post [0, 1, 7, 8] (.block 1 (.seq (.post [0, 1, 5, 7, 8] (.region slices_IndexFunc_string_string.r3)) (.seq (.post [0, 1, 5, 7, 8, 16] (.region slices_IndexFunc_string_string.r4)) (.post [0, 1, 7, 8] (.cond (.t 16) (.seq (.post [4] (.region slices_IndexFunc_string_string.r5)) (.ret)) (.skip))))))) (.post [0, 1, 7, 8] (.region slices_IndexFunc_string_string.r6))))
def slices_IndexFunc_string_string.r7 : List AStep := [
  ⟨some 4, none, .op (.mov (.c (.i .i64 (-1))))⟩]
def slices_IndexFunc_string_string : AFunc := ⟨19, [.t 4], .seq (.post [0, 1] (.region slices_IndexFunc_string_string.r0)) (.seq (.seq (.post [0, 1, 7, 8] (.region slices_IndexFunc_string_string.r1)) (.post [] (.block 0 (.loop slices_IndexFunc_string_string.l0)))) (.seq (.post [4] (.region slices_IndexFunc_string_string.r7)) (.ret)))⟩
theorem slices_IndexFunc_string_string.ok : okFunc Tryz.prog Tryz.f68 slices_IndexFunc_string_string = true := by kernel_rfl
theorem slices_IndexFunc_string_string.at : Tryz.prog.funcs[n_slices_IndexFunc_string_string]? = some Tryz.f68 := Tryz.func68
def slices_ContainsFunc_string_string.r0 : List AStep := [
  ⟨some 4, none, .op (.mov (.c (.b false)))⟩]
def slices_ContainsFunc_string_string.r1 : List AStep := [
  ⟨some 5, none, .op (.mov (.t 0))⟩,
  ⟨some 6, none, .op (.mov (.t 1))⟩,
  ⟨some 7, none, .call n_slices_IndexFunc_string_string [.t 5, .t 6]⟩,
  ⟨some 8, none, .op (.bin .geq (.t 7) (.c (.i .i64 0)))⟩,
  ⟨some 4, none, .op (.mov (.t 8))⟩]
def slices_ContainsFunc_string_string : AFunc := ⟨9, [.t 4], .seq (.post [0, 1] (.region slices_ContainsFunc_string_string.r0)) (.seq (.post [4] (.region slices_ContainsFunc_string_string.r1)) (.ret))⟩
theorem slices_ContainsFunc_string_string.ok : okFunc Tryz.prog Tryz.f34 slices_ContainsFunc_string_string = true := by kernel_rfl
theorem slices_ContainsFunc_string_string.at : Tryz.prog.funcs[n_slices_ContainsFunc_string_string]? = some Tryz.f34 := Tryz.func34
def slices_Index_string_string.r0 : List AStep := [
  ⟨some 4, none, .op (.mov (.c (.i .i64 0)))⟩]
def slices_Index_string_string.r1 : List AStep := [
  ⟨some 6, none, .op (.mov (.t 0))⟩,
  ⟨some 7, none, .op (.len false (.t 6))⟩,
  ⟨some 8, none, .op (.mov (.c (.i .i64 0)))⟩]
def slices_Index_string_string.r2 : List AStep := [
  ⟨some 9, none, .op (.bin .lss (.t 8) (.t 7))⟩]
def slices_Index_string_string.r3 : List AStep := [
  ⟨some 10, none, .op (.mov (.t 8))⟩,
  ⟨some 5, none, .op (.mov (.t 10))⟩]
def slices_Index_string_string.r4 : List AStep := [
  ⟨some 11, none, .op (.mov (.t 1))⟩,
  ⟨some 12, none, .op (.mov (.t 0))⟩,
  ⟨some 13, none, .op (.mov (.t 5))⟩,
  ⟨some 14, none, .op (.iad 1 (.t 12) (.t 13))⟩,
  ⟨some 15, none, .op (.load false 1 (.t 14))⟩,
  ⟨some 16, none, .op (.bin .eql (.t 11) (.t 15))⟩]
def slices_Index_string_string.r5 : List AStep := [
  ⟨some 17, none, .op (.mov (.t 5))⟩,
  ⟨some 4, none, .op (.mov (.t 17))⟩]
def slices_Index_string_string.r6 : List AStep := [
  ⟨some 18, none, .op (.bin .add (.t 8) (.c (.i .i64 1)))⟩,
  ⟨some 8, none, .op (.mov (.t 18))⟩]
def slices_Index_string_string.l0 : ACode := .seq (.post [0, 1, 7, 8, 9] (.region slices_Index_string_string.r2)) (.seq (.post [0, 1, 7, 8] (.cond (.t 9) (.skip) (.exit 0))) (.seq (.post [0, 1, 7, 8] (.block 1 (.seq (.post [0, 1, 5, 7, 8] (.region slices_Index_string_string.r3)) (.seq (.post [0, 1, 5, 7, 8, 16] (.region slices_Index_string_string.r4)) (.post [0, 1, 7, 8] (.cond (.t 16) (.seq (.post [4] (.region slices_Index_string_string.r5)) (.ret)) (.skip))))))) (.post [0, 1, 7, 8] (.region slices_Index_string_string.r6))))
def slices_Index_string_string.r7 : List AStep := [
  ⟨some 4, none, .op (.mov (.c (.i .i64 (-1))))⟩]
def slices_Index_string_string : AFunc := ⟨19, [.t 4], .seq (.post [0, 1] (.region slices_Index_string_string.r0)) (.seq (.seq (.post [0, 1, 7, 8] (.region slices_Index_string_string.r1)) (.post [] (.block 0 (.loop slices_Index_string_string.l0)))) (.seq (.post [4] (.region slices_Index_string_string.r7)) (.ret)))⟩
theorem slices_Index_string_string.ok : okFunc Tryz.prog Tryz.f69 slices_Index_string_string = true := by kernel_rfl
theorem slices_Index_string_string.at : Tryz.prog.funcs[n_slices_Index_string_string]? = some Tryz.f69 := Tryz.func69
def slices_Contains_string_string.r0 : List AStep := [
  ⟨some 4, none, .op (.mov (.c (.b false)))⟩]
def slices_Contains_string_string.r1 : List AStep := [
  ⟨some 5, none, .op (.mov (.t 0))⟩,
  ⟨some 6, none, .op (.mov (.t 1))⟩,
  ⟨some 7, none, .call n_slices_Index_string_string [.t 5, .t 6]⟩,
  ⟨some 8, none, .op (.bin .geq (.t 7) (.c (.i .i64 0)))⟩,
  ⟨some 4, none, .op (.mov (.t 8))⟩]
def slices_Contains_string_string : AFunc := ⟨9, [.t 4], .seq (.post [0, 1] (.region slices_Contains_string_string.r0)) (.seq (.post [4] (.region slices_Contains_string_string.r1)) (.ret))⟩
theorem slices_Contains_string_string.ok : okFunc Tryz.prog Tryz.f37 slices_Contains_string_string = true := by kernel_rfl
theorem slices_Contains_string_string.at : Tryz.prog.funcs[n_slices_Contains_string_string]? = some Tryz.f37 := Tryz.func37
def summary_Check_3.r0 : List AStep := [
  ⟨some 3, none, .op (.mov (.c (.b false)))⟩]
def summary_Check_3.r1 : List AStep := [
  ⟨some 4, none, .op (.fadr 2 (.t 1))⟩,
  ⟨some 5, none, .op (.load false 1 (.t 4))⟩,
  ⟨some 6, none, .op (.mov (.t 0))⟩,
  ⟨some 7, none, .call n_slices_Contains_string_string [.t 5, .t 6]⟩,
  ⟨some 3, none, .op (.mov (.t 7))⟩]
def summary_Check_3 : AFunc := ⟨8, [.t 3], .seq (.post [0, 1] (.region summary_Check_3.r0)) (.seq (.post [3] (.region summary_Check_3.r1)) (.ret))⟩
theorem summary_Check_3.ok : okFunc Tryz.prog Tryz.f36 summary_Check_3 = true := by kernel_rfl
theorem summary_Check_3.at : Tryz.prog.funcs[n_summary_Check_3]? = some Tryz.f36 := Tryz.func36
def summary_Check_4.r0 : List AStep := [
  ⟨some 2, none, .op (.mov (.c (.b false)))⟩]
def summary_Check_4.r1 : List AStep := [
  ⟨some 3, none, .op (.mov (.t 0))⟩,
  ⟨some 4, none, .call n_system_Node [.t 3]⟩,
  ⟨some 5, none, .op (.un .not (.t 4))⟩,
  ⟨some 2, none, .op (.mov (.t 5))⟩]
def summary_Check_4 : AFunc := ⟨6, [.t 2], .seq (.post [0] (.region summary_Check_4.r0)) (.seq (.post [2] (.region summary_Check_4.r1)) (.ret))⟩
theorem summary_Check_4.ok : okFunc Tryz.prog Tryz.f38 summary_Check_4 = true := by kernel_rfl
theorem summary_Check_4.at : Tryz.prog.funcs[n_summary_Check_4]? = some Tryz.f38 := Tryz.func38
def summary_Check.r0 : List AStep := [
  ⟨some 1, none, .op (.box (.t 0))⟩,
  ⟨some 2, none, .op (.mov (.c (.i .i64 0)))⟩]
def summary_Check.r1 : List AStep := [
  ⟨some 7, none, .op (.fadr 0 (.t 1))⟩,
  ⟨some 8, none, .op (.load false 1 (.t 7))⟩,
  ⟨some 9, none, .call n_digits_Name [.t 8]⟩,
  ⟨some 10, none, .op (.un .not (.t 9))⟩]
def summary_Check.r2 : List AStep := [
  ⟨some 2, none, .op (.mov (.c (.i .i64 11)))⟩]
def summary_Check.r3 : List AStep := [
  ⟨some 11, none, .op (.fadr 4 (.t 1))⟩,
  ⟨some 12, none, .op (.load true 3 (.t 11))⟩,
  ⟨some 13, none, .call n_system_Check [.t 12]⟩,
  ⟨some 3, none, .op (.mov (.t 13))⟩]
def summary_Check.r4 : List AStep := [
  ⟨some 14, none, .op (.mov (.t 3))⟩,
  ⟨some 15, none, .op (.bin .neq (.t 14) (.c (.i .i64 0)))⟩]
def summary_Check.r5 : List AStep := [
  ⟨some 16, none, .op (.mov (.t 3))⟩,
  ⟨some 2, none, .op (.mov (.t 16))⟩]
def summary_Check.r6 : List AStep := [
  ⟨some 17, none, .op (.mkfn n_summary_Check_1 [.t 1])⟩,
  ⟨some 4, none, .op (.new [.nf])⟩,
  ⟨none, none, .op (.store 1 (.t 4) (.t 17))⟩]
def summary_Check.r7 : List AStep := [
  ⟨some 18, none, .op (.fadr 1 (.t 1))⟩,
  ⟨some 19, none, .op (.load false 1 (.t 18))⟩,
  ⟨some 20, none, .op (.fadr 2 (.t 1))⟩,
  ⟨some 21, none, .op (.load false 1 (.t 20))⟩,
  ⟨some 22, none, .op (.bfz 2 1 [.sl none 0 0] [(0, 1, .t 19), (1, 1, .t 21)])⟩,
  ⟨some 23, none, .op (.len false (.t 22))⟩,
  ⟨some 24, none, .op (.mov (.c (.i .i64 0)))⟩]
def summary_Check.r8 : List AStep := [
  ⟨some 25, none, .op (.bin .lss (.t 24) (.t 23))⟩]
def summary_Check.r9 : List AStep := [
  ⟨some 26, none, .op (.iad 1 (.t 22) (.t 24))⟩,
  ⟨some 27, none, .op (.load false 1 (.t 26))⟩,
  ⟨some 6, none, .op (.mov (.t 27))⟩]
def summary_Check.r10 : List AStep := [
  ⟨some 29, none, .op (.mov (.t 6))⟩,
  ⟨some 30, none, .call n_summary_rises [.t 29]⟩,
  ⟨some 31, none, .op (.un .not (.t 30))⟩,
  ⟨some 28, none, .op (.mov (.t 31))⟩]
def summary_Check.r11 : List AStep := [
  ⟨some 2, none, .op (.mov (.c (.i .i64 13)))⟩]
def summary_Check.r12 : List AStep := [
  ⟨some 33, none, .op (.mov (.t 6))⟩,
  ⟨some 34, none, .op (.mkfn n_summary_Check_2 [.t 4])⟩,
  ⟨some 35, none, .call n_slices_ContainsFunc_string_string [.t 33, .t 34]⟩,
  ⟨some 32, none, .op (.mov (.t 35))⟩]
def summary_Check.r13 : List AStep := [
  ⟨some 2, none, .op (.mov (.c (.i .i64 7)))⟩]
def summary_Check.r14 : List AStep := [
  ⟨some 36, none, .op (.bin .add (.t 24) (.c (.i .i64 1)))⟩,
  ⟨some 24, none, .op (.mov (.t 36))⟩]
def summary_Check.l0 : ACode := .seq (.post [1, 4, 22, 23, 24, 25] (.region summary_Check.r8)) (.seq (.post [1, 4, 22, 23, 24] (.cond (.t 25) (.skip) (.exit 0))) (.seq (.post [1, 4, 22, 23, 24] (.block 1 (.seq (.post [1, 4, 6, 22, 23, 24] (.region summary_Check.r9)) (.post [1, 4, 22, 23, 24] (.block 2 (.seq (.post [1, 4, 6, 22, 23, 24, 28] (.region summary_Check.r10)) (.post [1, 4, 22, 23, 24] (.cond (.t 28) (.seq (.post [2] (.region summary_Check.r11)) (.ret)) (.seq (.post [1, 4, 22, 23, 24, 32] (.region summary_Check.r12)) (.post [1, 4, 22, 23, 24] (.cond (.t 32) (.seq (.post [2] (.region summary_Check.r13)) (.ret)) (.skip)))))))))))) (.post [1, 4, 22, 23, 24] (.region summary_Check.r14))))
def summary_Check.r15 : List AStep := [
  ⟨some 38, none, .op (.fadr 1 (.t 1))⟩,
  ⟨some 39, none, .op (.load false 1 (.t 38))⟩,
  ⟨some 40, none, .op (.mkfn n_summary_Check_3 [.t 1])⟩,
  ⟨some 41, none, .call n_slices_ContainsFunc_string_string [.t 39, .t 40]⟩,
  ⟨some 37, none, .op (.mov (.t 41))⟩]
def summary_Check.r16 : List AStep := [
  ⟨some 2, none, .op (.mov (.c (.i .i64 8)))⟩]
def summary_Check.r17 : List AStep := [
  ⟨some 43, none, .op (.fadr 3 (.t 1))⟩,
  ⟨some 44, none, .op (.load false 1 (.t 43))⟩,
  ⟨some 45, none, .op (.len false (.t 44))⟩,
  ⟨some 46, none, .op (.bin .gtr (.t 45) (.c (.i .i64 6000)))⟩,
  ⟨some 42, none, .op (.mov (.t 46))⟩]
def summary_Check.r18 : List AStep := [
  ⟨some 2, none, .op (.mov (.c (.i .i64 4)))⟩]
def summary_Check.r19 : List AStep := [
  ⟨some 48, none, .op (.fadr 3 (.t 1))⟩,
  ⟨some 49, none, .op (.load false 1 (.t 48))⟩,
  ⟨some 50, none, .call n_summary_rises [.t 49]⟩,
  ⟨some 51, none, .op (.un .not (.t 50))⟩,
  ⟨some 47, none, .op (.mov (.t 51))⟩]
def summary_Check.r20 : List AStep := [
  ⟨some 2, none, .op (.mov (.c (.i .i64 13)))⟩]
def summary_Check.r21 : List AStep := [
  ⟨some 53, none, .op (.fadr 3 (.t 1))⟩,
  ⟨some 54, none, .op (.load false 1 (.t 53))⟩,
  ⟨some 55, none, .call n_slices_ContainsFunc_string_string [.t 54, .c (.fn 38 [])]⟩,
  ⟨some 52, none, .op (.mov (.t 55))⟩]
def summary_Check.r22 : List AStep := [
  ⟨some 2, none, .op (.mov (.c (.i .i64 11)))⟩]
def summary_Check.r23 : List AStep := [
  ⟨some 2, none, .op (.mov (.c (.i .i64 0)))⟩]
def summary_Check : AFunc := ⟨56, [.t 2], .seq (.post [1] (.region summary_Check.r0)) (.seq (.seq (.post [1, 10] (.region summary_Check.r1)) (.post [1] (.cond (.t 10) (.seq (.post [2] (.region summary_Check.r2)) (.ret)) (.skip)))) (.seq (.seq (.post [1, 3] (.region summary_Check.r3)) (.seq (.post [1, 3, 15] (.region summary_Check.r4)) (.post [1] (.cond (.t 15) (.seq (.post [2] (.region summary_Check.r5)) (.ret)) (.skip))))) (.seq (.post [1, 4] (.region summary_Check.r6)) (.seq (.seq (.post [1, 4, 22, 23, 24] (.region summary_Check.r7)) (.post [1] (.block 0 (.loop summary_Check.l0)))) (.seq (.post [] (.block 3 (.seq (.post [1, 37] (.region summary_Check.r15)) (.post [] (.cond (.t 37) (.seq (.post [2] (.region summary_Check.r16)) (.ret)) (.seq (.post [1, 42] (.region summary_Check.r17)) (.post [] (.cond (.t 42) (.seq (.post [2] (.region summary_Check.r18)) (.ret)) (.seq (.post [1, 47] (.region summary_Check.r19)) (.post [] (.cond (.t 47) (.seq (.post [2] (.region summary_Check.r20)) (.ret)) (.seq (.post [52] (.region summary_Check.r21)) (.post [] (.cond (.t 52) (.seq (.post [2] (.region summary_Check.r22)) (.ret)) (.skip))))))))))))))) (.seq (.post [2] (.region summary_Check.r23)) (.ret)))))))⟩
theorem summary_Check.ok : okFunc Tryz.prog Tryz.f12 summary_Check = true := by kernel_rfl
theorem summary_Check.at : Tryz.prog.funcs[n_summary_Check]? = some Tryz.f12 := Tryz.func12
def symbols_Resolve_1.r0 : List AStep := [
  ⟨some 2, none, .op (.boxf (.t 0))⟩,
  ⟨some 3, none, .op (.mov (.c (.b false)))⟩]
def symbols_Resolve_1.r1 : List AStep := [
  ⟨some 4, none, .op (.fadr 0 (.t 2))⟩,
  ⟨some 5, none, .op (.load false 1 (.t 4))⟩,
  ⟨some 6, none, .op (.fadr 0 (.t 1))⟩,
  ⟨some 7, none, .op (.load false 1 (.t 6))⟩,
  ⟨some 8, none, .op (.bin .eql (.t 5) (.t 7))⟩,
  ⟨some 3, none, .op (.mov (.t 8))⟩]
def symbols_Resolve_1 : AFunc := ⟨9, [.t 3], .seq (.post [1, 2] (.region symbols_Resolve_1.r0)) (.seq (.post [3] (.region symbols_Resolve_1.r1)) (.ret))⟩
theorem symbols_Resolve_1.ok : okFunc Tryz.prog Tryz.f14 symbols_Resolve_1 = true := by kernel_rfl
theorem symbols_Resolve_1.at : Tryz.prog.funcs[n_symbols_Resolve_1]? = some Tryz.f14 := Tryz.func14
def slices_IndexFunc_api_Summary_api_Summary.r0 : List AStep := [
  ⟨some 4, none, .op (.mov (.c (.i .i64 0)))⟩]
def slices_IndexFunc_api_Summary_api_Summary.r1 : List AStep := [
  ⟨some 6, none, .op (.mov (.t 0))⟩,
  ⟨some 7, none, .op (.len false (.t 6))⟩,
  ⟨some 8, none, .op (.mov (.c (.i .i64 0)))⟩]
def slices_IndexFunc_api_Summary_api_Summary.r2 : List AStep := [
  ⟨some 9, none, .op (.bin .lss (.t 8) (.t 7))⟩]
def slices_IndexFunc_api_Summary_api_Summary.r3 : List AStep := [
  ⟨some 10, none, .op (.mov (.t 8))⟩,
  ⟨some 5, none, .op (.mov (.t 10))⟩]
def slices_IndexFunc_api_Summary_api_Summary.r4 : List AStep := [
  ⟨some 11, none, .op (.mov (.t 1))⟩,
  ⟨some 12, none, .op (.mov (.t 0))⟩,
  ⟨some 13, none, .op (.mov (.t 5))⟩,
  ⟨some 14, none, .op (.iad 7 (.t 12) (.t 13))⟩,
  ⟨some 15, none, .op (.load true 7 (.t 14))⟩,
  ⟨some 16, none, .callv (.t 11) [.t 15]⟩]
def slices_IndexFunc_api_Summary_api_Summary.r5 : List AStep := [
  ⟨some 17, none, .op (.mov (.t 5))⟩,
  ⟨some 4, none, .op (.mov (.t 17))⟩]
def slices_IndexFunc_api_Summary_api_Summary.r6 : List AStep := [
  ⟨some 18, none, .op (.bin .add (.t 8) (.c (.i .i64 1)))⟩,
  ⟨some 8, none, .op (.mov (.t 18))⟩]
def slices_IndexFunc_api_Summary_api_Summary.l0 : ACode := .seq (.post [0, 1, 7, 8, 9] (.region slices_IndexFunc_api_Summary_api_Summary.r2)) (.seq (.post [0, 1, 7, 8] (.cond (.t 9) (.skip) (.exit 0))) (.seq (.post [0, 1, 7, 8] (.block 1 (.seq (.post [0, 1, 5, 7, 8] (.region slices_IndexFunc_api_Summary_api_Summary.r3)) (.seq (.post [0, 1, 5, 7, 8, 16] (.region slices_IndexFunc_api_Summary_api_Summary.r4)) (.post [0, 1, 7, 8] (.cond (.t 16) (.seq (.post [4] (.region slices_IndexFunc_api_Summary_api_Summary.r5)) (.ret)) (.skip))))))) (.post [0, 1, 7, 8] (.region slices_IndexFunc_api_Summary_api_Summary.r6))))
def slices_IndexFunc_api_Summary_api_Summary.r7 : List AStep := [
  ⟨some 4, none, .op (.mov (.c (.i .i64 (-1))))⟩]
def slices_IndexFunc_api_Summary_api_Summary : AFunc := ⟨19, [.t 4], .seq (.post [0, 1] (.region slices_IndexFunc_api_Summary_api_Summary.r0)) (.seq (.seq (.post [0, 1, 7, 8] (.region slices_IndexFunc_api_Summary_api_Summary.r1)) (.post [] (.block 0 (.loop slices_IndexFunc_api_Summary_api_Summary.l0)))) (.seq (.post [4] (.region slices_IndexFunc_api_Summary_api_Summary.r7)) (.ret)))⟩
theorem slices_IndexFunc_api_Summary_api_Summary.at : Tryz.prog.funcs[n_slices_IndexFunc_api_Summary_api_Summary]? = some Tryz.f40 := Tryz.func40
def slices_ContainsFunc_api_Summary_api_Summary.r0 : List AStep := [
  ⟨some 4, none, .op (.mov (.c (.b false)))⟩]
def slices_ContainsFunc_api_Summary_api_Summary.r1 : List AStep := [
  ⟨some 5, none, .op (.mov (.t 0))⟩,
  ⟨some 6, none, .op (.mov (.t 1))⟩,
  ⟨some 7, none, .call n_slices_IndexFunc_api_Summary_api_Summary [.t 5, .t 6]⟩,
  ⟨some 8, none, .op (.bin .geq (.t 7) (.c (.i .i64 0)))⟩,
  ⟨some 4, none, .op (.mov (.t 8))⟩]
def slices_ContainsFunc_api_Summary_api_Summary : AFunc := ⟨9, [.t 4], .seq (.post [0, 1] (.region slices_ContainsFunc_api_Summary_api_Summary.r0)) (.seq (.post [4] (.region slices_ContainsFunc_api_Summary_api_Summary.r1)) (.ret))⟩
theorem slices_ContainsFunc_api_Summary_api_Summary.at : Tryz.prog.funcs[n_slices_ContainsFunc_api_Summary_api_Summary]? = some Tryz.f13 := Tryz.func13
def symbols_things.r0 : List AStep := [
  ⟨some 2, none, .op (.mov (.c (.mp none)))⟩]
def symbols_things.r1 : List AStep := [
  ⟨some 10, none, .op (.mkm)⟩,
  ⟨some 3, none, .op (.mov (.t 10))⟩]
def symbols_things.r2 : List AStep := [
  ⟨some 11, none, .op (.mov (.t 0))⟩,
  ⟨some 12, none, .op (.len false (.t 11))⟩,
  ⟨some 13, none, .op (.mov (.c (.i .i64 0)))⟩]
def symbols_things.r3 : List AStep := [
  ⟨some 14, none, .op (.bin .lss (.t 13) (.t 12))⟩]
def symbols_things.r4 : List AStep := [
  ⟨some 15, none, .op (.mov (.t 13))⟩,
  ⟨some 16, none, .op (.iad 7 (.t 11) (.t 13))⟩,
  ⟨some 17, none, .op (.load true 7 (.t 16))⟩,
  ⟨some 5, none, .op (.new [.s [], .sl none 0 0, .sl none 0 0, .sl none 0 0, .sl none 0 0, .sl none 0 0, .sl none 0 0])⟩,
  ⟨some 4, none, .op (.mov (.t 15))⟩,
  ⟨none, none, .op (.store 7 (.t 5) (.t 17))⟩]
def symbols_things.r5 : List AStep := [
  ⟨some 18, none, .op (.fadr 4 (.t 5))⟩,
  ⟨some 19, none, .op (.fadr 0 (.t 18))⟩,
  ⟨some 20, none, .op (.load false 1 (.t 19))⟩,
  ⟨some 21, none, .op (.len false (.t 20))⟩,
  ⟨some 22, none, .op (.mov (.c (.i .i64 0)))⟩]
def symbols_things.r6 : List AStep := [
  ⟨some 23, none, .op (.bin .lss (.t 22) (.t 21))⟩]
def symbols_things.r7 : List AStep := [
  ⟨some 24, none, .op (.iad 3 (.t 20) (.t 22))⟩,
  ⟨some 25, none, .op (.load true 3 (.t 24))⟩,
  ⟨some 7, none, .op (.new [.s [], .s [], .sl none 0 0])⟩,
  ⟨none, none, .op (.store 3 (.t 7) (.t 25))⟩]
def symbols_things.r8 : List AStep := [
  ⟨some 26, none, .op (.mov (.t 3))⟩,
  ⟨some 27, none, .op (.fadr 0 (.t 7))⟩,
  ⟨some 28, none, .op (.load false 1 (.t 27))⟩,
  ⟨some 29, none, .op (.mov (.t 3))⟩,
  ⟨some 30, none, .op (.fadr 0 (.t 7))⟩,
  ⟨some 31, none, .op (.load false 1 (.t 30))⟩,
  ⟨some 32, none, .op (.lkm false (.sl none 0 0) (.t 29) (.t 31))⟩,
  ⟨some 33, none, .op (.mov (.t 4))⟩,
  ⟨some 34, none, .op (.load true 3 (.t 7))⟩,
  ⟨some 35, none, .op (.bfz 1 3 [.s [], .s [], .sl none 0 0] [(0, 3, .t 34)])⟩,
  ⟨some 36, none, .op (.build [.fs [], .fs [], .fs []] [(0, 1, .t 35)])⟩,
  ⟨some 37, none, .op (.build [.i .i64 0, .fs [], .fs [], .fs []] [(0, 1, .t 33), (1, 3, .t 36)])⟩,
  ⟨some 38, none, .op (.bfz 1 4 [.i .i64 0, .sl none 0 0, .sl none 0 0, .sl none 0 0] [(0, 4, .t 37)])⟩,
  ⟨some 39, none, .op (.app 4 80 (.t 32) (.t 38))⟩,
  ⟨none, none, .op (.upm (.t 26) (.t 28) (.t 39))⟩]
def symbols_things.r9 : List AStep := [
  ⟨some 40, none, .op (.bin .add (.t 22) (.c (.i .i64 1)))⟩,
  ⟨some 22, none, .op (.mov (.t 40))⟩]
def symbols_things.l1 : ACode := .seq (.post [3, 4, 5, 11, 12, 13, 20, 21, 22, 23] (.region symbols_things.r6)) (.seq (.post [3, 4, 5, 11, 12, 13, 20, 21, 22] (.cond (.t 23) (.skip) (.exit 2))) (.seq (.post [3, 4, 5, 11, 12, 13, 20, 21, 22] (.block 3 (.seq (.post [3, 4, 5, 7, 11, 12, 13, 20, 21, 22] (.region symbols_things.r7)) (.post [3, 4, 5, 11, 12, 13, 20, 21, 22] (.draw [0, 0, 2, 0, 0, 16, 56, 0, 0, 256, 768, 1920, 3968, 8184, 16383] symbols_things.r8))))) (.post [3, 4, 5, 11, 12, 13, 20, 21, 22] (.region symbols_things.r9))))
def symbols_things.r10 : List AStep := [
  ⟨some 41, none, .op (.fadr 4 (.t 5))⟩,
  ⟨some 42, none, .op (.fadr 1 (.t 41))⟩,
  ⟨some 43, none, .op (.load false 1 (.t 42))⟩,
  ⟨some 44, none, .op (.len false (.t 43))⟩,
  ⟨some 45, none, .op (.mov (.c (.i .i64 0)))⟩]
def symbols_things.r11 : List AStep := [
  ⟨some 46, none, .op (.bin .lss (.t 45) (.t 44))⟩]
def symbols_things.r12 : List AStep := [
  ⟨some 47, none, .op (.iad 3 (.t 43) (.t 45))⟩,
  ⟨some 48, none, .op (.load true 3 (.t 47))⟩,
  ⟨some 9, none, .op (.new [.s [], .s [], .s []])⟩,
  ⟨none, none, .op (.store 3 (.t 9) (.t 48))⟩]
def symbols_things.r13 : List AStep := [
  ⟨some 49, none, .op (.mov (.t 3))⟩,
  ⟨some 50, none, .op (.fadr 0 (.t 9))⟩,
  ⟨some 51, none, .op (.load false 1 (.t 50))⟩,
  ⟨some 52, none, .op (.mov (.t 3))⟩,
  ⟨some 53, none, .op (.fadr 0 (.t 9))⟩,
  ⟨some 54, none, .op (.load false 1 (.t 53))⟩,
  ⟨some 55, none, .op (.lkm false (.sl none 0 0) (.t 52) (.t 54))⟩,
  ⟨some 56, none, .op (.mov (.t 4))⟩,
  ⟨some 57, none, .op (.load true 3 (.t 9))⟩,
  ⟨some 58, none, .op (.bfz 1 3 [.s [], .s [], .s []] [(0, 3, .t 57)])⟩,
  ⟨some 59, none, .op (.build [.fs [], .fs [], .fs []] [(1, 1, .t 58)])⟩,
  ⟨some 60, none, .op (.build [.i .i64 0, .fs [], .fs [], .fs []] [(0, 1, .t 56), (1, 3, .t 59)])⟩,
  ⟨some 61, none, .op (.bfz 1 4 [.i .i64 0, .sl none 0 0, .sl none 0 0, .sl none 0 0] [(0, 4, .t 60)])⟩,
  ⟨some 62, none, .op (.app 4 80 (.t 55) (.t 61))⟩,
  ⟨none, none, .op (.upm (.t 49) (.t 51) (.t 62))⟩]
def symbols_things.r14 : List AStep := [
  ⟨some 63, none, .op (.bin .add (.t 45) (.c (.i .i64 1)))⟩,
  ⟨some 45, none, .op (.mov (.t 63))⟩]
def symbols_things.l2 : ACode := .seq (.post [3, 4, 11, 12, 13, 43, 44, 45, 46] (.region symbols_things.r11)) (.seq (.post [3, 4, 11, 12, 13, 43, 44, 45] (.cond (.t 46) (.skip) (.exit 4))) (.seq (.post [3, 4, 11, 12, 13, 43, 44, 45] (.block 5 (.seq (.post [3, 4, 9, 11, 12, 13, 43, 44, 45] (.region symbols_things.r12)) (.post [3, 4, 11, 12, 13, 43, 44, 45] (.draw [0, 0, 2, 0, 0, 16, 56, 0, 0, 256, 768, 1920, 3968, 8184, 16383] symbols_things.r13))))) (.post [3, 4, 11, 12, 13, 43, 44, 45] (.region symbols_things.r14))))
def symbols_things.r15 : List AStep := [
  ⟨some 64, none, .op (.bin .add (.t 13) (.c (.i .i64 1)))⟩,
  ⟨some 13, none, .op (.mov (.t 64))⟩]
def symbols_things.l0 : ACode := .seq (.post [3, 11, 12, 13, 14] (.region symbols_things.r3)) (.seq (.post [3, 11, 12, 13] (.cond (.t 14) (.skip) (.exit 0))) (.seq (.post [3, 11, 12, 13] (.block 1 (.seq (.post [3, 4, 5, 11, 12, 13] (.region symbols_things.r4)) (.seq (.seq (.post [3, 4, 5, 11, 12, 13, 20, 21, 22] (.region symbols_things.r5)) (.post [3, 4, 5, 11, 12, 13] (.block 2 (.loop symbols_things.l1)))) (.seq (.post [3, 4, 11, 12, 13, 43, 44, 45] (.region symbols_things.r10)) (.post [3, 11, 12, 13] (.block 4 (.loop symbols_things.l2)))))))) (.post [3, 11, 12, 13] (.region symbols_things.r15))))
def symbols_things.r16 : List AStep := [
  ⟨some 65, none, .op (.mov (.t 3))⟩,
  ⟨some 2, none, .op (.mov (.t 65))⟩]
def symbols_things : AFunc := ⟨66, [.t 2], .seq (.post [0] (.region symbols_things.r0)) (.seq (.post [0, 3] (.region symbols_things.r1)) (.seq (.seq (.post [3, 11, 12, 13] (.region symbols_things.r2)) (.post [3] (.block 0 (.loop symbols_things.l0)))) (.seq (.post [2] (.region symbols_things.r16)) (.ret))))⟩
theorem symbols_things.ok : okFunc Tryz.prog Tryz.f15 symbols_things = true := by kernel_rfl
theorem symbols_things.at : Tryz.prog.funcs[n_symbols_things]? = some Tryz.f15 := Tryz.func15
def intern_Table_string_place_1.r0 : List AStep := [
  ⟨some 5, none, .op (.mov (.c (.i .i64 0)))⟩]
def intern_Table_string_place_1.r1 : List AStep := [
  ⟨some 6, none, .op (.load false 1 (.t 2))⟩,
  ⟨some 7, none, .op (.nilc (.t 6))⟩,
  ⟨some 8, none, .op (.fadr 0 (.t 7))⟩,
  ⟨some 9, none, .op (.load false 1 (.t 8))⟩,
  ⟨some 10, none, .op (.mov (.t 0))⟩,
  ⟨some 11, none, .op (.iad 1 (.t 9) (.t 10))⟩,
  ⟨some 12, none, .op (.load false 1 (.t 11))⟩,
  ⟨some 13, none, .op (.mov (.t 1))⟩,
  ⟨some 14, none, .call n_cmp_Compare_string [.t 12, .t 13]⟩,
  ⟨some 5, none, .op (.mov (.t 14))⟩]
def intern_Table_string_place_1 : AFunc := ⟨15, [.t 5], .seq (.post [0, 1, 2] (.region intern_Table_string_place_1.r0)) (.seq (.post [5] (.region intern_Table_string_place_1.r1)) (.ret))⟩
theorem intern_Table_string_place_1.ok : okFunc Tryz.prog Tryz.f146 intern_Table_string_place_1 = true := by kernel_rfl
theorem intern_Table_string_place_1.at : Tryz.prog.funcs[n_intern_Table_string_place_1]? = some Tryz.f146 := Tryz.func146
def slices_BinarySearchFunc_int_int_string.r0 : List AStep := [
  ⟨some 6, none, .op (.mov (.c (.i .i64 0)))⟩,
  ⟨some 7, none, .op (.mov (.c (.b false)))⟩]
def slices_BinarySearchFunc_int_int_string.r1 : List AStep := [
  ⟨some 12, none, .op (.mov (.t 0))⟩,
  ⟨some 13, none, .op (.len false (.t 12))⟩,
  ⟨some 8, none, .op (.mov (.t 13))⟩]
def slices_BinarySearchFunc_int_int_string.r2 : List AStep := [
  ⟨some 14, none, .op (.mov (.t 8))⟩,
  ⟨some 9, none, .op (.mov (.c (.i .i64 0)))⟩,
  ⟨some 10, none, .op (.mov (.t 14))⟩]
def slices_BinarySearchFunc_int_int_string.r3 : List AStep := [
  ⟨some 15, none, .op (.mov (.t 9))⟩,
  ⟨some 16, none, .op (.mov (.t 10))⟩,
  ⟨some 17, none, .op (.bin .lss (.t 15) (.t 16))⟩]
def slices_BinarySearchFunc_int_int_string.r4 : List AStep := [
  ⟨some 18, none, .op (.mov (.t 9))⟩,
  ⟨some 19, none, .op (.mov (.t 10))⟩,
  ⟨some 20, none, .op (.bin .add (.t 18) (.t 19))⟩,
  ⟨some 21, none, .op (.conv .u64 (.t 20))⟩,
  ⟨some 22, none, .op (.bin .shr (.t 21) (.c (.i .u64 1)))⟩,
  ⟨some 23, none, .op (.conv .i64 (.t 22))⟩,
  ⟨some 11, none, .op (.mov (.t 23))⟩]
def slices_BinarySearchFunc_int_int_string.r5 : List AStep := [
  ⟨some 24, none, .op (.mov (.t 2))⟩,
  ⟨some 25, none, .op (.mov (.t 0))⟩,
  ⟨some 26, none, .op (.mov (.t 11))⟩,
  ⟨some 27, none, .op (.iad 1 (.t 25) (.t 26))⟩,
  ⟨some 28, none, .op (.load false 1 (.t 27))⟩,
  ⟨some 29, none, .op (.mov (.t 1))⟩,
  ⟨some 30, none, .callv (.t 24) [.t 28, .t 29]⟩,
  ⟨some 31, none, .op (.bin .lss (.t 30) (.c (.i .i64 0)))⟩]
def slices_BinarySearchFunc_int_int_string.r6 : List AStep := [
  ⟨some 32, none, .op (.mov (.t 11))⟩,
  ⟨some 33, none, .op (.bin .add (.t 32) (.c (.i .i64 1)))⟩,
  ⟨some 9, none, .op (.mov (.t 33))⟩]
def slices_BinarySearchFunc_int_int_string.r7 : List AStep := [
  ⟨some 34, none, .op (.mov (.t 11))⟩,
  ⟨some 10, none, .op (.mov (.t 34))⟩]
def slices_BinarySearchFunc_int_int_string.l0 : ACode := .seq (.seq (.post [0, 1, 2, 8, 9, 10, 17] (.region slices_BinarySearchFunc_int_int_string.r3)) (.post [0, 1, 2, 8, 9, 10] (.cond (.t 17) (.skip) (.exit 0)))) (.post [0, 1, 2, 8, 9, 10] (.block 1 (.seq (.post [0, 1, 2, 8, 9, 10, 11] (.region slices_BinarySearchFunc_int_int_string.r4)) (.seq (.post [0, 1, 2, 8, 9, 10, 11, 31] (.region slices_BinarySearchFunc_int_int_string.r5)) (.post [0, 1, 2, 8, 9, 10] (.cond (.t 31) (.post [0, 1, 2, 8, 9, 10] (.region slices_BinarySearchFunc_int_int_string.r6)) (.post [0, 1, 2, 8, 9, 10] (.region slices_BinarySearchFunc_int_int_string.r7))))))))
def slices_BinarySearchFunc_int_int_string.r8 : List AStep := [
  ⟨some 35, none, .op (.mov (.t 9))⟩,
  ⟨some 36, none, .op (.mov (.t 9))⟩,
  ⟨some 37, none, .op (.mov (.t 8))⟩,
  ⟨some 38, none, .op (.bin .lss (.t 36) (.t 37))⟩,
  ⟨some 39, none, .op (.mov (.t 38))⟩,
  ⟨some 40, (some (39, true)), .op (.mov (.t 2))⟩,
  ⟨some 41, (some (39, true)), .op (.mov (.t 0))⟩,
  ⟨some 42, (some (39, true)), .op (.mov (.t 9))⟩,
  ⟨some 43, (some (39, true)), .op (.iad 1 (.t 41) (.t 42))⟩,
  ⟨some 44, (some (39, true)), .op (.load false 1 (.t 43))⟩,
  ⟨some 45, (some (39, true)), .op (.mov (.t 1))⟩,
  ⟨some 46, (some (39, true)), .callv (.t 40) [.t 44, .t 45]⟩,
  ⟨some 47, (some (39, true)), .op (.bin .eql (.t 46) (.c (.i .i64 0)))⟩,
  ⟨some 48, none, .op (.pick (.t 39) (.t 47) (.c (.b false)))⟩,
  ⟨some 6, none, .op (.mov (.t 35))⟩,
  ⟨some 7, none, .op (.mov (.t 48))⟩]
def slices_BinarySearchFunc_int_int_string : AFunc := ⟨49, [.t 6, .t 7], .seq (.post [0, 1, 2] (.region slices_BinarySearchFunc_int_int_string.r0)) (.seq (.post [0, 1, 2, 8] (.region slices_BinarySearchFunc_int_int_string.r1)) (.seq (.post [0, 1, 2, 8, 9, 10] (.region slices_BinarySearchFunc_int_int_string.r2)) (.seq (.post [0, 1, 2, 8, 9] (.block 0 (.loop slices_BinarySearchFunc_int_int_string.l0))) (.seq (.post [6, 7] (.region slices_BinarySearchFunc_int_int_string.r8)) (.ret)))))⟩
theorem slices_BinarySearchFunc_int_int_string.ok : okFunc Tryz.prog Tryz.f145 slices_BinarySearchFunc_int_int_string = true := by kernel_rfl
theorem slices_BinarySearchFunc_int_int_string.at : Tryz.prog.funcs[n_slices_BinarySearchFunc_int_int_string]? = some Tryz.f145 := Tryz.func145
def intern_Table_string_place.r0 : List AStep := [
  ⟨some 2, none, .op (.box (.t 0))⟩,
  ⟨some 4, none, .op (.mov (.c (.i .i64 0)))⟩,
  ⟨some 5, none, .op (.mov (.c (.b false)))⟩]
def intern_Table_string_place.r1 : List AStep := [
  ⟨some 6, none, .op (.load false 1 (.t 2))⟩,
  ⟨some 7, none, .op (.nilc (.t 6))⟩,
  ⟨some 8, none, .op (.fadr 1 (.t 7))⟩,
  ⟨some 9, none, .op (.load false 1 (.t 8))⟩,
  ⟨some 10, none, .op (.mov (.t 1))⟩,
  ⟨some 11, none, .op (.mkfn n_intern_Table_string_place_1 [.t 2])⟩,
  ⟨some 12, none, .call n_slices_BinarySearchFunc_int_int_string [.t 9, .t 10, .t 11]⟩,
  ⟨some 13, none, .op (.ext 0 (.t 12))⟩,
  ⟨some 14, none, .op (.ext 1 (.t 12))⟩,
  ⟨some 4, none, .op (.mov (.t 13))⟩,
  ⟨some 5, none, .op (.mov (.t 14))⟩]
def intern_Table_string_place : AFunc := ⟨15, [.t 4, .t 5], .seq (.post [1, 2] (.region intern_Table_string_place.r0)) (.seq (.post [4, 5] (.region intern_Table_string_place.r1)) (.ret))⟩
theorem intern_Table_string_place.ok : okFunc Tryz.prog Tryz.f116 intern_Table_string_place = true := by kernel_rfl
theorem intern_Table_string_place.at : Tryz.prog.funcs[n_intern_Table_string_place]? = some Tryz.f116 := Tryz.func116
def intern_Table_string_Put.r0 : List AStep := [
  ⟨some 4, none, .op (.mov (.c (.i .i64 0)))⟩,
  ⟨some 5, none, .op (.mov (.c (.b false)))⟩]
def intern_Table_string_Put.r1 : List AStep := [
  ⟨some 10, none, .op (.mov (.t 0))⟩,
  ⟨some 11, none, .op (.mov (.t 1))⟩,
  ⟨some 12, none, .call n_intern_Table_string_place [.t 10, .t 11]⟩,
  ⟨some 9, none, .op (.mov (.t 12))⟩,
  ⟨some 13, none, .op (.ext 0 (.t 9))⟩,
  ⟨some 14, none, .op (.ext 1 (.t 9))⟩,
  ⟨some 6, none, .op (.mov (.t 13))⟩,
  ⟨some 7, none, .op (.mov (.t 14))⟩]
def intern_Table_string_Put.r2 : List AStep := [
  ⟨some 15, none, .op (.mov (.t 7))⟩]
def intern_Table_string_Put.r3 : List AStep := [
  ⟨some 16, none, .op (.mov (.t 0))⟩,
  ⟨some 17, none, .op (.nilc (.t 16))⟩,
  ⟨some 18, none, .op (.fadr 1 (.t 17))⟩,
  ⟨some 19, none, .op (.load false 1 (.t 18))⟩,
  ⟨some 20, none, .op (.mov (.t 6))⟩,
  ⟨some 21, none, .op (.iad 1 (.t 19) (.t 20))⟩,
  ⟨some 22, none, .op (.load false 1 (.t 21))⟩,
  ⟨some 4, none, .op (.mov (.t 22))⟩,
  ⟨some 5, none, .op (.mov (.c (.b false)))⟩]
def intern_Table_string_Put.r4 : List AStep := [
  ⟨some 23, none, .op (.mov (.t 0))⟩,
  ⟨some 24, none, .op (.nilc (.t 23))⟩,
  ⟨some 25, none, .op (.fadr 0 (.t 24))⟩,
  ⟨some 26, none, .op (.load false 1 (.t 25))⟩,
  ⟨some 27, none, .op (.len false (.t 26))⟩,
  ⟨some 8, none, .op (.mov (.t 27))⟩]
def intern_Table_string_Put.r5 : List AStep := [
  ⟨some 28, none, .op (.mov (.t 0))⟩,
  ⟨some 29, none, .op (.mov (.t 0))⟩,
  ⟨some 30, none, .op (.nilc (.t 29))⟩,
  ⟨some 31, none, .op (.fadr 0 (.t 30))⟩,
  ⟨some 32, none, .op (.load false 1 (.t 31))⟩,
  ⟨some 33, none, .op (.mov (.t 1))⟩,
  ⟨some 34, none, .op (.bfz 1 1 [.s []] [(0, 1, .t 33)])⟩,
  ⟨some 35, none, .op (.app 1 16 (.t 32) (.t 34))⟩,
  ⟨some 36, none, .op (.nilc (.t 28))⟩,
  ⟨some 37, none, .op (.fadr 0 (.t 36))⟩,
  ⟨none, none, .op (.store 1 (.t 37) (.t 35))⟩]
def intern_Table_string_Put.r6 : List AStep := [
  ⟨some 38, none, .op (.mov (.t 0))⟩,
  ⟨some 39, none, .op (.mov (.t 0))⟩,
  ⟨some 40, none, .op (.nilc (.t 39))⟩,
  ⟨some 41, none, .op (.fadr 1 (.t 40))⟩,
  ⟨some 42, none, .op (.load false 1 (.t 41))⟩,
  ⟨some 43, none, .op (.mov (.t 6))⟩,
  ⟨some 44, none, .op (.mov (.t 8))⟩,
  ⟨some 45, none, .op (.bsl 1 [.i .i64 0] [(0, 1, .t 44)])⟩,
  ⟨some 46, none, .call n_slices_Insert_int_int [.t 42, .t 43, .t 45]⟩,
  ⟨some 47, none, .op (.nilc (.t 38))⟩,
  ⟨some 48, none, .op (.fadr 1 (.t 47))⟩,
  ⟨none, none, .op (.store 1 (.t 48) (.t 46))⟩]
def intern_Table_string_Put.r7 : List AStep := [
  ⟨some 49, none, .op (.mov (.t 8))⟩,
  ⟨some 4, none, .op (.mov (.t 49))⟩,
  ⟨some 5, none, .op (.mov (.c (.b true)))⟩]
def intern_Table_string_Put : AFunc := ⟨50, [.t 4, .t 5], .seq (.post [0, 1] (.region intern_Table_string_Put.r0)) (.seq (.post [0, 1, 6, 7] (.region intern_Table_string_Put.r1)) (.seq (.seq (.post [0, 1, 6, 15] (.region intern_Table_string_Put.r2)) (.post [0, 1, 6] (.cond (.t 15) (.seq (.post [4, 5] (.region intern_Table_string_Put.r3)) (.ret)) (.skip)))) (.seq (.post [0, 1, 6, 8] (.region intern_Table_string_Put.r4)) (.seq (.post [0, 6, 8] (.region intern_Table_string_Put.r5)) (.seq (.post [8] (.region intern_Table_string_Put.r6)) (.seq (.post [4, 5] (.region intern_Table_string_Put.r7)) (.ret)))))))⟩
theorem intern_Table_string_Put.ok : okFunc Tryz.prog Tryz.f82 intern_Table_string_Put = true := by kernel_rfl
theorem intern_Table_string_Put.at : Tryz.prog.funcs[n_intern_Table_string_Put]? = some Tryz.f82 := Tryz.func82
def intern_Table_string_Rising_1.r0 : List AStep := [
  ⟨some 5, none, .op (.load false 1 (.t 1))⟩,
  ⟨some 6, none, .op (.nilc (.t 5))⟩,
  ⟨some 7, none, .op (.fadr 1 (.t 6))⟩,
  ⟨some 8, none, .op (.load false 1 (.t 7))⟩,
  ⟨some 9, none, .call n_slices_Clone_int_int [.t 8]⟩,
  ⟨some 10, none, .op (.len false (.t 9))⟩,
  ⟨some 11, none, .op (.mov (.c (.i .i64 0)))⟩]
def intern_Table_string_Rising_1.r1 : List AStep := [
  ⟨some 12, none, .op (.bin .lss (.t 11) (.t 10))⟩]
def intern_Table_string_Rising_1.r2 : List AStep := [
  ⟨some 13, none, .op (.iad 1 (.t 9) (.t 11))⟩,
  ⟨some 14, none, .op (.load false 1 (.t 13))⟩,
  ⟨some 4, none, .op (.mov (.t 14))⟩]
def intern_Table_string_Rising_1.r3 : List AStep := [
  ⟨some 15, none, .op (.mov (.t 0))⟩,
  ⟨some 16, none, .op (.load false 1 (.t 1))⟩,
  ⟨some 17, none, .op (.nilc (.t 16))⟩,
  ⟨some 18, none, .op (.fadr 0 (.t 17))⟩,
  ⟨some 19, none, .op (.load false 1 (.t 18))⟩,
  ⟨some 20, none, .op (.mov (.t 4))⟩,
  ⟨some 21, none, .op (.iad 1 (.t 19) (.t 20))⟩,
  ⟨some 22, none, .op (.load false 1 (.t 21))⟩,
  ⟨some 23, none, .op (.mov (.t 4))⟩,
  ⟨some 24, none, .callv (.t 15) [.t 22, .t 23]⟩,
  ⟨some 25, none, .op (.un .not (.t 24))⟩]
def intern_Table_string_Rising_1.r4 : List AStep := [
  ⟨some 26, none, .op (.bin .add (.t 11) (.c (.i .i64 1)))⟩,
  ⟨some 11, none, .op (.mov (.t 26))⟩]
def intern_Table_string_Rising_1.l0 : ACode := .seq (.post [0, 1, 9, 10, 11, 12] (.region intern_Table_string_Rising_1.r1)) (.seq (.post [0, 1, 9, 10, 11] (.cond (.t 12) (.skip) (.exit 0))) (.seq (.post [0, 1, 9, 10, 11] (.block 1 (.seq (.post [0, 1, 4, 9, 10, 11] (.region intern_Table_string_Rising_1.r2)) (.seq (.post [0, 1, 9, 10, 11, 25] (.region intern_Table_string_Rising_1.r3)) (.post [0, 1, 9, 10, 11] (.cond (.t 25) (.ret) (.skip))))))) (.post [0, 1, 9, 10, 11] (.region intern_Table_string_Rising_1.r4))))
def intern_Table_string_Rising_1 : AFunc := ⟨27, [], .seq (.post [0, 1, 9, 10, 11] (.region intern_Table_string_Rising_1.r0)) (.post [] (.block 0 (.loop intern_Table_string_Rising_1.l0)))⟩
theorem intern_Table_string_Rising_1.ok : okFunc Tryz.prog Tryz.f118 intern_Table_string_Rising_1 = true := by kernel_rfl
theorem intern_Table_string_Rising_1.at : Tryz.prog.funcs[n_intern_Table_string_Rising_1]? = some Tryz.f118 := Tryz.func118
def intern_Table_string_Rising.r0 : List AStep := [
  ⟨some 1, none, .op (.box (.t 0))⟩,
  ⟨some 2, none, .op (.mov (.c (.nf)))⟩]
def intern_Table_string_Rising.r1 : List AStep := [
  ⟨some 3, none, .op (.mkfn n_intern_Table_string_Rising_1 [.t 1])⟩,
  ⟨some 2, none, .op (.mov (.t 3))⟩]
def intern_Table_string_Rising : AFunc := ⟨4, [.t 2], .seq (.post [1] (.region intern_Table_string_Rising.r0)) (.seq (.post [2] (.region intern_Table_string_Rising.r1)) (.ret))⟩
theorem intern_Table_string_Rising.ok : okFunc Tryz.prog Tryz.f83 intern_Table_string_Rising = true := by kernel_rfl
theorem intern_Table_string_Rising.at : Tryz.prog.funcs[n_intern_Table_string_Rising]? = some Tryz.f83 := Tryz.func83
def intern_Sorted_string.r0 : List AStep := [
  ⟨some 2, none, .op (.mov (.c (.sl none 0 0)))⟩]
def intern_Sorted_string.r1 : List AStep := [
  ⟨some 8, none, .op (.build [.sl none 0 0, .sl none 0 0] [])⟩,
  ⟨some 9, none, .op (.box (.t 8))⟩,
  ⟨some 3, none, .op (.mov (.t 9))⟩]
def intern_Sorted_string.r2 : List AStep := [
  ⟨some 10, none, .op (.mov (.t 0))⟩,
  ⟨some 11, none, .op (.len false (.t 10))⟩,
  ⟨some 12, none, .op (.mov (.c (.i .i64 0)))⟩]
def intern_Sorted_string.r3 : List AStep := [
  ⟨some 13, none, .op (.bin .lss (.t 12) (.t 11))⟩]
def intern_Sorted_string.r4 : List AStep := [
  ⟨some 14, none, .op (.iad 1 (.t 10) (.t 12))⟩,
  ⟨some 15, none, .op (.load false 1 (.t 14))⟩,
  ⟨some 5, none, .op (.mov (.t 15))⟩]
def intern_Sorted_string.r5 : List AStep := [
  ⟨some 16, none, .op (.mov (.t 3))⟩,
  ⟨some 17, none, .op (.mov (.t 5))⟩,
  ⟨some 18, none, .call n_intern_Table_string_Put [.t 16, .t 17]⟩]
def intern_Sorted_string.r6 : List AStep := [
  ⟨some 19, none, .op (.bin .add (.t 12) (.c (.i .i64 1)))⟩,
  ⟨some 12, none, .op (.mov (.t 19))⟩]
def intern_Sorted_string.l0 : ACode := .seq (.post [2, 3, 10, 11, 12, 13] (.region intern_Sorted_string.r3)) (.seq (.post [2, 3, 10, 11, 12] (.cond (.t 13) (.skip) (.exit 0))) (.seq (.post [2, 3, 10, 11, 12] (.block 1 (.seq (.post [2, 3, 5, 10, 11, 12] (.region intern_Sorted_string.r4)) (.post [2, 3, 10, 11, 12] (.region intern_Sorted_string.r5))))) (.post [2, 3, 10, 11, 12] (.region intern_Sorted_string.r6))))
def intern_Sorted_string.r7 : List AStep := [
  ⟨some 6, none, .op (.new [.sl none 0 0])⟩]
def intern_Sorted_string.r8 : List AStep := [
  ⟨some 20, none, .op (.mov (.t 3))⟩,
  ⟨some 21, none, .call n_intern_Table_string_Rising [.t 20]⟩]
def intern_Sorted_string.r9 : List AStep := [
  ⟨some 7, none, .op (.mov (.t 22))⟩]
def intern_Sorted_string.r10 : List AStep := [
  ⟨some 24, none, .op (.load false 1 (.t 6))⟩,
  ⟨some 25, none, .op (.mov (.t 7))⟩,
  ⟨some 26, none, .op (.bfz 1 1 [.s []] [(0, 1, .t 25)])⟩,
  ⟨some 27, none, .op (.app 1 16 (.t 24) (.t 26))⟩,
  ⟨none, none, .op (.store 1 (.t 6) (.t 27))⟩]
def intern_Sorted_string.a1 : ACode := .post [6, 7] (.region intern_Sorted_string.r9)
def intern_Sorted_string.b1 : ACode := .post [] (.block 3 (.post [] (.region intern_Sorted_string.r10)))
def intern_Sorted_string.r11 : List AStep := [
  ⟨some 28, none, .op (.load false 1 (.t 6))⟩,
  ⟨some 2, none, .op (.mov (.t 28))⟩]
def intern_Sorted_string : AFunc := ⟨29, [.t 2], .seq (.post [0, 2] (.region intern_Sorted_string.r0)) (.seq (.post [0, 2, 3] (.region intern_Sorted_string.r1)) (.seq (.seq (.post [2, 3, 10, 11, 12] (.region intern_Sorted_string.r2)) (.post [2, 3] (.block 0 (.loop intern_Sorted_string.l0)))) (.seq (.post [2, 3, 6] (.region intern_Sorted_string.r7)) (.seq (.seq (.post [2, 6, 21] (.region intern_Sorted_string.r8)) (.post [6] (.block 2 (.post [6] (.rangeFunc (.t 21) [22, 23] intern_Sorted_string.a1 intern_Sorted_string.b1))))) (.seq (.post [2] (.region intern_Sorted_string.r11)) (.ret))))))⟩
theorem intern_Sorted_string.ok : okFunc Tryz.prog Tryz.f43 intern_Sorted_string = true := by kernel_rfl
theorem intern_Sorted_string.at : Tryz.prog.funcs[n_intern_Sorted_string]? = some Tryz.f43 := Tryz.func43
def slices_EqualFunc_api_Obj_api_Obj_api_Obj_api_Obj.r0 : List AStep := [
  ⟨some 6, none, .op (.mov (.c (.b false)))⟩]
def slices_EqualFunc_api_Obj_api_Obj_api_Obj_api_Obj.r1 : List AStep := [
  ⟨some 10, none, .op (.mov (.t 0))⟩,
  ⟨some 11, none, .op (.len false (.t 10))⟩,
  ⟨some 12, none, .op (.mov (.t 1))⟩,
  ⟨some 13, none, .op (.len false (.t 12))⟩,
  ⟨some 14, none, .op (.bin .neq (.t 11) (.t 13))⟩]
def slices_EqualFunc_api_Obj_api_Obj_api_Obj_api_Obj.r2 : List AStep := [
  ⟨some 6, none, .op (.mov (.c (.b false)))⟩]
def slices_EqualFunc_api_Obj_api_Obj_api_Obj_api_Obj.r3 : List AStep := [
  ⟨some 15, none, .op (.mov (.t 0))⟩,
  ⟨some 16, none, .op (.len false (.t 15))⟩,
  ⟨some 17, none, .op (.mov (.c (.i .i64 0)))⟩]
def slices_EqualFunc_api_Obj_api_Obj_api_Obj_api_Obj.r4 : List AStep := [
  ⟨some 18, none, .op (.bin .lss (.t 17) (.t 16))⟩]
def slices_EqualFunc_api_Obj_api_Obj_api_Obj_api_Obj.r5 : List AStep := [
  ⟨some 19, none, .op (.mov (.t 17))⟩,
  ⟨some 20, none, .op (.iad 3 (.t 15) (.t 17))⟩,
  ⟨some 21, none, .op (.load true 3 (.t 20))⟩,
  ⟨some 8, none, .op (.new [.s [], .s [], .sl none 0 0])⟩,
  ⟨some 7, none, .op (.mov (.t 19))⟩,
  ⟨none, none, .op (.store 3 (.t 8) (.t 21))⟩]
def slices_EqualFunc_api_Obj_api_Obj_api_Obj_api_Obj.r6 : List AStep := [
  ⟨some 22, none, .op (.mov (.t 1))⟩,
  ⟨some 23, none, .op (.mov (.t 7))⟩,
  ⟨some 24, none, .op (.iad 3 (.t 22) (.t 23))⟩,
  ⟨some 25, none, .op (.load true 3 (.t 24))⟩,
  ⟨some 9, none, .op (.new [.s [], .s [], .sl none 0 0])⟩,
  ⟨none, none, .op (.store 3 (.t 9) (.t 25))⟩]
def slices_EqualFunc_api_Obj_api_Obj_api_Obj_api_Obj.r7 : List AStep := [
  ⟨some 26, none, .op (.mov (.t 2))⟩,
  ⟨some 27, none, .op (.load true 3 (.t 8))⟩,
  ⟨some 28, none, .op (.load true 3 (.t 9))⟩,
  ⟨some 29, none, .callv (.t 26) [.t 27, .t 28]⟩,
  ⟨some 30, none, .op (.un .not (.t 29))⟩]
def slices_EqualFunc_api_Obj_api_Obj_api_Obj_api_Obj.r8 : List AStep := [
  ⟨some 6, none, .op (.mov (.c (.b false)))⟩]
def slices_EqualFunc_api_Obj_api_Obj_api_Obj_api_Obj.r9 : List AStep := [
  ⟨some 31, none, .op (.bin .add (.t 17) (.c (.i .i64 1)))⟩,
  ⟨some 17, none, .op (.mov (.t 31))⟩]
def slices_EqualFunc_api_Obj_api_Obj_api_Obj_api_Obj.l0 : ACode := .seq (.post [1, 2, 15, 16, 17, 18] (.region slices_EqualFunc_api_Obj_api_Obj_api_Obj_api_Obj.r4)) (.seq (.post [1, 2, 15, 16, 17] (.cond (.t 18) (.skip) (.exit 0))) (.seq (.post [1, 2, 15, 16, 17] (.block 1 (.seq (.post [1, 2, 7, 8, 15, 16, 17] (.region slices_EqualFunc_api_Obj_api_Obj_api_Obj_api_Obj.r5)) (.seq (.post [1, 2, 8, 9, 15, 16, 17] (.region slices_EqualFunc_api_Obj_api_Obj_api_Obj_api_Obj.r6)) (.seq (.post [1, 2, 15, 16, 17, 30] (.region slices_EqualFunc_api_Obj_api_Obj_api_Obj_api_Obj.r7)) (.post [1, 2, 15, 16, 17] (.cond (.t 30) (.seq (.post [6] (.region slices_EqualFunc_api_Obj_api_Obj_api_Obj_api_Obj.r8)) (.ret)) (.skip)))))))) (.post [1, 2, 15, 16, 17] (.region slices_EqualFunc_api_Obj_api_Obj_api_Obj_api_Obj.r9))))
def slices_EqualFunc_api_Obj_api_Obj_api_Obj_api_Obj.r10 : List AStep := [
  ⟨some 6, none, .op (.mov (.c (.b true)))⟩]
def slices_EqualFunc_api_Obj_api_Obj_api_Obj_api_Obj : AFunc := ⟨32, [.t 6], .seq (.post [0, 1, 2] (.region slices_EqualFunc_api_Obj_api_Obj_api_Obj_api_Obj.r0)) (.seq (.seq (.post [0, 1, 2, 14] (.region slices_EqualFunc_api_Obj_api_Obj_api_Obj_api_Obj.r1)) (.post [0, 1, 2] (.cond (.t 14) (.seq (.post [6] (.region slices_EqualFunc_api_Obj_api_Obj_api_Obj_api_Obj.r2)) (.ret)) (.skip)))) (.seq (.seq (.post [1, 2, 15, 16, 17] (.region slices_EqualFunc_api_Obj_api_Obj_api_Obj_api_Obj.r3)) (.post [] (.block 0 (.loop slices_EqualFunc_api_Obj_api_Obj_api_Obj_api_Obj.l0)))) (.seq (.post [6] (.region slices_EqualFunc_api_Obj_api_Obj_api_Obj_api_Obj.r10)) (.ret))))⟩
theorem slices_EqualFunc_api_Obj_api_Obj_api_Obj_api_Obj.at : Tryz.prog.funcs[n_slices_EqualFunc_api_Obj_api_Obj_api_Obj_api_Obj]? = some Tryz.f85 := Tryz.func85
def slices_Equal_api_Mark_api_Mark.r0 : List AStep := [
  ⟨some 4, none, .op (.mov (.c (.b false)))⟩]
def slices_Equal_api_Mark_api_Mark.r1 : List AStep := [
  ⟨some 6, none, .op (.mov (.t 0))⟩,
  ⟨some 7, none, .op (.len false (.t 6))⟩,
  ⟨some 8, none, .op (.mov (.t 1))⟩,
  ⟨some 9, none, .op (.len false (.t 8))⟩,
  ⟨some 10, none, .op (.bin .neq (.t 7) (.t 9))⟩]
def slices_Equal_api_Mark_api_Mark.r2 : List AStep := [
  ⟨some 4, none, .op (.mov (.c (.b false)))⟩]
def slices_Equal_api_Mark_api_Mark.r3 : List AStep := [
  ⟨some 11, none, .op (.mov (.t 0))⟩,
  ⟨some 12, none, .op (.len false (.t 11))⟩,
  ⟨some 13, none, .op (.mov (.c (.i .i64 0)))⟩]
def slices_Equal_api_Mark_api_Mark.r4 : List AStep := [
  ⟨some 14, none, .op (.bin .lss (.t 13) (.t 12))⟩]
def slices_Equal_api_Mark_api_Mark.r5 : List AStep := [
  ⟨some 15, none, .op (.mov (.t 13))⟩,
  ⟨some 5, none, .op (.mov (.t 15))⟩]
def slices_Equal_api_Mark_api_Mark.r6 : List AStep := [
  ⟨some 16, none, .op (.mov (.t 0))⟩,
  ⟨some 17, none, .op (.mov (.t 5))⟩,
  ⟨some 18, none, .op (.iad 2 (.t 16) (.t 17))⟩,
  ⟨some 19, none, .op (.load true 2 (.t 18))⟩,
  ⟨some 20, none, .op (.mov (.t 1))⟩,
  ⟨some 21, none, .op (.mov (.t 5))⟩,
  ⟨some 22, none, .op (.iad 2 (.t 20) (.t 21))⟩,
  ⟨some 23, none, .op (.load true 2 (.t 22))⟩,
  ⟨some 24, none, .op (.eqa true [0, 1] (.t 19) (.t 23))⟩]
def slices_Equal_api_Mark_api_Mark.r7 : List AStep := [
  ⟨some 4, none, .op (.mov (.c (.b false)))⟩]
def slices_Equal_api_Mark_api_Mark.r8 : List AStep := [
  ⟨some 25, none, .op (.bin .add (.t 13) (.c (.i .i64 1)))⟩,
  ⟨some 13, none, .op (.mov (.t 25))⟩]
def slices_Equal_api_Mark_api_Mark.l0 : ACode := .seq (.post [0, 1, 12, 13, 14] (.region slices_Equal_api_Mark_api_Mark.r4)) (.seq (.post [0, 1, 12, 13] (.cond (.t 14) (.skip) (.exit 0))) (.seq (.post [0, 1, 12, 13] (.block 1 (.seq (.post [0, 1, 5, 12, 13] (.region slices_Equal_api_Mark_api_Mark.r5)) (.seq (.post [0, 1, 12, 13, 24] (.draw [0, 0, 3, 7, 0, 0, 48, 112, 255] slices_Equal_api_Mark_api_Mark.r6)) (.post [0, 1, 12, 13] (.cond (.t 24) (.seq (.post [4] (.region slices_Equal_api_Mark_api_Mark.r7)) (.ret)) (.skip))))))) (.post [0, 1, 12, 13] (.region slices_Equal_api_Mark_api_Mark.r8))))
def slices_Equal_api_Mark_api_Mark.r9 : List AStep := [
  ⟨some 4, none, .op (.mov (.c (.b true)))⟩]
def slices_Equal_api_Mark_api_Mark : AFunc := ⟨26, [.t 4], .seq (.post [0, 1] (.region slices_Equal_api_Mark_api_Mark.r0)) (.seq (.seq (.post [0, 1, 10] (.region slices_Equal_api_Mark_api_Mark.r1)) (.post [0, 1] (.cond (.t 10) (.seq (.post [4] (.region slices_Equal_api_Mark_api_Mark.r2)) (.ret)) (.skip)))) (.seq (.seq (.post [0, 1, 12, 13] (.region slices_Equal_api_Mark_api_Mark.r3)) (.post [] (.block 0 (.loop slices_Equal_api_Mark_api_Mark.l0)))) (.seq (.post [4] (.region slices_Equal_api_Mark_api_Mark.r9)) (.ret))))⟩
theorem slices_Equal_api_Mark_api_Mark.at : Tryz.prog.funcs[n_slices_Equal_api_Mark_api_Mark]? = some Tryz.f120 := Tryz.func120
def system_sameObj.r0 : List AStep := [
  ⟨some 2, none, .op (.boxf (.t 0))⟩,
  ⟨some 3, none, .op (.boxf (.t 1))⟩,
  ⟨some 4, none, .op (.mov (.c (.b false)))⟩]
def system_sameObj.r1 : List AStep := [
  ⟨some 5, none, .op (.fadr 0 (.t 2))⟩,
  ⟨some 6, none, .op (.load false 1 (.t 5))⟩,
  ⟨some 7, none, .op (.fadr 0 (.t 3))⟩,
  ⟨some 8, none, .op (.load false 1 (.t 7))⟩,
  ⟨some 9, none, .op (.bin .eql (.t 6) (.t 8))⟩,
  ⟨some 10, none, .op (.mov (.t 9))⟩,
  ⟨some 11, (some (10, true)), .op (.fadr 1 (.t 2))⟩,
  ⟨some 12, (some (10, true)), .op (.load false 1 (.t 11))⟩,
  ⟨some 13, (some (10, true)), .op (.fadr 1 (.t 3))⟩,
  ⟨some 14, (some (10, true)), .op (.load false 1 (.t 13))⟩,
  ⟨some 15, (some (10, true)), .op (.bin .eql (.t 12) (.t 14))⟩,
  ⟨some 16, none, .op (.pick (.t 10) (.t 15) (.c (.b false)))⟩,
  ⟨some 17, none, .op (.mov (.t 16))⟩,
  ⟨some 18, (some (17, true)), .op (.fadr 2 (.t 2))⟩,
  ⟨some 19, (some (17, true)), .op (.load false 1 (.t 18))⟩,
  ⟨some 20, (some (17, true)), .op (.fadr 2 (.t 3))⟩,
  ⟨some 21, (some (17, true)), .op (.load false 1 (.t 20))⟩,
  ⟨some 22, (some (17, true)), .call n_slices_Equal_api_Mark_api_Mark [.t 19, .t 21]⟩,
  ⟨some 23, none, .op (.pick (.t 17) (.t 22) (.c (.b false)))⟩,
  ⟨some 4, none, .op (.mov (.t 23))⟩]
def system_sameObj : AFunc := ⟨24, [.t 4], .seq (.post [2, 3] (.region system_sameObj.r0)) (.seq (.post [4] (.region system_sameObj.r1)) (.ret))⟩
theorem system_sameObj.ok : okFunc Tryz.prog Tryz.f86 system_sameObj = true := by kernel_rfl
theorem system_sameObj.at : Tryz.prog.funcs[n_system_sameObj]? = some Tryz.f86 := Tryz.func86
def slices_Equal_api_Fn_api_Fn.r0 : List AStep := [
  ⟨some 4, none, .op (.mov (.c (.b false)))⟩]
def slices_Equal_api_Fn_api_Fn.r1 : List AStep := [
  ⟨some 6, none, .op (.mov (.t 0))⟩,
  ⟨some 7, none, .op (.len false (.t 6))⟩,
  ⟨some 8, none, .op (.mov (.t 1))⟩,
  ⟨some 9, none, .op (.len false (.t 8))⟩,
  ⟨some 10, none, .op (.bin .neq (.t 7) (.t 9))⟩]
def slices_Equal_api_Fn_api_Fn.r2 : List AStep := [
  ⟨some 4, none, .op (.mov (.c (.b false)))⟩]
def slices_Equal_api_Fn_api_Fn.r3 : List AStep := [
  ⟨some 11, none, .op (.mov (.t 0))⟩,
  ⟨some 12, none, .op (.len false (.t 11))⟩,
  ⟨some 13, none, .op (.mov (.c (.i .i64 0)))⟩]
def slices_Equal_api_Fn_api_Fn.r4 : List AStep := [
  ⟨some 14, none, .op (.bin .lss (.t 13) (.t 12))⟩]
def slices_Equal_api_Fn_api_Fn.r5 : List AStep := [
  ⟨some 15, none, .op (.mov (.t 13))⟩,
  ⟨some 5, none, .op (.mov (.t 15))⟩]
def slices_Equal_api_Fn_api_Fn.r6 : List AStep := [
  ⟨some 16, none, .op (.mov (.t 0))⟩,
  ⟨some 17, none, .op (.mov (.t 5))⟩,
  ⟨some 18, none, .op (.iad 3 (.t 16) (.t 17))⟩,
  ⟨some 19, none, .op (.load true 3 (.t 18))⟩,
  ⟨some 20, none, .op (.mov (.t 1))⟩,
  ⟨some 21, none, .op (.mov (.t 5))⟩,
  ⟨some 22, none, .op (.iad 3 (.t 20) (.t 21))⟩,
  ⟨some 23, none, .op (.load true 3 (.t 22))⟩,
  ⟨some 24, none, .op (.eqa true [1, 1, 1] (.t 19) (.t 23))⟩]
def slices_Equal_api_Fn_api_Fn.r7 : List AStep := [
  ⟨some 4, none, .op (.mov (.c (.b false)))⟩]
def slices_Equal_api_Fn_api_Fn.r8 : List AStep := [
  ⟨some 25, none, .op (.bin .add (.t 13) (.c (.i .i64 1)))⟩,
  ⟨some 13, none, .op (.mov (.t 25))⟩]
def slices_Equal_api_Fn_api_Fn.l0 : ACode := .seq (.post [0, 1, 12, 13, 14] (.region slices_Equal_api_Fn_api_Fn.r4)) (.seq (.post [0, 1, 12, 13] (.cond (.t 14) (.skip) (.exit 0))) (.seq (.post [0, 1, 12, 13] (.block 1 (.seq (.post [0, 1, 5, 12, 13] (.region slices_Equal_api_Fn_api_Fn.r5)) (.seq (.post [0, 1, 12, 13, 24] (.draw [0, 0, 3, 7, 0, 0, 48, 112, 255] slices_Equal_api_Fn_api_Fn.r6)) (.post [0, 1, 12, 13] (.cond (.t 24) (.seq (.post [4] (.region slices_Equal_api_Fn_api_Fn.r7)) (.ret)) (.skip))))))) (.post [0, 1, 12, 13] (.region slices_Equal_api_Fn_api_Fn.r8))))
def slices_Equal_api_Fn_api_Fn.r9 : List AStep := [
  ⟨some 4, none, .op (.mov (.c (.b true)))⟩]
def slices_Equal_api_Fn_api_Fn : AFunc := ⟨26, [.t 4], .seq (.post [0, 1] (.region slices_Equal_api_Fn_api_Fn.r0)) (.seq (.seq (.post [0, 1, 10] (.region slices_Equal_api_Fn_api_Fn.r1)) (.post [0, 1] (.cond (.t 10) (.seq (.post [4] (.region slices_Equal_api_Fn_api_Fn.r2)) (.ret)) (.skip)))) (.seq (.seq (.post [0, 1, 12, 13] (.region slices_Equal_api_Fn_api_Fn.r3)) (.post [] (.block 0 (.loop slices_Equal_api_Fn_api_Fn.l0)))) (.seq (.post [4] (.region slices_Equal_api_Fn_api_Fn.r9)) (.ret))))⟩
theorem slices_Equal_api_Fn_api_Fn.at : Tryz.prog.funcs[n_slices_Equal_api_Fn_api_Fn]? = some Tryz.f87 := Tryz.func87
def slices_EqualFunc_api_Con_api_Con_api_Con_api_Con.r0 : List AStep := [
  ⟨some 6, none, .op (.mov (.c (.b false)))⟩]
def slices_EqualFunc_api_Con_api_Con_api_Con_api_Con.r1 : List AStep := [
  ⟨some 10, none, .op (.mov (.t 0))⟩,
  ⟨some 11, none, .op (.len false (.t 10))⟩,
  ⟨some 12, none, .op (.mov (.t 1))⟩,
  ⟨some 13, none, .op (.len false (.t 12))⟩,
  ⟨some 14, none, .op (.bin .neq (.t 11) (.t 13))⟩]
def slices_EqualFunc_api_Con_api_Con_api_Con_api_Con.r2 : List AStep := [
  ⟨some 6, none, .op (.mov (.c (.b false)))⟩]
def slices_EqualFunc_api_Con_api_Con_api_Con_api_Con.r3 : List AStep := [
  ⟨some 15, none, .op (.mov (.t 0))⟩,
  ⟨some 16, none, .op (.len false (.t 15))⟩,
  ⟨some 17, none, .op (.mov (.c (.i .i64 0)))⟩]
def slices_EqualFunc_api_Con_api_Con_api_Con_api_Con.r4 : List AStep := [
  ⟨some 18, none, .op (.bin .lss (.t 17) (.t 16))⟩]
def slices_EqualFunc_api_Con_api_Con_api_Con_api_Con.r5 : List AStep := [
  ⟨some 19, none, .op (.mov (.t 17))⟩,
  ⟨some 20, none, .op (.iad 6 (.t 15) (.t 17))⟩,
  ⟨some 21, none, .op (.load true 6 (.t 20))⟩,
  ⟨some 8, none, .op (.new [.i .i64 0, .s [], .s [], .i .i64 0, .s [], .sl none 0 0])⟩,
  ⟨some 7, none, .op (.mov (.t 19))⟩,
  ⟨none, none, .op (.store 6 (.t 8) (.t 21))⟩]
def slices_EqualFunc_api_Con_api_Con_api_Con_api_Con.r6 : List AStep := [
  ⟨some 22, none, .op (.mov (.t 1))⟩,
  ⟨some 23, none, .op (.mov (.t 7))⟩,
  ⟨some 24, none, .op (.iad 6 (.t 22) (.t 23))⟩,
  ⟨some 25, none, .op (.load true 6 (.t 24))⟩,
  ⟨some 9, none, .op (.new [.i .i64 0, .s [], .s [], .i .i64 0, .s [], .sl none 0 0])⟩,
  ⟨none, none, .op (.store 6 (.t 9) (.t 25))⟩]
def slices_EqualFunc_api_Con_api_Con_api_Con_api_Con.r7 : List AStep := [
  ⟨some 26, none, .op (.mov (.t 2))⟩,
  ⟨some 27, none, .op (.load true 6 (.t 8))⟩,
  ⟨some 28, none, .op (.load true 6 (.t 9))⟩,
  ⟨some 29, none, .callv (.t 26) [.t 27, .t 28]⟩,
  ⟨some 30, none, .op (.un .not (.t 29))⟩]
def slices_EqualFunc_api_Con_api_Con_api_Con_api_Con.r8 : List AStep := [
  ⟨some 6, none, .op (.mov (.c (.b false)))⟩]
def slices_EqualFunc_api_Con_api_Con_api_Con_api_Con.r9 : List AStep := [
  ⟨some 31, none, .op (.bin .add (.t 17) (.c (.i .i64 1)))⟩,
  ⟨some 17, none, .op (.mov (.t 31))⟩]
def slices_EqualFunc_api_Con_api_Con_api_Con_api_Con.l0 : ACode := .seq (.post [1, 2, 15, 16, 17, 18] (.region slices_EqualFunc_api_Con_api_Con_api_Con_api_Con.r4)) (.seq (.post [1, 2, 15, 16, 17] (.cond (.t 18) (.skip) (.exit 0))) (.seq (.post [1, 2, 15, 16, 17] (.block 1 (.seq (.post [1, 2, 7, 8, 15, 16, 17] (.region slices_EqualFunc_api_Con_api_Con_api_Con_api_Con.r5)) (.seq (.post [1, 2, 8, 9, 15, 16, 17] (.region slices_EqualFunc_api_Con_api_Con_api_Con_api_Con.r6)) (.seq (.post [1, 2, 15, 16, 17, 30] (.region slices_EqualFunc_api_Con_api_Con_api_Con_api_Con.r7)) (.post [1, 2, 15, 16, 17] (.cond (.t 30) (.seq (.post [6] (.region slices_EqualFunc_api_Con_api_Con_api_Con_api_Con.r8)) (.ret)) (.skip)))))))) (.post [1, 2, 15, 16, 17] (.region slices_EqualFunc_api_Con_api_Con_api_Con_api_Con.r9))))
def slices_EqualFunc_api_Con_api_Con_api_Con_api_Con.r10 : List AStep := [
  ⟨some 6, none, .op (.mov (.c (.b true)))⟩]
def slices_EqualFunc_api_Con_api_Con_api_Con_api_Con : AFunc := ⟨32, [.t 6], .seq (.post [0, 1, 2] (.region slices_EqualFunc_api_Con_api_Con_api_Con_api_Con.r0)) (.seq (.seq (.post [0, 1, 2, 14] (.region slices_EqualFunc_api_Con_api_Con_api_Con_api_Con.r1)) (.post [0, 1, 2] (.cond (.t 14) (.seq (.post [6] (.region slices_EqualFunc_api_Con_api_Con_api_Con_api_Con.r2)) (.ret)) (.skip)))) (.seq (.seq (.post [1, 2, 15, 16, 17] (.region slices_EqualFunc_api_Con_api_Con_api_Con_api_Con.r3)) (.post [] (.block 0 (.loop slices_EqualFunc_api_Con_api_Con_api_Con_api_Con.l0)))) (.seq (.post [6] (.region slices_EqualFunc_api_Con_api_Con_api_Con_api_Con.r10)) (.ret))))⟩
theorem slices_EqualFunc_api_Con_api_Con_api_Con_api_Con.at : Tryz.prog.funcs[n_slices_EqualFunc_api_Con_api_Con_api_Con_api_Con]? = some Tryz.f88 := Tryz.func88
def system_Same.r0 : List AStep := [
  ⟨some 2, none, .op (.boxf (.t 0))⟩,
  ⟨some 3, none, .op (.boxf (.t 1))⟩,
  ⟨some 4, none, .op (.mov (.c (.b false)))⟩]
def system_Same.r1 : List AStep := [
  ⟨some 5, none, .op (.fadr 0 (.t 2))⟩,
  ⟨some 6, none, .op (.load false 1 (.t 5))⟩,
  ⟨some 7, none, .op (.fadr 0 (.t 3))⟩,
  ⟨some 8, none, .op (.load false 1 (.t 7))⟩,
  ⟨some 9, none, .call n_slices_EqualFunc_api_Obj_api_Obj_api_Obj_api_Obj [.t 6, .t 8, .c (.fn 86 [])]⟩,
  ⟨some 10, none, .op (.mov (.t 9))⟩,
  ⟨some 11, (some (10, true)), .op (.fadr 1 (.t 2))⟩,
  ⟨some 12, (some (10, true)), .op (.load false 1 (.t 11))⟩,
  ⟨some 13, (some (10, true)), .op (.fadr 1 (.t 3))⟩,
  ⟨some 14, (some (10, true)), .op (.load false 1 (.t 13))⟩,
  ⟨some 15, (some (10, true)), .call n_slices_Equal_api_Fn_api_Fn [.t 12, .t 14]⟩,
  ⟨some 16, none, .op (.pick (.t 10) (.t 15) (.c (.b false)))⟩,
  ⟨some 17, none, .op (.mov (.t 16))⟩,
  ⟨some 18, (some (17, true)), .op (.fadr 2 (.t 2))⟩,
  ⟨some 19, (some (17, true)), .op (.load false 1 (.t 18))⟩,
  ⟨some 20, (some (17, true)), .op (.fadr 2 (.t 3))⟩,
  ⟨some 21, (some (17, true)), .op (.load false 1 (.t 20))⟩,
  ⟨some 22, (some (17, true)), .call n_slices_EqualFunc_api_Con_api_Con_api_Con_api_Con [.t 19, .t 21, .c (.fn 89 [])]⟩,
  ⟨some 23, none, .op (.pick (.t 17) (.t 22) (.c (.b false)))⟩,
  ⟨some 4, none, .op (.mov (.t 23))⟩]
def system_Same : AFunc := ⟨24, [.t 4], .seq (.post [2, 3] (.region system_Same.r0)) (.seq (.post [4] (.region system_Same.r1)) (.ret))⟩
theorem system_Same.ok : okFunc Tryz.prog Tryz.f46 system_Same = true := by kernel_rfl
theorem system_Same.at : Tryz.prog.funcs[n_system_Same]? = some Tryz.f46 := Tryz.func46
def symbols_symbol_1.r0 : List AStep := [
  ⟨some 2, none, .op (.boxf (.t 0))⟩,
  ⟨some 3, none, .op (.mov (.c (.b false)))⟩]
def symbols_symbol_1.r1 : List AStep := [
  ⟨some 4, none, .op (.fadr 1 (.t 2))⟩,
  ⟨some 5, none, .op (.load true 3 (.t 4))⟩,
  ⟨some 6, none, .op (.load false 1 (.t 1))⟩,
  ⟨some 7, none, .op (.iad 4 (.t 6) (.c (.i .i64 0)))⟩,
  ⟨some 8, none, .op (.fadr 1 (.t 7))⟩,
  ⟨some 9, none, .op (.load true 3 (.t 8))⟩,
  ⟨some 10, none, .call n_system_Same [.t 5, .t 9]⟩,
  ⟨some 11, none, .op (.un .not (.t 10))⟩,
  ⟨some 3, none, .op (.mov (.t 11))⟩]
def symbols_symbol_1 : AFunc := ⟨12, [.t 3], .seq (.post [1, 2] (.region symbols_symbol_1.r0)) (.seq (.post [3] (.draw [0, 1, 0, 4, 12, 28, 63, 127, 255] symbols_symbol_1.r1)) (.ret))⟩
theorem symbols_symbol_1.ok : okFunc Tryz.prog Tryz.f45 symbols_symbol_1 = true := by kernel_rfl
theorem symbols_symbol_1.at : Tryz.prog.funcs[n_symbols_symbol_1]? = some Tryz.f45 := Tryz.func45
def slices_IndexFunc_symbols_thing_symbols_thing.r0 : List AStep := [
  ⟨some 4, none, .op (.mov (.c (.i .i64 0)))⟩]
def slices_IndexFunc_symbols_thing_symbols_thing.r1 : List AStep := [
  ⟨some 6, none, .op (.mov (.t 0))⟩,
  ⟨some 7, none, .op (.len false (.t 6))⟩,
  ⟨some 8, none, .op (.mov (.c (.i .i64 0)))⟩]
def slices_IndexFunc_symbols_thing_symbols_thing.r2 : List AStep := [
  ⟨some 9, none, .op (.bin .lss (.t 8) (.t 7))⟩]
def slices_IndexFunc_symbols_thing_symbols_thing.r3 : List AStep := [
  ⟨some 10, none, .op (.mov (.t 8))⟩,
  ⟨some 5, none, .op (.mov (.t 10))⟩]
def slices_IndexFunc_symbols_thing_symbols_thing.r4 : List AStep := [
  ⟨some 11, none, .op (.mov (.t 1))⟩,
  ⟨some 12, none, .op (.mov (.t 0))⟩,
  ⟨some 13, none, .op (.mov (.t 5))⟩,
  ⟨some 14, none, .op (.iad 4 (.t 12) (.t 13))⟩,
  ⟨some 15, none, .op (.load true 4 (.t 14))⟩,
  ⟨some 16, none, .callv (.t 11) [.t 15]⟩]
def slices_IndexFunc_symbols_thing_symbols_thing.r5 : List AStep := [
  ⟨some 17, none, .op (.mov (.t 5))⟩,
  ⟨some 4, none, .op (.mov (.t 17))⟩]
def slices_IndexFunc_symbols_thing_symbols_thing.r6 : List AStep := [
  ⟨some 18, none, .op (.bin .add (.t 8) (.c (.i .i64 1)))⟩,
  ⟨some 8, none, .op (.mov (.t 18))⟩]
def slices_IndexFunc_symbols_thing_symbols_thing.l0 : ACode := .seq (.post [0, 1, 7, 8, 9] (.region slices_IndexFunc_symbols_thing_symbols_thing.r2)) (.seq (.post [0, 1, 7, 8] (.cond (.t 9) (.skip) (.exit 0))) (.seq (.post [0, 1, 7, 8] (.block 1 (.seq (.post [0, 1, 5, 7, 8] (.region slices_IndexFunc_symbols_thing_symbols_thing.r3)) (.seq (.post [0, 1, 5, 7, 8, 16] (.region slices_IndexFunc_symbols_thing_symbols_thing.r4)) (.post [0, 1, 7, 8] (.cond (.t 16) (.seq (.post [4] (.region slices_IndexFunc_symbols_thing_symbols_thing.r5)) (.ret)) (.skip))))))) (.post [0, 1, 7, 8] (.region slices_IndexFunc_symbols_thing_symbols_thing.r6))))
def slices_IndexFunc_symbols_thing_symbols_thing.r7 : List AStep := [
  ⟨some 4, none, .op (.mov (.c (.i .i64 (-1))))⟩]
def slices_IndexFunc_symbols_thing_symbols_thing : AFunc := ⟨19, [.t 4], .seq (.post [0, 1] (.region slices_IndexFunc_symbols_thing_symbols_thing.r0)) (.seq (.seq (.post [0, 1, 7, 8] (.region slices_IndexFunc_symbols_thing_symbols_thing.r1)) (.post [] (.block 0 (.loop slices_IndexFunc_symbols_thing_symbols_thing.l0)))) (.seq (.post [4] (.region slices_IndexFunc_symbols_thing_symbols_thing.r7)) (.ret)))⟩
theorem slices_IndexFunc_symbols_thing_symbols_thing.at : Tryz.prog.funcs[n_slices_IndexFunc_symbols_thing_symbols_thing]? = some Tryz.f84 := Tryz.func84
def slices_ContainsFunc_symbols_thing_symbols_thing.r0 : List AStep := [
  ⟨some 4, none, .op (.mov (.c (.b false)))⟩]
def slices_ContainsFunc_symbols_thing_symbols_thing.r1 : List AStep := [
  ⟨some 5, none, .op (.mov (.t 0))⟩,
  ⟨some 6, none, .op (.mov (.t 1))⟩,
  ⟨some 7, none, .call n_slices_IndexFunc_symbols_thing_symbols_thing [.t 5, .t 6]⟩,
  ⟨some 8, none, .op (.bin .geq (.t 7) (.c (.i .i64 0)))⟩,
  ⟨some 4, none, .op (.mov (.t 8))⟩]
def slices_ContainsFunc_symbols_thing_symbols_thing : AFunc := ⟨9, [.t 4], .seq (.post [0, 1] (.region slices_ContainsFunc_symbols_thing_symbols_thing.r0)) (.seq (.post [4] (.region slices_ContainsFunc_symbols_thing_symbols_thing.r1)) (.ret))⟩
theorem slices_ContainsFunc_symbols_thing_symbols_thing.at : Tryz.prog.funcs[n_slices_ContainsFunc_symbols_thing_symbols_thing]? = some Tryz.f44 := Tryz.func44
end C
end Go.Proofs.YtjajpilacdfnbaaGreatDoor
