/- The AM code of functions of the program, each held against the model's code by the kernel. -/
import Derived.Test.YtihipphpfbnknaaProg
import Derived.Test.YtihipphpfbnknaaAm17
namespace Go.Proofs.Ytihipphpfbnknaa
open Am Go.Proofs

set_option maxRecDepth 100000
namespace C
def n_forest_New : FuncId := 19
def n_weftref06_New : FuncId := 20
def n_forest_Forest_member : FuncId := 31
def n_forest_Forest_Find : FuncId := 25
def n_forest_Forest_Join : FuncId := 21
def n_weftref06_Forest_Find : FuncId := 26
def n_weftref06_Forest_Join : FuncId := 22
def n_forest_Forest_Parts : FuncId := 23
def n_weftref06_Forest_Parts : FuncId := 24
def n_forest_Forest_Members : FuncId := 28
def n_weftref06_Forest_Members : FuncId := 29
def n_weftref06_SameInts : FuncId := 27
def n_weftlaw06_ForestDoes : FuncId := 7
def n_weftlaw06_works : FuncId := 30
def n_weftlaw06_ForestNil : FuncId := 8
def n_weftlaw06_ForestOrder : FuncId := 9
def forest_New.r0 : List AStep := [
  ⟨some 2, none, .op (.mov (.c (.p none)))⟩]
def forest_New.r1 : List AStep := [
  ⟨some 5, none, .op (.mov (.t 0))⟩,
  ⟨some 6, none, .op (.mx [.t 5, .c (.i .i64 0)])⟩,
  ⟨some 7, none, .op (.mn [.t 6, .c (.i .i64 100000)])⟩,
  ⟨some 0, none, .op (.mov (.t 7))⟩]
def forest_New.r2 : List AStep := [
  ⟨some 8, none, .op (.mov (.t 0))⟩,
  ⟨some 9, none, .op (.mksl 1 8 [.i .i64 0] (.t 8) (.t 8))⟩,
  ⟨some 10, none, .op (.mov (.t 0))⟩,
  ⟨some 11, none, .op (.mksl 1 8 [.i .i64 0] (.t 10) (.t 10))⟩,
  ⟨some 12, none, .op (.mov (.t 0))⟩,
  ⟨some 13, none, .op (.build [.sl none 0 0, .sl none 0 0, .i .i64 0] [(0, 1, .t 9), (1, 1, .t 11), (2, 1, .t 12)])⟩,
  ⟨some 14, none, .op (.box (.t 13))⟩,
  ⟨some 3, none, .op (.mov (.t 14))⟩]
def forest_New.r3 : List AStep := [
  ⟨some 15, none, .op (.mov (.t 0))⟩,
  ⟨some 16, none, .op (.mov (.c (.i .i64 0)))⟩]
def forest_New.r4 : List AStep := [
  ⟨some 17, none, .op (.bin .lss (.t 16) (.t 15))⟩]
def forest_New.r5 : List AStep := [
  ⟨some 18, none, .op (.mov (.t 16))⟩,
  ⟨some 4, none, .op (.mov (.t 18))⟩]
def forest_New.r6 : List AStep := [
  ⟨some 19, none, .op (.mov (.t 3))⟩,
  ⟨some 20, none, .op (.nilc (.t 19))⟩,
  ⟨some 21, none, .op (.fadr 0 (.t 20))⟩,
  ⟨some 22, none, .op (.load false 1 (.t 21))⟩,
  ⟨some 23, none, .op (.mov (.t 4))⟩,
  ⟨some 24, none, .op (.mov (.t 3))⟩,
  ⟨some 25, none, .op (.nilc (.t 24))⟩,
  ⟨some 26, none, .op (.fadr 1 (.t 25))⟩,
  ⟨some 27, none, .op (.load false 1 (.t 26))⟩,
  ⟨some 28, none, .op (.mov (.t 4))⟩,
  ⟨some 29, none, .op (.mov (.t 4))⟩,
  ⟨some 30, none, .op (.mov (.t 4))⟩,
  ⟨some 31, none, .op (.iad 1 (.t 22) (.t 23))⟩,
  ⟨none, none, .op (.store 1 (.t 31) (.t 29))⟩,
  ⟨some 32, none, .op (.iad 1 (.t 27) (.t 28))⟩,
  ⟨none, none, .op (.store 1 (.t 32) (.t 30))⟩]
def forest_New.r7 : List AStep := [
  ⟨some 33, none, .op (.bin .add (.t 16) (.c (.i .i64 1)))⟩,
  ⟨some 16, none, .op (.mov (.t 33))⟩]
/-- Loop 0 of weft/forest.New: live at its head: 3 f, 15 , 16  -/
def forest_New.l0 : ACode := .seq (.post [3, 15, 16, 17] (.region forest_New.r4)) (.seq (.post [3, 15, 16] (.cond (.t 17) (.skip) (.exit 0))) (.seq (.post [3, 15, 16] (.block 1 (.seq (.post [3, 4, 15, 16] (.region forest_New.r5)) (.post [3, 15, 16] (.draw [0, 1, 3, 7, 0, 0, 32, 96, 224, 0, 0, 0, 1535, 5631, 16383, 32767] forest_New.r6))))) (.post [3, 15, 16] (.region forest_New.r7))))
def forest_New.r8 : List AStep := [
  ⟨some 34, none, .op (.mov (.t 3))⟩,
  ⟨some 2, none, .op (.mov (.t 34))⟩]
/-- weft/forest.New (parameters: n) -/
def forest_New : AFunc := ⟨35, [.t 2], .seq (.post [0] (.region forest_New.r0)) (.seq (.post [0] (.region forest_New.r1)) (.seq (.post [0, 3] (.drawA [0, 1, 0, 4, 0, 31, 63, 127] [1, 3] forest_New.r2)) (.seq (.seq (.post [3, 15, 16] (.region forest_New.r3)) (.post [3] (.block 0 (.loop forest_New.l0)))) (.seq (.post [2] (.region forest_New.r8)) (.ret)))))⟩
theorem forest_New.ok : okFunc Try.prog Try.f19 forest_New = true := by kernel_rfl
theorem forest_New.at : Try.prog.funcs[n_forest_New]? = some Try.f19 := Try.func19

def weftref06_New.r0 : List AStep := [
  ⟨some 2, none, .op (.mov (.c (.sl none 0 0)))⟩]
def weftref06_New.r1 : List AStep := [
  ⟨some 5, none, .op (.mov (.t 0))⟩,
  ⟨some 6, none, .op (.mx [.t 5, .c (.i .i64 0)])⟩,
  ⟨some 7, none, .op (.mn [.t 6, .c (.i .i64 100000)])⟩,
  ⟨some 0, none, .op (.mov (.t 7))⟩]
def weftref06_New.r2 : List AStep := [
  ⟨some 8, none, .op (.mov (.t 0))⟩,
  ⟨some 9, none, .op (.mksl 1 8 [.i .i64 0] (.t 8) (.t 8))⟩,
  ⟨some 3, none, .op (.mov (.t 9))⟩]
def weftref06_New.r3 : List AStep := [
  ⟨some 4, none, .op (.mov (.c (.i .i64 0)))⟩]
def weftref06_New.r4 : List AStep := [
  ⟨some 10, none, .op (.mov (.t 4))⟩,
  ⟨some 11, none, .op (.mov (.t 0))⟩,
  ⟨some 12, none, .op (.bin .lss (.t 10) (.t 11))⟩]
def weftref06_New.r5 : List AStep := [
  ⟨some 15, none, .op (.mov (.t 3))⟩,
  ⟨some 16, none, .op (.mov (.t 4))⟩,
  ⟨some 17, none, .op (.mov (.t 4))⟩,
  ⟨some 18, none, .op (.iad 1 (.t 15) (.t 16))⟩,
  ⟨none, none, .op (.store 1 (.t 18) (.t 17))⟩]
def weftref06_New.r6 : List AStep := [
  ⟨some 13, none, .op (.mov (.t 4))⟩,
  ⟨some 14, none, .op (.bin .add (.t 13) (.c (.i .i64 1)))⟩,
  ⟨some 4, none, .op (.mov (.t 14))⟩]
/-- Loop 0 of weft/weftref06.New: live at its head: 0 n, 3 f, 4 i -/
def weftref06_New.l0 : ACode := .seq (.seq (.post [0, 3, 4, 12] (.region weftref06_New.r4)) (.post [0, 3, 4] (.cond (.t 12) (.skip) (.exit 0)))) (.seq (.post [0, 3, 4] (.block 1 (.post [0, 3, 4] (.region weftref06_New.r5)))) (.post [0, 3, 4] (.region weftref06_New.r6)))
def weftref06_New.r7 : List AStep := [
  ⟨some 19, none, .op (.mov (.t 3))⟩,
  ⟨some 2, none, .op (.mov (.t 19))⟩]
/-- weft/weftref06.New (parameters: n) -/
def weftref06_New : AFunc := ⟨20, [.t 2], .seq (.post [0] (.region weftref06_New.r0)) (.seq (.post [0] (.region weftref06_New.r1)) (.seq (.post [0, 3] (.region weftref06_New.r2)) (.seq (.seq (.post [0, 3, 4] (.region weftref06_New.r3)) (.post [3] (.block 0 (.loop weftref06_New.l0)))) (.seq (.post [2] (.region weftref06_New.r7)) (.ret)))))⟩
theorem weftref06_New.ok : okFunc Try.prog Try.f20 weftref06_New = true := by kernel_rfl
theorem weftref06_New.at : Try.prog.funcs[n_weftref06_New]? = some Try.f20 := Try.func20

def forest_Forest_member.r0 : List AStep := [
  ⟨some 4, none, .op (.mov (.c (.b false)))⟩]
def forest_Forest_member.r1 : List AStep := [
  ⟨some 5, none, .op (.mov (.t 0))⟩,
  ⟨some 6, none, .op (.eqk .ptr true (.t 5) (.c (.p none)))⟩,
  ⟨some 7, none, .op (.mov (.t 6))⟩,
  ⟨some 8, (some (7, true)), .op (.mov (.t 1))⟩,
  ⟨some 9, (some (7, true)), .op (.bin .geq (.t 8) (.c (.i .i64 0)))⟩,
  ⟨some 10, none, .op (.pick (.t 7) (.t 9) (.c (.b false)))⟩,
  ⟨some 11, none, .op (.mov (.t 10))⟩,
  ⟨some 12, (some (11, true)), .op (.mov (.t 1))⟩,
  ⟨some 13, (some (11, true)), .op (.mov (.t 0))⟩,
  ⟨some 14, (some (11, true)), .op (.nilc (.t 13))⟩,
  ⟨some 15, (some (11, true)), .op (.fadr 0 (.t 14))⟩,
  ⟨some 16, (some (11, true)), .op (.load false 1 (.t 15))⟩,
  ⟨some 17, (some (11, true)), .op (.len false (.t 16))⟩,
  ⟨some 18, (some (11, true)), .op (.bin .lss (.t 12) (.t 17))⟩,
  ⟨some 19, none, .op (.pick (.t 11) (.t 18) (.c (.b false)))⟩,
  ⟨some 4, none, .op (.mov (.t 19))⟩]
/-- (*weft/forest.Forest).member (parameters: f, n) -/
def forest_Forest_member : AFunc := ⟨20, [.t 4], .seq (.post [0, 1] (.region forest_Forest_member.r0)) (.seq (.post [4] (.region forest_Forest_member.r1)) (.ret))⟩
theorem forest_Forest_member.ok : okFunc Try.prog Try.f31 forest_Forest_member = true := by kernel_rfl
theorem forest_Forest_member.at : Try.prog.funcs[n_forest_Forest_member]? = some Try.f31 := Try.func31

def forest_Forest_Find.r0 : List AStep := [
  ⟨some 4, none, .op (.mov (.c (.i .i64 0)))⟩]
def forest_Forest_Find.r1 : List AStep := [
  ⟨some 5, none, .op (.mov (.t 0))⟩,
  ⟨some 6, none, .op (.mov (.t 1))⟩,
  ⟨some 7, none, .call n_forest_Forest_member [.t 5, .t 6]⟩,
  ⟨some 8, none, .op (.un .not (.t 7))⟩]
def forest_Forest_Find.r2 : List AStep := [
  ⟨some 4, none, .op (.mov (.c (.i .i64 (-1))))⟩]
def forest_Forest_Find.r3 : List AStep := [
  ⟨some 9, none, .op (.mov (.t 0))⟩,
  ⟨some 10, none, .op (.nilc (.t 9))⟩,
  ⟨some 11, none, .op (.fadr 0 (.t 10))⟩,
  ⟨some 12, none, .op (.load false 1 (.t 11))⟩,
  ⟨some 13, none, .op (.mov (.t 1))⟩,
  ⟨some 14, none, .op (.iad 1 (.t 12) (.t 13))⟩,
  ⟨some 15, none, .op (.load false 1 (.t 14))⟩,
  ⟨some 16, none, .op (.mov (.t 1))⟩,
  ⟨some 17, none, .op (.bin .neq (.t 15) (.t 16))⟩]
def forest_Forest_Find.r4 : List AStep := [
  ⟨some 18, none, .op (.mov (.t 0))⟩,
  ⟨some 19, none, .op (.nilc (.t 18))⟩,
  ⟨some 20, none, .op (.fadr 0 (.t 19))⟩,
  ⟨some 21, none, .op (.load false 1 (.t 20))⟩,
  ⟨some 22, none, .op (.mov (.t 1))⟩,
  ⟨some 23, none, .op (.mov (.t 0))⟩,
  ⟨some 24, none, .op (.nilc (.t 23))⟩,
  ⟨some 25, none, .op (.fadr 0 (.t 24))⟩,
  ⟨some 26, none, .op (.load false 1 (.t 25))⟩,
  ⟨some 27, none, .op (.mov (.t 0))⟩,
  ⟨some 28, none, .op (.nilc (.t 27))⟩,
  ⟨some 29, none, .op (.fadr 0 (.t 28))⟩,
  ⟨some 30, none, .op (.load false 1 (.t 29))⟩,
  ⟨some 31, none, .op (.mov (.t 1))⟩,
  ⟨some 32, none, .op (.iad 1 (.t 30) (.t 31))⟩,
  ⟨some 33, none, .op (.load false 1 (.t 32))⟩,
  ⟨some 34, none, .op (.iad 1 (.t 26) (.t 33))⟩,
  ⟨some 35, none, .op (.load false 1 (.t 34))⟩,
  ⟨some 36, none, .op (.iad 1 (.t 21) (.t 22))⟩,
  ⟨none, none, .op (.store 1 (.t 36) (.t 35))⟩]
def forest_Forest_Find.r5 : List AStep := [
  ⟨some 37, none, .op (.mov (.t 0))⟩,
  ⟨some 38, none, .op (.nilc (.t 37))⟩,
  ⟨some 39, none, .op (.fadr 0 (.t 38))⟩,
  ⟨some 40, none, .op (.load false 1 (.t 39))⟩,
  ⟨some 41, none, .op (.mov (.t 1))⟩,
  ⟨some 42, none, .op (.iad 1 (.t 40) (.t 41))⟩,
  ⟨some 43, none, .op (.load false 1 (.t 42))⟩,
  ⟨some 1, none, .op (.mov (.t 43))⟩]
/-- Loop 0 of (*weft/forest.Forest).Find: live at its head: 0 f, 1 n -/
def forest_Forest_Find.l0 : ACode := .seq (.seq (.post [0, 1, 17] (.region forest_Forest_Find.r3)) (.post [0, 1] (.cond (.t 17) (.skip) (.exit 0)))) (.post [0, 1] (.block 1 (.seq (.post [0, 1] (.draw [0, 1, 3, 7, 0, 0, 32, 96, 224, 0, 512, 1536, 3584, 0, 15872, 32256, 65504, 131040, 262143, 524287] forest_Forest_Find.r4)) (.post [0, 1] (.region forest_Forest_Find.r5)))))
def forest_Forest_Find.r6 : List AStep := [
  ⟨some 44, none, .op (.mov (.t 1))⟩,
  ⟨some 4, none, .op (.mov (.t 44))⟩]
/-- (*weft/forest.Forest).Find (parameters: f, n) -/
def forest_Forest_Find : AFunc := ⟨45, [.t 4], .seq (.post [0, 1] (.region forest_Forest_Find.r0)) (.seq (.seq (.post [0, 1, 8] (.region forest_Forest_Find.r1)) (.post [0, 1] (.cond (.t 8) (.seq (.post [4] (.region forest_Forest_Find.r2)) (.ret)) (.skip)))) (.seq (.post [1] (.block 0 (.loop forest_Forest_Find.l0))) (.seq (.post [4] (.region forest_Forest_Find.r6)) (.ret))))⟩
theorem forest_Forest_Find.ok : okFunc Try.prog Try.f25 forest_Forest_Find = true := by kernel_rfl
theorem forest_Forest_Find.at : Try.prog.funcs[n_forest_Forest_Find]? = some Try.f25 := Try.func25

def forest_Forest_Join.r0 : List AStep := [
  ⟨some 6, none, .op (.mov (.c (.b false)))⟩]
def forest_Forest_Join.r1 : List AStep := [
  ⟨some 9, none, .op (.mov (.t 0))⟩,
  ⟨some 10, none, .op (.mov (.t 1))⟩,
  ⟨some 11, none, .call n_forest_Forest_Find [.t 9, .t 10]⟩,
  ⟨some 12, none, .op (.mov (.t 0))⟩,
  ⟨some 13, none, .op (.mov (.t 2))⟩,
  ⟨some 14, none, .call n_forest_Forest_Find [.t 12, .t 13]⟩,
  ⟨some 7, none, .op (.mov (.t 11))⟩,
  ⟨some 8, none, .op (.mov (.t 14))⟩]
def forest_Forest_Join.r2 : List AStep := [
  ⟨some 15, none, .op (.mov (.t 7))⟩,
  ⟨some 16, none, .op (.bin .lss (.t 15) (.c (.i .i64 0)))⟩,
  ⟨some 17, none, .op (.mov (.t 16))⟩,
  ⟨some 18, (some (17, false)), .op (.mov (.t 8))⟩,
  ⟨some 19, (some (17, false)), .op (.bin .lss (.t 18) (.c (.i .i64 0)))⟩,
  ⟨some 20, none, .op (.pick (.t 17) (.c (.b true)) (.t 19))⟩,
  ⟨some 21, none, .op (.mov (.t 20))⟩,
  ⟨some 22, (some (21, false)), .op (.mov (.t 7))⟩,
  ⟨some 23, (some (21, false)), .op (.mov (.t 8))⟩,
  ⟨some 24, (some (21, false)), .op (.bin .eql (.t 22) (.t 23))⟩,
  ⟨some 25, none, .op (.pick (.t 21) (.c (.b true)) (.t 24))⟩]
def forest_Forest_Join.r3 : List AStep := [
  ⟨some 6, none, .op (.mov (.c (.b false)))⟩]
def forest_Forest_Join.r4 : List AStep := [
  ⟨some 26, none, .op (.mov (.t 0))⟩,
  ⟨some 27, none, .op (.nilc (.t 26))⟩,
  ⟨some 28, none, .op (.fadr 0 (.t 27))⟩,
  ⟨some 29, none, .op (.load false 1 (.t 28))⟩,
  ⟨some 30, none, .op (.mov (.t 7))⟩,
  ⟨some 31, none, .op (.mov (.t 8))⟩,
  ⟨some 32, none, .op (.mx [.t 30, .t 31])⟩,
  ⟨some 33, none, .op (.mov (.t 7))⟩,
  ⟨some 34, none, .op (.mov (.t 8))⟩,
  ⟨some 35, none, .op (.mn [.t 33, .t 34])⟩,
  ⟨some 36, none, .op (.iad 1 (.t 29) (.t 32))⟩,
  ⟨none, none, .op (.store 1 (.t 36) (.t 35))⟩]
def forest_Forest_Join.r5 : List AStep := [
  ⟨some 37, none, .op (.mov (.t 0))⟩,
  ⟨some 38, none, .op (.nilc (.t 37))⟩,
  ⟨some 39, none, .op (.fadr 1 (.t 38))⟩,
  ⟨some 40, none, .op (.load false 1 (.t 39))⟩,
  ⟨some 41, none, .op (.mov (.t 7))⟩,
  ⟨some 42, none, .op (.mov (.t 0))⟩,
  ⟨some 43, none, .op (.nilc (.t 42))⟩,
  ⟨some 44, none, .op (.fadr 1 (.t 43))⟩,
  ⟨some 45, none, .op (.load false 1 (.t 44))⟩,
  ⟨some 46, none, .op (.mov (.t 8))⟩,
  ⟨some 47, none, .op (.mov (.t 0))⟩,
  ⟨some 48, none, .op (.nilc (.t 47))⟩,
  ⟨some 49, none, .op (.fadr 1 (.t 48))⟩,
  ⟨some 50, none, .op (.load false 1 (.t 49))⟩,
  ⟨some 51, none, .op (.mov (.t 8))⟩,
  ⟨some 52, none, .op (.iad 1 (.t 50) (.t 51))⟩,
  ⟨some 53, none, .op (.load false 1 (.t 52))⟩,
  ⟨some 54, none, .op (.mov (.t 0))⟩,
  ⟨some 55, none, .op (.nilc (.t 54))⟩,
  ⟨some 56, none, .op (.fadr 1 (.t 55))⟩,
  ⟨some 57, none, .op (.load false 1 (.t 56))⟩,
  ⟨some 58, none, .op (.mov (.t 7))⟩,
  ⟨some 59, none, .op (.iad 1 (.t 57) (.t 58))⟩,
  ⟨some 60, none, .op (.load false 1 (.t 59))⟩,
  ⟨some 61, none, .op (.iad 1 (.t 40) (.t 41))⟩,
  ⟨none, none, .op (.store 1 (.t 61) (.t 53))⟩,
  ⟨some 62, none, .op (.iad 1 (.t 45) (.t 46))⟩,
  ⟨none, none, .op (.store 1 (.t 62) (.t 60))⟩]
def forest_Forest_Join.r6 : List AStep := [
  ⟨some 63, none, .op (.mov (.t 0))⟩,
  ⟨some 64, none, .op (.nilc (.t 63))⟩,
  ⟨some 65, none, .op (.fadr 2 (.t 64))⟩,
  ⟨some 66, none, .op (.load false 1 (.t 65))⟩,
  ⟨some 67, none, .op (.bin .sub (.t 66) (.c (.i .i64 1)))⟩,
  ⟨some 68, none, .op (.nilc (.t 63))⟩,
  ⟨some 69, none, .op (.fadr 2 (.t 68))⟩,
  ⟨none, none, .op (.store 1 (.t 69) (.t 67))⟩]
def forest_Forest_Join.r7 : List AStep := [
  ⟨some 6, none, .op (.mov (.c (.b true)))⟩]
/-- (*weft/forest.Forest).Join (parameters: f, a, b) -/
def forest_Forest_Join : AFunc := ⟨70, [.t 6], .seq (.post [0, 1, 2] (.region forest_Forest_Join.r0)) (.seq (.post [0, 7, 8] (.region forest_Forest_Join.r1)) (.seq (.seq (.post [0, 7, 8, 25] (.region forest_Forest_Join.r2)) (.post [0, 7, 8] (.cond (.t 25) (.seq (.post [6] (.region forest_Forest_Join.r3)) (.ret)) (.skip)))) (.seq (.post [0, 7, 8] (.region forest_Forest_Join.r4)) (.seq (.post [0] (.draw [0, 1, 3, 7, 0, 0, 32, 96, 224, 0, 0, 1024, 3072, 7168, 0, 31744, 64512, 0, 131072, 393216, 917504, 0, 4063232, 8257536, 16776703, 33553919, 67108863, 134217727] forest_Forest_Join.r5)) (.seq (.post [] (.region forest_Forest_Join.r6)) (.seq (.post [6] (.region forest_Forest_Join.r7)) (.ret)))))))⟩
theorem forest_Forest_Join.ok : okFunc Try.prog Try.f21 forest_Forest_Join = true := by kernel_rfl
theorem forest_Forest_Join.at : Try.prog.funcs[n_forest_Forest_Join]? = some Try.f21 := Try.func21

def weftref06_Forest_Find.r0 : List AStep := [
  ⟨some 4, none, .op (.mov (.c (.i .i64 0)))⟩]
def weftref06_Forest_Find.r1 : List AStep := [
  ⟨some 5, none, .op (.mov (.t 1))⟩,
  ⟨some 6, none, .op (.bin .lss (.t 5) (.c (.i .i64 0)))⟩,
  ⟨some 7, none, .op (.mov (.t 6))⟩,
  ⟨some 8, (some (7, false)), .op (.mov (.t 1))⟩,
  ⟨some 9, (some (7, false)), .op (.mov (.t 0))⟩,
  ⟨some 10, (some (7, false)), .op (.len false (.t 9))⟩,
  ⟨some 11, (some (7, false)), .op (.bin .geq (.t 8) (.t 10))⟩,
  ⟨some 12, none, .op (.pick (.t 7) (.c (.b true)) (.t 11))⟩]
def weftref06_Forest_Find.r2 : List AStep := [
  ⟨some 4, none, .op (.mov (.c (.i .i64 (-1))))⟩]
def weftref06_Forest_Find.r3 : List AStep := [
  ⟨some 13, none, .op (.mov (.t 0))⟩,
  ⟨some 14, none, .op (.mov (.t 1))⟩,
  ⟨some 15, none, .op (.iad 1 (.t 13) (.t 14))⟩,
  ⟨some 16, none, .op (.load false 1 (.t 15))⟩,
  ⟨some 4, none, .op (.mov (.t 16))⟩]
/-- (weft/weftref06.Forest).Find (parameters: f, n) -/
def weftref06_Forest_Find : AFunc := ⟨17, [.t 4], .seq (.post [0, 1] (.region weftref06_Forest_Find.r0)) (.seq (.seq (.post [0, 1, 12] (.region weftref06_Forest_Find.r1)) (.post [0, 1] (.cond (.t 12) (.seq (.post [4] (.region weftref06_Forest_Find.r2)) (.ret)) (.skip)))) (.seq (.post [4] (.region weftref06_Forest_Find.r3)) (.ret)))⟩
theorem weftref06_Forest_Find.ok : okFunc Try.prog Try.f26 weftref06_Forest_Find = true := by kernel_rfl
theorem weftref06_Forest_Find.at : Try.prog.funcs[n_weftref06_Forest_Find]? = some Try.f26 := Try.func26

def weftref06_Forest_Join.r0 : List AStep := [
  ⟨some 6, none, .op (.mov (.c (.b false)))⟩]
def weftref06_Forest_Join.r1 : List AStep := [
  ⟨some 10, none, .op (.mov (.t 0))⟩,
  ⟨some 11, none, .op (.mov (.t 1))⟩,
  ⟨some 12, none, .call n_weftref06_Forest_Find [.t 10, .t 11]⟩,
  ⟨some 13, none, .op (.mov (.t 0))⟩,
  ⟨some 14, none, .op (.mov (.t 2))⟩,
  ⟨some 15, none, .call n_weftref06_Forest_Find [.t 13, .t 14]⟩,
  ⟨some 7, none, .op (.mov (.t 12))⟩,
  ⟨some 8, none, .op (.mov (.t 15))⟩]
def weftref06_Forest_Join.r2 : List AStep := [
  ⟨some 16, none, .op (.mov (.t 7))⟩,
  ⟨some 17, none, .op (.bin .lss (.t 16) (.c (.i .i64 0)))⟩,
  ⟨some 18, none, .op (.mov (.t 17))⟩,
  ⟨some 19, (some (18, false)), .op (.mov (.t 8))⟩,
  ⟨some 20, (some (18, false)), .op (.bin .lss (.t 19) (.c (.i .i64 0)))⟩,
  ⟨some 21, none, .op (.pick (.t 18) (.c (.b true)) (.t 20))⟩,
  ⟨some 22, none, .op (.mov (.t 21))⟩,
  ⟨some 23, (some (22, false)), .op (.mov (.t 7))⟩,
  ⟨some 24, (some (22, false)), .op (.mov (.t 8))⟩,
  ⟨some 25, (some (22, false)), .op (.bin .eql (.t 23) (.t 24))⟩,
  ⟨some 26, none, .op (.pick (.t 22) (.c (.b true)) (.t 25))⟩]
def weftref06_Forest_Join.r3 : List AStep := [
  ⟨some 6, none, .op (.mov (.c (.b false)))⟩]
def weftref06_Forest_Join.r4 : List AStep := [
  ⟨some 9, none, .op (.mov (.c (.i .i64 0)))⟩]
def weftref06_Forest_Join.r5 : List AStep := [
  ⟨some 27, none, .op (.mov (.t 9))⟩,
  ⟨some 28, none, .op (.mov (.t 0))⟩,
  ⟨some 29, none, .op (.len false (.t 28))⟩,
  ⟨some 30, none, .op (.bin .lss (.t 27) (.t 29))⟩]
def weftref06_Forest_Join.r6 : List AStep := [
  ⟨some 33, none, .op (.mov (.t 0))⟩,
  ⟨some 34, none, .op (.mov (.t 9))⟩,
  ⟨some 35, none, .op (.iad 1 (.t 33) (.t 34))⟩,
  ⟨some 36, none, .op (.load false 1 (.t 35))⟩,
  ⟨some 37, none, .op (.mov (.t 7))⟩,
  ⟨some 38, none, .op (.bin .eql (.t 36) (.t 37))⟩,
  ⟨some 39, none, .op (.mov (.t 38))⟩,
  ⟨some 40, (some (39, false)), .op (.mov (.t 0))⟩,
  ⟨some 41, (some (39, false)), .op (.mov (.t 9))⟩,
  ⟨some 42, (some (39, false)), .op (.iad 1 (.t 40) (.t 41))⟩,
  ⟨some 43, (some (39, false)), .op (.load false 1 (.t 42))⟩,
  ⟨some 44, (some (39, false)), .op (.mov (.t 8))⟩,
  ⟨some 45, (some (39, false)), .op (.bin .eql (.t 43) (.t 44))⟩,
  ⟨some 46, none, .op (.pick (.t 39) (.c (.b true)) (.t 45))⟩]
def weftref06_Forest_Join.r7 : List AStep := [
  ⟨some 47, none, .op (.mov (.t 0))⟩,
  ⟨some 48, none, .op (.mov (.t 9))⟩,
  ⟨some 49, none, .op (.mov (.t 7))⟩,
  ⟨some 50, none, .op (.mov (.t 8))⟩,
  ⟨some 51, none, .op (.mn [.t 49, .t 50])⟩,
  ⟨some 52, none, .op (.iad 1 (.t 47) (.t 48))⟩,
  ⟨none, none, .op (.store 1 (.t 52) (.t 51))⟩]
def weftref06_Forest_Join.r8 : List AStep := [
  ⟨some 31, none, .op (.mov (.t 9))⟩,
  ⟨some 32, none, .op (.bin .add (.t 31) (.c (.i .i64 1)))⟩,
  ⟨some 9, none, .op (.mov (.t 32))⟩]
/-- Loop 0 of (weft/weftref06.Forest).Join: live at its head: 0 f, 7 x, 8 y, 9 i -/
def weftref06_Forest_Join.l0 : ACode := .seq (.seq (.post [0, 7, 8, 9, 30] (.region weftref06_Forest_Join.r5)) (.post [0, 7, 8, 9] (.cond (.t 30) (.skip) (.exit 0)))) (.seq (.post [0, 7, 8, 9] (.block 1 (.seq (.post [0, 7, 8, 9, 46] (.region weftref06_Forest_Join.r6)) (.post [0, 7, 8, 9] (.cond (.t 46) (.post [0, 7, 8, 9] (.region weftref06_Forest_Join.r7)) (.skip)))))) (.post [0, 7, 8, 9] (.region weftref06_Forest_Join.r8)))
def weftref06_Forest_Join.r9 : List AStep := [
  ⟨some 6, none, .op (.mov (.c (.b true)))⟩]
/-- (weft/weftref06.Forest).Join (parameters: f, a, b) -/
def weftref06_Forest_Join : AFunc := ⟨53, [.t 6], .seq (.post [0, 1, 2] (.region weftref06_Forest_Join.r0)) (.seq (.post [0, 7, 8] (.region weftref06_Forest_Join.r1)) (.seq (.seq (.post [0, 7, 8, 26] (.region weftref06_Forest_Join.r2)) (.post [0, 7, 8] (.cond (.t 26) (.seq (.post [6] (.region weftref06_Forest_Join.r3)) (.ret)) (.skip)))) (.seq (.seq (.post [0, 7, 8, 9] (.region weftref06_Forest_Join.r4)) (.post [] (.block 0 (.loop weftref06_Forest_Join.l0)))) (.seq (.post [6] (.region weftref06_Forest_Join.r9)) (.ret)))))⟩
theorem weftref06_Forest_Join.ok : okFunc Try.prog Try.f22 weftref06_Forest_Join = true := by kernel_rfl
theorem weftref06_Forest_Join.at : Try.prog.funcs[n_weftref06_Forest_Join]? = some Try.f22 := Try.func22

def forest_Forest_Parts.r0 : List AStep := [
  ⟨some 2, none, .op (.mov (.c (.i .i64 0)))⟩]
def forest_Forest_Parts.r1 : List AStep := [
  ⟨some 3, none, .op (.mov (.t 0))⟩,
  ⟨some 4, none, .op (.eqk .ptr false (.t 3) (.c (.p none)))⟩]
def forest_Forest_Parts.r2 : List AStep := [
  ⟨some 2, none, .op (.mov (.c (.i .i64 0)))⟩]
def forest_Forest_Parts.r3 : List AStep := [
  ⟨some 5, none, .op (.mov (.t 0))⟩,
  ⟨some 6, none, .op (.nilc (.t 5))⟩,
  ⟨some 7, none, .op (.fadr 2 (.t 6))⟩,
  ⟨some 8, none, .op (.load false 1 (.t 7))⟩,
  ⟨some 2, none, .op (.mov (.t 8))⟩]
/-- (*weft/forest.Forest).Parts (parameters: f) -/
def forest_Forest_Parts : AFunc := ⟨9, [.t 2], .seq (.post [0] (.region forest_Forest_Parts.r0)) (.seq (.seq (.post [0, 4] (.region forest_Forest_Parts.r1)) (.post [0] (.cond (.t 4) (.seq (.post [2] (.region forest_Forest_Parts.r2)) (.ret)) (.skip)))) (.seq (.post [2] (.region forest_Forest_Parts.r3)) (.ret)))⟩
theorem forest_Forest_Parts.ok : okFunc Try.prog Try.f23 forest_Forest_Parts = true := by kernel_rfl
theorem forest_Forest_Parts.at : Try.prog.funcs[n_forest_Forest_Parts]? = some Try.f23 := Try.func23

def weftref06_Forest_Parts.r0 : List AStep := [
  ⟨some 2, none, .op (.mov (.c (.i .i64 0)))⟩]
def weftref06_Forest_Parts.r1 : List AStep := [
  ⟨some 3, none, .op (.mov (.c (.i .i64 0)))⟩]
def weftref06_Forest_Parts.r2 : List AStep := [
  ⟨some 4, none, .op (.mov (.c (.i .i64 0)))⟩]
def weftref06_Forest_Parts.r3 : List AStep := [
  ⟨some 5, none, .op (.mov (.t 4))⟩,
  ⟨some 6, none, .op (.mov (.t 0))⟩,
  ⟨some 7, none, .op (.len false (.t 6))⟩,
  ⟨some 8, none, .op (.bin .lss (.t 5) (.t 7))⟩]
def weftref06_Forest_Parts.r4 : List AStep := [
  ⟨some 11, none, .op (.mov (.t 0))⟩,
  ⟨some 12, none, .op (.mov (.t 4))⟩,
  ⟨some 13, none, .op (.iad 1 (.t 11) (.t 12))⟩,
  ⟨some 14, none, .op (.load false 1 (.t 13))⟩,
  ⟨some 15, none, .op (.mov (.t 4))⟩,
  ⟨some 16, none, .op (.bin .eql (.t 14) (.t 15))⟩]
def weftref06_Forest_Parts.r5 : List AStep := [
  ⟨some 17, none, .op (.mov (.t 3))⟩,
  ⟨some 18, none, .op (.bin .add (.t 17) (.c (.i .i64 1)))⟩,
  ⟨some 3, none, .op (.mov (.t 18))⟩]
def weftref06_Forest_Parts.r6 : List AStep := [
  ⟨some 9, none, .op (.mov (.t 4))⟩,
  ⟨some 10, none, .op (.bin .add (.t 9) (.c (.i .i64 1)))⟩,
  ⟨some 4, none, .op (.mov (.t 10))⟩]
/-- Loop 0 of (weft/weftref06.Forest).Parts: live at its head: 0 f, 3 n, 4 i -/
def weftref06_Forest_Parts.l0 : ACode := .seq (.seq (.post [0, 3, 4, 8] (.region weftref06_Forest_Parts.r3)) (.post [0, 3, 4] (.cond (.t 8) (.skip) (.exit 0)))) (.seq (.post [0, 3, 4] (.block 1 (.seq (.post [0, 3, 4, 16] (.region weftref06_Forest_Parts.r4)) (.post [0, 3, 4] (.cond (.t 16) (.post [0, 3, 4] (.region weftref06_Forest_Parts.r5)) (.skip)))))) (.post [0, 3, 4] (.region weftref06_Forest_Parts.r6)))
def weftref06_Forest_Parts.r7 : List AStep := [
  ⟨some 19, none, .op (.mov (.t 3))⟩,
  ⟨some 2, none, .op (.mov (.t 19))⟩]
/-- (weft/weftref06.Forest).Parts (parameters: f) -/
def weftref06_Forest_Parts : AFunc := ⟨20, [.t 2], .seq (.post [0] (.region weftref06_Forest_Parts.r0)) (.seq (.post [0, 3] (.region weftref06_Forest_Parts.r1)) (.seq (.seq (.post [0, 3, 4] (.region weftref06_Forest_Parts.r2)) (.post [3] (.block 0 (.loop weftref06_Forest_Parts.l0)))) (.seq (.post [2] (.region weftref06_Forest_Parts.r7)) (.ret))))⟩
theorem weftref06_Forest_Parts.ok : okFunc Try.prog Try.f24 weftref06_Forest_Parts = true := by kernel_rfl
theorem weftref06_Forest_Parts.at : Try.prog.funcs[n_weftref06_Forest_Parts]? = some Try.f24 := Try.func24

def forest_Forest_Members.r0 : List AStep := [
  ⟨some 4, none, .op (.mov (.c (.sl none 0 0)))⟩]
def forest_Forest_Members.r1 : List AStep := [
  ⟨some 12, none, .op (.mov (.t 0))⟩,
  ⟨some 13, none, .op (.mov (.t 1))⟩,
  ⟨some 14, none, .call n_forest_Forest_Find [.t 12, .t 13]⟩,
  ⟨some 5, none, .op (.mov (.t 14))⟩]
def forest_Forest_Members.r2 : List AStep := [
  ⟨some 15, none, .op (.mov (.t 5))⟩,
  ⟨some 16, none, .op (.bin .lss (.t 15) (.c (.i .i64 0)))⟩]
def forest_Forest_Members.r3 : List AStep := [
  ⟨some 4, none, .op (.mov (.c (.sl none 0 0)))⟩]
def forest_Forest_Members.r4 : List AStep := [
  ⟨some 17, none, .op (.mov (.t 0))⟩,
  ⟨some 18, none, .op (.nilc (.t 17))⟩,
  ⟨some 19, none, .op (.fadr 0 (.t 18))⟩,
  ⟨some 20, none, .op (.load false 1 (.t 19))⟩,
  ⟨some 21, none, .op (.len false (.t 20))⟩,
  ⟨some 22, none, .op (.mksl 1 1 [.b false] (.t 21) (.t 21))⟩,
  ⟨some 6, none, .op (.mov (.t 22))⟩]
def forest_Forest_Members.r5 : List AStep := [
  ⟨some 7, none, .op (.mov (.c (.i .i64 0)))⟩]
def forest_Forest_Members.r6 : List AStep := [
  ⟨some 23, none, .op (.mov (.t 5))⟩,
  ⟨some 8, none, .op (.mov (.t 23))⟩]
def forest_Forest_Members.r7 : List AStep := [
  ⟨some 24, none, .op (.mov (.t 6))⟩,
  ⟨some 25, none, .op (.mov (.t 8))⟩,
  ⟨some 26, none, .op (.iad 1 (.t 24) (.t 25))⟩,
  ⟨some 27, none, .op (.load false 1 (.t 26))⟩,
  ⟨some 28, none, .op (.un .not (.t 27))⟩]
def forest_Forest_Members.r8 : List AStep := [
  ⟨some 36, none, .op (.mov (.t 6))⟩,
  ⟨some 37, none, .op (.mov (.t 8))⟩,
  ⟨some 38, none, .op (.iad 1 (.t 36) (.t 37))⟩,
  ⟨none, none, .op (.store 1 (.t 38) (.c (.b true)))⟩]
def forest_Forest_Members.r9 : List AStep := [
  ⟨some 39, none, .op (.mov (.t 7))⟩,
  ⟨some 40, none, .op (.bin .add (.t 39) (.c (.i .i64 1)))⟩,
  ⟨some 7, none, .op (.mov (.t 40))⟩]
def forest_Forest_Members.r10 : List AStep := [
  ⟨some 29, none, .op (.mov (.t 0))⟩,
  ⟨some 30, none, .op (.nilc (.t 29))⟩,
  ⟨some 31, none, .op (.fadr 1 (.t 30))⟩,
  ⟨some 32, none, .op (.load false 1 (.t 31))⟩,
  ⟨some 33, none, .op (.mov (.t 8))⟩,
  ⟨some 34, none, .op (.iad 1 (.t 32) (.t 33))⟩,
  ⟨some 35, none, .op (.load false 1 (.t 34))⟩,
  ⟨some 8, none, .op (.mov (.t 35))⟩]
/-- Loop 0 of (*weft/forest.Forest).Members: live at its head: 0 f, 6 there, 7 count, 8 i -/
def forest_Forest_Members.l0 : ACode := .seq (.seq (.post [0, 6, 7, 8, 28] (.region forest_Forest_Members.r7)) (.post [0, 6, 7, 8] (.cond (.t 28) (.skip) (.exit 0)))) (.seq (.post [0, 6, 7, 8] (.block 1 (.seq (.post [0, 6, 7, 8] (.region forest_Forest_Members.r8)) (.post [0, 6, 7, 8] (.region forest_Forest_Members.r9))))) (.post [0, 6, 7, 8] (.region forest_Forest_Members.r10)))
def forest_Forest_Members.r11 : List AStep := [
  ⟨some 41, none, .op (.mov (.t 7))⟩,
  ⟨some 42, none, .op (.mksl 1 8 [.i .i64 0] (.c (.i .i64 0)) (.t 41))⟩,
  ⟨some 9, none, .op (.mov (.t 42))⟩]
def forest_Forest_Members.r12 : List AStep := [
  ⟨some 43, none, .op (.mov (.t 6))⟩,
  ⟨some 44, none, .op (.len false (.t 43))⟩,
  ⟨some 45, none, .op (.mov (.c (.i .i64 0)))⟩]
def forest_Forest_Members.r13 : List AStep := [
  ⟨some 46, none, .op (.bin .lss (.t 45) (.t 44))⟩]
def forest_Forest_Members.r14 : List AStep := [
  ⟨some 47, none, .op (.mov (.t 45))⟩,
  ⟨some 48, none, .op (.iad 1 (.t 43) (.t 45))⟩,
  ⟨some 49, none, .op (.load false 1 (.t 48))⟩,
  ⟨some 10, none, .op (.mov (.t 47))⟩,
  ⟨some 11, none, .op (.mov (.t 49))⟩]
def forest_Forest_Members.r15 : List AStep := [
  ⟨some 50, none, .op (.mov (.t 11))⟩]
def forest_Forest_Members.r16 : List AStep := [
  ⟨some 51, none, .op (.mov (.t 9))⟩,
  ⟨some 52, none, .op (.mov (.t 10))⟩,
  ⟨some 53, none, .op (.bfz 1 1 [.i .i64 0] [(0, 1, .t 52)])⟩,
  ⟨some 54, none, .op (.app 1 8 (.t 51) (.t 53))⟩,
  ⟨some 9, none, .op (.mov (.t 54))⟩]
def forest_Forest_Members.r17 : List AStep := [
  ⟨some 55, none, .op (.bin .add (.t 45) (.c (.i .i64 1)))⟩,
  ⟨some 45, none, .op (.mov (.t 55))⟩]
/-- Loop 1 of (*weft/forest.Forest).Members: live at its head: 9 l, 43 , 44 , 45  -/
def forest_Forest_Members.l1 : ACode := .seq (.post [9, 43, 44, 45, 46] (.region forest_Forest_Members.r13)) (.seq (.post [9, 43, 44, 45] (.cond (.t 46) (.skip) (.exit 2))) (.seq (.post [9, 43, 44, 45] (.block 3 (.seq (.post [9, 10, 11, 43, 44, 45] (.region forest_Forest_Members.r14)) (.seq (.post [9, 10, 43, 44, 45, 50] (.region forest_Forest_Members.r15)) (.post [9, 43, 44, 45] (.cond (.t 50) (.post [9, 43, 44, 45] (.region forest_Forest_Members.r16)) (.skip))))))) (.post [9, 43, 44, 45] (.region forest_Forest_Members.r17))))
def forest_Forest_Members.r18 : List AStep := [
  ⟨some 56, none, .op (.mov (.t 9))⟩,
  ⟨some 4, none, .op (.mov (.t 56))⟩]
/-- (*weft/forest.Forest).Members (parameters: f, n) -/
def forest_Forest_Members : AFunc := ⟨57, [.t 4], .seq (.post [0, 1] (.region forest_Forest_Members.r0)) (.seq (.post [0, 5] (.region forest_Forest_Members.r1)) (.seq (.seq (.post [0, 5, 16] (.region forest_Forest_Members.r2)) (.post [0, 5] (.cond (.t 16) (.seq (.post [4] (.region forest_Forest_Members.r3)) (.ret)) (.skip)))) (.seq (.post [0, 5, 6] (.region forest_Forest_Members.r4)) (.seq (.post [0, 5, 6, 7] (.region forest_Forest_Members.r5)) (.seq (.seq (.post [0, 6, 7, 8] (.region forest_Forest_Members.r6)) (.post [6, 7] (.block 0 (.loop forest_Forest_Members.l0)))) (.seq (.post [6, 9] (.region forest_Forest_Members.r11)) (.seq (.seq (.post [9, 43, 44, 45] (.region forest_Forest_Members.r12)) (.post [9] (.block 2 (.loop forest_Forest_Members.l1)))) (.seq (.post [4] (.region forest_Forest_Members.r18)) (.ret)))))))))⟩
theorem forest_Forest_Members.ok : okFunc Try.prog Try.f28 forest_Forest_Members = true := by kernel_rfl
theorem forest_Forest_Members.at : Try.prog.funcs[n_forest_Forest_Members]? = some Try.f28 := Try.func28

def weftref06_Forest_Members.r0 : List AStep := [
  ⟨some 4, none, .op (.mov (.c (.sl none 0 0)))⟩]
def weftref06_Forest_Members.r1 : List AStep := [
  ⟨some 5, none, .op (.mov (.c (.sl none 0 0)))⟩]
def weftref06_Forest_Members.r2 : List AStep := [
  ⟨some 6, none, .op (.mov (.c (.i .i64 0)))⟩]
def weftref06_Forest_Members.r3 : List AStep := [
  ⟨some 7, none, .op (.mov (.t 6))⟩,
  ⟨some 8, none, .op (.mov (.t 0))⟩,
  ⟨some 9, none, .op (.len false (.t 8))⟩,
  ⟨some 10, none, .op (.bin .lss (.t 7) (.t 9))⟩]
def weftref06_Forest_Members.r4 : List AStep := [
  ⟨some 13, none, .op (.mov (.t 0))⟩,
  ⟨some 14, none, .op (.mov (.t 6))⟩,
  ⟨some 15, none, .op (.iad 1 (.t 13) (.t 14))⟩,
  ⟨some 16, none, .op (.load false 1 (.t 15))⟩,
  ⟨some 17, none, .op (.mov (.t 0))⟩,
  ⟨some 18, none, .op (.mov (.t 1))⟩,
  ⟨some 19, none, .call n_weftref06_Forest_Find [.t 17, .t 18]⟩,
  ⟨some 20, none, .op (.bin .eql (.t 16) (.t 19))⟩]
def weftref06_Forest_Members.r5 : List AStep := [
  ⟨some 21, none, .op (.mov (.t 5))⟩,
  ⟨some 22, none, .op (.mov (.t 6))⟩,
  ⟨some 23, none, .op (.bfz 1 1 [.i .i64 0] [(0, 1, .t 22)])⟩,
  ⟨some 24, none, .op (.app 1 8 (.t 21) (.t 23))⟩,
  ⟨some 5, none, .op (.mov (.t 24))⟩]
def weftref06_Forest_Members.r6 : List AStep := [
  ⟨some 11, none, .op (.mov (.t 6))⟩,
  ⟨some 12, none, .op (.bin .add (.t 11) (.c (.i .i64 1)))⟩,
  ⟨some 6, none, .op (.mov (.t 12))⟩]
/-- Loop 0 of (weft/weftref06.Forest).Members: live at its head: 0 f, 1 n, 5 l, 6 i -/
def weftref06_Forest_Members.l0 : ACode := .seq (.seq (.post [0, 1, 5, 6, 10] (.region weftref06_Forest_Members.r3)) (.post [0, 1, 5, 6] (.cond (.t 10) (.skip) (.exit 0)))) (.seq (.post [0, 1, 5, 6] (.block 1 (.seq (.post [0, 1, 5, 6, 20] (.draw [0, 0, 3, 7, 0, 0, 48, 127] weftref06_Forest_Members.r4)) (.post [0, 1, 5, 6] (.cond (.t 20) (.post [0, 1, 5, 6] (.region weftref06_Forest_Members.r5)) (.skip)))))) (.post [0, 1, 5, 6] (.region weftref06_Forest_Members.r6)))
def weftref06_Forest_Members.r7 : List AStep := [
  ⟨some 25, none, .op (.mov (.t 5))⟩,
  ⟨some 4, none, .op (.mov (.t 25))⟩]
/-- (weft/weftref06.Forest).Members (parameters: f, n) -/
def weftref06_Forest_Members : AFunc := ⟨26, [.t 4], .seq (.post [0, 1] (.region weftref06_Forest_Members.r0)) (.seq (.post [0, 1, 5] (.region weftref06_Forest_Members.r1)) (.seq (.seq (.post [0, 1, 5, 6] (.region weftref06_Forest_Members.r2)) (.post [5] (.block 0 (.loop weftref06_Forest_Members.l0)))) (.seq (.post [4] (.region weftref06_Forest_Members.r7)) (.ret))))⟩
theorem weftref06_Forest_Members.ok : okFunc Try.prog Try.f29 weftref06_Forest_Members = true := by kernel_rfl
theorem weftref06_Forest_Members.at : Try.prog.funcs[n_weftref06_Forest_Members]? = some Try.f29 := Try.func29

def weftref06_SameInts.r0 : List AStep := [
  ⟨some 4, none, .op (.mov (.c (.b false)))⟩]
def weftref06_SameInts.r1 : List AStep := [
  ⟨some 6, none, .op (.mov (.t 0))⟩,
  ⟨some 7, none, .op (.len false (.t 6))⟩,
  ⟨some 8, none, .op (.mov (.t 1))⟩,
  ⟨some 9, none, .op (.len false (.t 8))⟩,
  ⟨some 10, none, .op (.bin .neq (.t 7) (.t 9))⟩]
def weftref06_SameInts.r2 : List AStep := [
  ⟨some 4, none, .op (.mov (.c (.b false)))⟩]
def weftref06_SameInts.r3 : List AStep := [
  ⟨some 5, none, .op (.mov (.c (.i .i64 0)))⟩]
def weftref06_SameInts.r4 : List AStep := [
  ⟨some 11, none, .op (.mov (.t 5))⟩,
  ⟨some 12, none, .op (.mov (.t 0))⟩,
  ⟨some 13, none, .op (.len false (.t 12))⟩,
  ⟨some 14, none, .op (.bin .lss (.t 11) (.t 13))⟩,
  ⟨some 15, none, .op (.mov (.t 14))⟩,
  ⟨some 16, (some (15, true)), .op (.mov (.t 5))⟩,
  ⟨some 17, (some (15, true)), .op (.mov (.t 1))⟩,
  ⟨some 18, (some (15, true)), .op (.len false (.t 17))⟩,
  ⟨some 19, (some (15, true)), .op (.bin .lss (.t 16) (.t 18))⟩,
  ⟨some 20, none, .op (.pick (.t 15) (.t 19) (.c (.b false)))⟩]
def weftref06_SameInts.r5 : List AStep := [
  ⟨some 23, none, .op (.mov (.t 0))⟩,
  ⟨some 24, none, .op (.mov (.t 5))⟩,
  ⟨some 25, none, .op (.iad 1 (.t 23) (.t 24))⟩,
  ⟨some 26, none, .op (.load false 1 (.t 25))⟩,
  ⟨some 27, none, .op (.mov (.t 1))⟩,
  ⟨some 28, none, .op (.mov (.t 5))⟩,
  ⟨some 29, none, .op (.iad 1 (.t 27) (.t 28))⟩,
  ⟨some 30, none, .op (.load false 1 (.t 29))⟩,
  ⟨some 31, none, .op (.bin .neq (.t 26) (.t 30))⟩]
def weftref06_SameInts.r6 : List AStep := [
  ⟨some 4, none, .op (.mov (.c (.b false)))⟩]
def weftref06_SameInts.r7 : List AStep := [
  ⟨some 21, none, .op (.mov (.t 5))⟩,
  ⟨some 22, none, .op (.bin .add (.t 21) (.c (.i .i64 1)))⟩,
  ⟨some 5, none, .op (.mov (.t 22))⟩]
/-- Loop 0 of weft/weftref06.SameInts: live at its head: 0 a, 1 b, 5 i -/
def weftref06_SameInts.l0 : ACode := .seq (.seq (.post [0, 1, 5, 20] (.region weftref06_SameInts.r4)) (.post [0, 1, 5] (.cond (.t 20) (.skip) (.exit 0)))) (.seq (.post [0, 1, 5] (.block 1 (.seq (.post [0, 1, 5, 31] (.draw [0, 0, 3, 7, 0, 0, 48, 112, 255] weftref06_SameInts.r5)) (.post [0, 1, 5] (.cond (.t 31) (.seq (.post [4] (.region weftref06_SameInts.r6)) (.ret)) (.skip)))))) (.post [0, 1, 5] (.region weftref06_SameInts.r7)))
def weftref06_SameInts.r8 : List AStep := [
  ⟨some 4, none, .op (.mov (.c (.b true)))⟩]
/-- weft/weftref06.SameInts (parameters: a, b) -/
def weftref06_SameInts : AFunc := ⟨32, [.t 4], .seq (.post [0, 1] (.region weftref06_SameInts.r0)) (.seq (.seq (.post [0, 1, 10] (.region weftref06_SameInts.r1)) (.post [0, 1] (.cond (.t 10) (.seq (.post [4] (.region weftref06_SameInts.r2)) (.ret)) (.skip)))) (.seq (.seq (.post [0, 1, 5] (.region weftref06_SameInts.r3)) (.post [] (.block 0 (.loop weftref06_SameInts.l0)))) (.seq (.post [4] (.region weftref06_SameInts.r8)) (.ret))))⟩
theorem weftref06_SameInts.ok : okFunc Try.prog Try.f27 weftref06_SameInts = true := by kernel_rfl
theorem weftref06_SameInts.at : Try.prog.funcs[n_weftref06_SameInts]? = some Try.f27 := Try.func27

def weftlaw06_ForestDoes.r0 : List AStep := [
  ⟨some 6, none, .op (.mov (.c (.b false)))⟩]
def weftlaw06_ForestDoes.r1 : List AStep := [
  ⟨some 10, none, .op (.mov (.t 0))⟩,
  ⟨some 11, none, .op (.bin .gtr (.t 10) (.c (.i .i64 200)))⟩,
  ⟨some 12, none, .op (.mov (.t 11))⟩,
  ⟨some 13, (some (12, true)), .op (.mov (.t 0))⟩,
  ⟨some 14, (some (12, true)), .op (.bin .leq (.t 13) (.c (.i .i64 100000)))⟩,
  ⟨some 15, none, .op (.pick (.t 12) (.t 14) (.c (.b false)))⟩,
  ⟨some 16, none, .op (.mov (.t 15))⟩,
  ⟨some 17, (some (16, false)), .op (.mov (.t 1))⟩,
  ⟨some 18, (some (16, false)), .op (.len false (.t 17))⟩,
  ⟨some 19, (some (16, false)), .op (.bin .gtr (.t 18) (.c (.i .i64 100)))⟩,
  ⟨some 20, none, .op (.pick (.t 16) (.c (.b true)) (.t 19))⟩]
def weftlaw06_ForestDoes.r2 : List AStep := [
  ⟨some 6, none, .op (.mov (.c (.b true)))⟩]
def weftlaw06_ForestDoes.r3 : List AStep := [
  ⟨some 21, none, .op (.mov (.t 0))⟩,
  ⟨some 22, none, .call n_forest_New [.t 21]⟩,
  ⟨some 7, none, .op (.mov (.t 22))⟩]
def weftlaw06_ForestDoes.r4 : List AStep := [
  ⟨some 23, none, .op (.mov (.t 0))⟩,
  ⟨some 24, none, .call n_weftref06_New [.t 23]⟩,
  ⟨some 8, none, .op (.mov (.t 24))⟩]
def weftlaw06_ForestDoes.r5 : List AStep := [
  ⟨some 25, none, .op (.mov (.t 7))⟩,
  ⟨some 26, none, .op (.eqk .ptr false (.t 25) (.c (.p none)))⟩]
def weftlaw06_ForestDoes.r6 : List AStep := [
  ⟨some 6, none, .op (.mov (.c (.b false)))⟩]
def weftlaw06_ForestDoes.r7 : List AStep := [
  ⟨some 9, none, .op (.mov (.c (.i .i64 0)))⟩]
def weftlaw06_ForestDoes.r8 : List AStep := [
  ⟨some 27, none, .op (.mov (.t 9))⟩,
  ⟨some 28, none, .op (.mov (.t 1))⟩,
  ⟨some 29, none, .op (.len false (.t 28))⟩,
  ⟨some 30, none, .op (.bin .lss (.t 27) (.t 29))⟩]
def weftlaw06_ForestDoes.r9 : List AStep := [
  ⟨some 33, none, .op (.mov (.t 7))⟩,
  ⟨some 34, none, .op (.mov (.t 1))⟩,
  ⟨some 35, none, .op (.mov (.t 9))⟩,
  ⟨some 36, none, .op (.iad 2 (.t 34) (.t 35))⟩,
  ⟨some 37, none, .op (.iadA 2 1 (.t 36) (.c (.i .i64 0)))⟩,
  ⟨some 38, none, .op (.load false 1 (.t 37))⟩,
  ⟨some 39, none, .op (.mov (.t 1))⟩,
  ⟨some 40, none, .op (.mov (.t 9))⟩,
  ⟨some 41, none, .op (.iad 2 (.t 39) (.t 40))⟩,
  ⟨some 42, none, .op (.iadA 2 1 (.t 41) (.c (.i .i64 1)))⟩,
  ⟨some 43, none, .op (.load false 1 (.t 42))⟩,
  ⟨some 44, none, .call n_forest_Forest_Join [.t 33, .t 38, .t 43]⟩,
  ⟨some 45, none, .op (.mov (.t 8))⟩,
  ⟨some 46, none, .op (.mov (.t 1))⟩,
  ⟨some 47, none, .op (.mov (.t 9))⟩,
  ⟨some 48, none, .op (.iad 2 (.t 46) (.t 47))⟩,
  ⟨some 49, none, .op (.iadA 2 1 (.t 48) (.c (.i .i64 0)))⟩,
  ⟨some 50, none, .op (.load false 1 (.t 49))⟩,
  ⟨some 51, none, .op (.mov (.t 1))⟩,
  ⟨some 52, none, .op (.mov (.t 9))⟩,
  ⟨some 53, none, .op (.iad 2 (.t 51) (.t 52))⟩,
  ⟨some 54, none, .op (.iadA 2 1 (.t 53) (.c (.i .i64 1)))⟩,
  ⟨some 55, none, .op (.load false 1 (.t 54))⟩,
  ⟨some 56, none, .call n_weftref06_Forest_Join [.t 45, .t 50, .t 55]⟩,
  ⟨some 57, none, .op (.eqk .bool true (.t 44) (.t 56))⟩,
  ⟨some 58, none, .op (.mov (.t 57))⟩,
  ⟨some 59, (some (58, false)), .op (.mov (.t 7))⟩,
  ⟨some 60, (some (58, false)), .call n_forest_Forest_Parts [.t 59]⟩,
  ⟨some 61, (some (58, false)), .op (.mov (.t 8))⟩,
  ⟨some 62, (some (58, false)), .call n_weftref06_Forest_Parts [.t 61]⟩,
  ⟨some 63, (some (58, false)), .op (.bin .neq (.t 60) (.t 62))⟩,
  ⟨some 64, none, .op (.pick (.t 58) (.c (.b true)) (.t 63))⟩,
  ⟨some 65, none, .op (.mov (.t 64))⟩,
  ⟨some 66, (some (65, false)), .op (.mov (.t 7))⟩,
  ⟨some 67, (some (65, false)), .op (.mov (.t 1))⟩,
  ⟨some 68, (some (65, false)), .op (.mov (.t 9))⟩,
  ⟨some 69, (some (65, false)), .op (.iad 2 (.t 67) (.t 68))⟩,
  ⟨some 70, (some (65, false)), .op (.iadA 2 1 (.t 69) (.c (.i .i64 0)))⟩,
  ⟨some 71, (some (65, false)), .op (.load false 1 (.t 70))⟩,
  ⟨some 72, (some (65, false)), .call n_forest_Forest_Find [.t 66, .t 71]⟩,
  ⟨some 73, (some (65, false)), .op (.mov (.t 8))⟩,
  ⟨some 74, (some (65, false)), .op (.mov (.t 1))⟩,
  ⟨some 75, (some (65, false)), .op (.mov (.t 9))⟩,
  ⟨some 76, (some (65, false)), .op (.iad 2 (.t 74) (.t 75))⟩,
  ⟨some 77, (some (65, false)), .op (.iadA 2 1 (.t 76) (.c (.i .i64 0)))⟩,
  ⟨some 78, (some (65, false)), .op (.load false 1 (.t 77))⟩,
  ⟨some 79, (some (65, false)), .call n_weftref06_Forest_Find [.t 73, .t 78]⟩,
  ⟨some 80, (some (65, false)), .op (.bin .neq (.t 72) (.t 79))⟩,
  ⟨some 81, none, .op (.pick (.t 65) (.c (.b true)) (.t 80))⟩,
  ⟨some 82, none, .op (.mov (.t 81))⟩,
  ⟨some 83, (some (82, false)), .op (.mov (.t 7))⟩,
  ⟨some 84, (some (82, false)), .op (.mov (.t 1))⟩,
  ⟨some 85, (some (82, false)), .op (.mov (.t 9))⟩,
  ⟨some 86, (some (82, false)), .op (.iad 2 (.t 84) (.t 85))⟩,
  ⟨some 87, (some (82, false)), .op (.iadA 2 1 (.t 86) (.c (.i .i64 1)))⟩,
  ⟨some 88, (some (82, false)), .op (.load false 1 (.t 87))⟩,
  ⟨some 89, (some (82, false)), .call n_forest_Forest_Members [.t 83, .t 88]⟩,
  ⟨some 90, (some (82, false)), .op (.mov (.t 8))⟩,
  ⟨some 91, (some (82, false)), .op (.mov (.t 1))⟩,
  ⟨some 92, (some (82, false)), .op (.mov (.t 9))⟩,
  ⟨some 93, (some (82, false)), .op (.iad 2 (.t 91) (.t 92))⟩,
  ⟨some 94, (some (82, false)), .op (.iadA 2 1 (.t 93) (.c (.i .i64 1)))⟩,
  ⟨some 95, (some (82, false)), .op (.load false 1 (.t 94))⟩,
  ⟨some 96, (some (82, false)), .call n_weftref06_Forest_Members [.t 90, .t 95]⟩,
  ⟨some 97, (some (82, false)), .call n_weftref06_SameInts [.t 89, .t 96]⟩,
  ⟨some 98, (some (82, false)), .op (.un .not (.t 97))⟩,
  ⟨some 99, none, .op (.pick (.t 82) (.c (.b true)) (.t 98))⟩]
def weftlaw06_ForestDoes.r10 : List AStep := [
  ⟨some 6, none, .op (.mov (.c (.b false)))⟩]
def weftlaw06_ForestDoes.r11 : List AStep := [
  ⟨some 31, none, .op (.mov (.t 9))⟩,
  ⟨some 32, none, .op (.bin .add (.t 31) (.c (.i .i64 1)))⟩,
  ⟨some 9, none, .op (.mov (.t 32))⟩]
/-- Loop 0 of weft/weftlaw06.ForestDoes: live at its head: 1 l, 2 ask, 7 f, 8 r, 9 i -/
def weftlaw06_ForestDoes.l0 : ACode := .seq (.seq (.post [1, 2, 7, 8, 9, 30] (.region weftlaw06_ForestDoes.r8)) (.post [1, 2, 7, 8, 9] (.cond (.t 30) (.skip) (.exit 0)))) (.seq (.post [1, 2, 7, 8, 9] (.block 1 (.seq (.post [1, 2, 7, 8, 9, 99] (.draw [0, 0, 0, 6, 14, 30, 0, 0, 192, 448, 960, 2047, 0, 0, 0, 24576, 57344, 122880, 0, 0, 786432, 1835008, 3932160, 8388607, 16777215, 33554431, 67108863, 134217727, 67108863, 536870911, 1073741823, 2147483647, 4294967295, 8589934591, 8589934591, 8589934591, 60129542143, 128849018879, 266287972351, 549755813887, 8589934591, 8589934591, 8589934591, 6605659701247, 15401752723455, 32993938767871, 70368744177663, 140737488355327, 281474976710655, 562949953421311, 1125899906842623, 1125899906842623, 1125899906842623, 7881299347898367, 16888498602639359, 34902897112121343, 72057594037927935, 1125899906842623, 1125899906842623, 1125899906842623, 865817028361977855, 2018738532968824831, 4324581542182518783, 9223372036854775807, 18446744073709551615, 36893488147419103231, 73786976294838206463] weftlaw06_ForestDoes.r9)) (.post [1, 2, 7, 8, 9] (.cond (.t 99) (.seq (.post [6] (.region weftlaw06_ForestDoes.r10)) (.ret)) (.skip)))))) (.post [1, 2, 7, 8, 9] (.region weftlaw06_ForestDoes.r11)))
def weftlaw06_ForestDoes.r12 : List AStep := [
  ⟨some 100, none, .op (.mov (.t 7))⟩,
  ⟨some 101, none, .op (.mov (.t 2))⟩,
  ⟨some 102, none, .call n_forest_Forest_Find [.t 100, .t 101]⟩,
  ⟨some 103, none, .op (.mov (.t 8))⟩,
  ⟨some 104, none, .op (.mov (.t 2))⟩,
  ⟨some 105, none, .call n_weftref06_Forest_Find [.t 103, .t 104]⟩,
  ⟨some 106, none, .op (.bin .eql (.t 102) (.t 105))⟩,
  ⟨some 107, none, .op (.mov (.t 106))⟩,
  ⟨some 108, (some (107, true)), .op (.mov (.t 7))⟩,
  ⟨some 109, (some (107, true)), .op (.mov (.t 2))⟩,
  ⟨some 110, (some (107, true)), .call n_forest_Forest_Members [.t 108, .t 109]⟩,
  ⟨some 111, (some (107, true)), .op (.mov (.t 8))⟩,
  ⟨some 112, (some (107, true)), .op (.mov (.t 2))⟩,
  ⟨some 113, (some (107, true)), .call n_weftref06_Forest_Members [.t 111, .t 112]⟩,
  ⟨some 114, (some (107, true)), .call n_weftref06_SameInts [.t 110, .t 113]⟩,
  ⟨some 115, none, .op (.pick (.t 107) (.t 114) (.c (.b false)))⟩,
  ⟨some 116, none, .op (.mov (.t 115))⟩,
  ⟨some 117, (some (116, true)), .op (.mov (.t 7))⟩,
  ⟨some 118, (some (116, true)), .call n_forest_Forest_Parts [.t 117]⟩,
  ⟨some 119, (some (116, true)), .op (.mov (.t 8))⟩,
  ⟨some 120, (some (116, true)), .call n_weftref06_Forest_Parts [.t 119]⟩,
  ⟨some 121, (some (116, true)), .op (.bin .eql (.t 118) (.t 120))⟩,
  ⟨some 122, none, .op (.pick (.t 116) (.t 121) (.c (.b false)))⟩,
  ⟨some 6, none, .op (.mov (.t 122))⟩]
/-- weft/weftlaw06.ForestDoes (parameters: n, l, ask) -/
def weftlaw06_ForestDoes : AFunc := ⟨123, [.t 6], .seq (.post [0, 1, 2] (.region weftlaw06_ForestDoes.r0)) (.seq (.seq (.post [0, 1, 2, 20] (.region weftlaw06_ForestDoes.r1)) (.post [0, 1, 2] (.cond (.t 20) (.seq (.post [6] (.region weftlaw06_ForestDoes.r2)) (.ret)) (.skip)))) (.seq (.post [0, 1, 2, 7] (.region weftlaw06_ForestDoes.r3)) (.seq (.post [1, 2, 7, 8] (.region weftlaw06_ForestDoes.r4)) (.seq (.seq (.post [1, 2, 7, 8, 26] (.region weftlaw06_ForestDoes.r5)) (.post [1, 2, 7, 8] (.cond (.t 26) (.seq (.post [6] (.region weftlaw06_ForestDoes.r6)) (.ret)) (.skip)))) (.seq (.seq (.post [1, 2, 7, 8, 9] (.region weftlaw06_ForestDoes.r7)) (.post [2, 7, 8] (.block 0 (.loop weftlaw06_ForestDoes.l0)))) (.seq (.post [6] (.region weftlaw06_ForestDoes.r12)) (.ret)))))))⟩
theorem weftlaw06_ForestDoes.ok : okFunc Try.prog Try.f7 weftlaw06_ForestDoes = true := by kernel_rfl
theorem weftlaw06_ForestDoes.at : Try.prog.funcs[n_weftlaw06_ForestDoes]? = some Try.f7 := Try.func7

def weftlaw06_works.r0 : List AStep := [
  ⟨some 0, none, .op (.mov (.c (.b false)))⟩]
def weftlaw06_works.r1 : List AStep := [
  ⟨some 2, none, .call n_forest_New [.c (.i .i64 4)]⟩,
  ⟨some 1, none, .op (.mov (.t 2))⟩]
def weftlaw06_works.r2 : List AStep := [
  ⟨some 3, none, .op (.mov (.t 1))⟩,
  ⟨some 4, none, .op (.eqk .ptr true (.t 3) (.c (.p none)))⟩,
  ⟨some 5, none, .op (.mov (.t 4))⟩,
  ⟨some 6, (some (5, true)), .op (.mov (.t 1))⟩,
  ⟨some 7, (some (5, true)), .call n_forest_Forest_Join [.t 6, .c (.i .i64 3), .c (.i .i64 1)]⟩,
  ⟨some 8, none, .op (.pick (.t 5) (.t 7) (.c (.b false)))⟩,
  ⟨some 9, none, .op (.mov (.t 8))⟩,
  ⟨some 10, (some (9, true)), .op (.mov (.t 1))⟩,
  ⟨some 11, (some (9, true)), .call n_forest_Forest_Join [.t 10, .c (.i .i64 1), .c (.i .i64 2)]⟩,
  ⟨some 12, none, .op (.pick (.t 9) (.t 11) (.c (.b false)))⟩,
  ⟨some 13, none, .op (.mov (.t 12))⟩,
  ⟨some 14, (some (13, true)), .op (.mov (.t 1))⟩,
  ⟨some 15, (some (13, true)), .call n_forest_Forest_Find [.t 14, .c (.i .i64 3)]⟩,
  ⟨some 16, (some (13, true)), .op (.bin .eql (.t 15) (.c (.i .i64 1)))⟩,
  ⟨some 17, none, .op (.pick (.t 13) (.t 16) (.c (.b false)))⟩,
  ⟨some 18, none, .op (.mov (.t 17))⟩,
  ⟨some 19, (some (18, true)), .op (.mov (.t 1))⟩,
  ⟨some 20, (some (18, true)), .call n_forest_Forest_Parts [.t 19]⟩,
  ⟨some 21, (some (18, true)), .op (.bin .eql (.t 20) (.c (.i .i64 2)))⟩,
  ⟨some 22, none, .op (.pick (.t 18) (.t 21) (.c (.b false)))⟩,
  ⟨some 23, none, .op (.mov (.t 22))⟩,
  ⟨some 24, (some (23, true)), .op (.mov (.t 1))⟩,
  ⟨some 25, (some (23, true)), .call n_forest_Forest_Members [.t 24, .c (.i .i64 2)]⟩,
  ⟨some 26, (some (23, true)), .op (.len false (.t 25))⟩,
  ⟨some 27, (some (23, true)), .op (.bin .eql (.t 26) (.c (.i .i64 3)))⟩,
  ⟨some 28, none, .op (.pick (.t 23) (.t 27) (.c (.b false)))⟩,
  ⟨some 0, none, .op (.mov (.t 28))⟩]
/-- weft/weftlaw06.works (parameters: ) -/
def weftlaw06_works : AFunc := ⟨29, [.t 0], .seq (.post [] (.region weftlaw06_works.r0)) (.seq (.post [1] (.region weftlaw06_works.r1)) (.seq (.post [0] (.region weftlaw06_works.r2)) (.ret)))⟩
theorem weftlaw06_works.ok : okFunc Try.prog Try.f30 weftlaw06_works = true := by kernel_rfl
theorem weftlaw06_works.at : Try.prog.funcs[n_weftlaw06_works]? = some Try.f30 := Try.func30

def weftlaw06_ForestNil.r0 : List AStep := [
  ⟨some 4, none, .op (.mov (.c (.b false)))⟩]
def weftlaw06_ForestNil.r1 : List AStep := [
  ⟨some 5, none, .op (.mov (.c (.p none)))⟩]
def weftlaw06_ForestNil.r2 : List AStep := [
  ⟨some 6, none, .op (.mov (.t 5))⟩,
  ⟨some 7, none, .op (.mov (.t 0))⟩,
  ⟨some 8, none, .call n_forest_Forest_Find [.t 6, .t 7]⟩,
  ⟨some 9, none, .op (.bin .eql (.t 8) (.c (.i .i64 (-1))))⟩,
  ⟨some 10, none, .op (.mov (.t 9))⟩,
  ⟨some 11, (some (10, true)), .op (.mov (.t 5))⟩,
  ⟨some 12, (some (10, true)), .op (.mov (.t 0))⟩,
  ⟨some 13, (some (10, true)), .op (.mov (.t 1))⟩,
  ⟨some 14, (some (10, true)), .call n_forest_Forest_Join [.t 11, .t 12, .t 13]⟩,
  ⟨some 15, (some (10, true)), .op (.un .not (.t 14))⟩,
  ⟨some 16, none, .op (.pick (.t 10) (.t 15) (.c (.b false)))⟩,
  ⟨some 17, none, .op (.mov (.t 16))⟩,
  ⟨some 18, (some (17, true)), .op (.mov (.t 5))⟩,
  ⟨some 19, (some (17, true)), .op (.mov (.t 0))⟩,
  ⟨some 20, (some (17, true)), .call n_forest_Forest_Members [.t 18, .t 19]⟩,
  ⟨some 21, (some (17, true)), .op (.len false (.t 20))⟩,
  ⟨some 22, (some (17, true)), .op (.bin .eql (.t 21) (.c (.i .i64 0)))⟩,
  ⟨some 23, none, .op (.pick (.t 17) (.t 22) (.c (.b false)))⟩,
  ⟨some 24, none, .op (.mov (.t 23))⟩,
  ⟨some 25, (some (24, true)), .op (.mov (.t 5))⟩,
  ⟨some 26, (some (24, true)), .call n_forest_Forest_Parts [.t 25]⟩,
  ⟨some 27, (some (24, true)), .op (.bin .eql (.t 26) (.c (.i .i64 0)))⟩,
  ⟨some 28, none, .op (.pick (.t 24) (.t 27) (.c (.b false)))⟩,
  ⟨some 29, none, .op (.mov (.t 28))⟩,
  ⟨some 30, (some (29, true)), .call n_weftlaw06_works []⟩,
  ⟨some 31, none, .op (.pick (.t 29) (.t 30) (.c (.b false)))⟩,
  ⟨some 4, none, .op (.mov (.t 31))⟩]
/-- weft/weftlaw06.ForestNil (parameters: a, b) -/
def weftlaw06_ForestNil : AFunc := ⟨32, [.t 4], .seq (.post [0, 1] (.region weftlaw06_ForestNil.r0)) (.seq (.post [0, 1, 5] (.region weftlaw06_ForestNil.r1)) (.seq (.post [4] (.region weftlaw06_ForestNil.r2)) (.ret)))⟩
theorem weftlaw06_ForestNil.ok : okFunc Try.prog Try.f8 weftlaw06_ForestNil = true := by kernel_rfl
theorem weftlaw06_ForestNil.at : Try.prog.funcs[n_weftlaw06_ForestNil]? = some Try.f8 := Try.func8

def weftlaw06_ForestOrder.r0 : List AStep := [
  ⟨some 4, none, .op (.mov (.c (.b false)))⟩]
def weftlaw06_ForestOrder.r1 : List AStep := [
  ⟨some 11, none, .call n_weftlaw06_works []⟩,
  ⟨some 12, none, .op (.un .not (.t 11))⟩]
def weftlaw06_ForestOrder.r2 : List AStep := [
  ⟨some 4, none, .op (.mov (.c (.b false)))⟩]
def weftlaw06_ForestOrder.r3 : List AStep := [
  ⟨some 13, none, .op (.mov (.t 1))⟩,
  ⟨some 14, none, .op (.len false (.t 13))⟩,
  ⟨some 15, none, .op (.bin .gtr (.t 14) (.c (.i .i64 100)))⟩]
def weftlaw06_ForestOrder.r4 : List AStep := [
  ⟨some 4, none, .op (.mov (.c (.b true)))⟩]
def weftlaw06_ForestOrder.r5 : List AStep := [
  ⟨some 16, none, .op (.mov (.t 0))⟩,
  ⟨some 17, none, .op (.conv .u64 (.t 16))⟩,
  ⟨some 18, none, .op (.bin .rem (.t 17) (.c (.i .u64 60)))⟩,
  ⟨some 19, none, .op (.conv .i64 (.t 18))⟩,
  ⟨some 0, none, .op (.mov (.t 19))⟩]
def weftlaw06_ForestOrder.r6 : List AStep := [
  ⟨some 20, none, .op (.mov (.t 0))⟩,
  ⟨some 21, none, .call n_forest_New [.t 20]⟩,
  ⟨some 22, none, .op (.mov (.t 0))⟩,
  ⟨some 23, none, .call n_forest_New [.t 22]⟩,
  ⟨some 5, none, .op (.mov (.t 21))⟩,
  ⟨some 6, none, .op (.mov (.t 23))⟩]
def weftlaw06_ForestOrder.r7 : List AStep := [
  ⟨some 24, none, .op (.mov (.t 5))⟩,
  ⟨some 25, none, .op (.eqk .ptr false (.t 24) (.c (.p none)))⟩,
  ⟨some 26, none, .op (.mov (.t 25))⟩,
  ⟨some 27, (some (26, false)), .op (.mov (.t 6))⟩,
  ⟨some 28, (some (26, false)), .op (.eqk .ptr false (.t 27) (.c (.p none)))⟩,
  ⟨some 29, none, .op (.pick (.t 26) (.c (.b true)) (.t 28))⟩]
def weftlaw06_ForestOrder.r8 : List AStep := [
  ⟨some 4, none, .op (.mov (.c (.b false)))⟩]
def weftlaw06_ForestOrder.r9 : List AStep := [
  ⟨some 7, none, .op (.mov (.c (.i .i64 0)))⟩]
def weftlaw06_ForestOrder.r10 : List AStep := [
  ⟨some 8, none, .op (.mov (.c (.i .i64 0)))⟩]
def weftlaw06_ForestOrder.r11 : List AStep := [
  ⟨some 30, none, .op (.mov (.t 8))⟩,
  ⟨some 31, none, .op (.mov (.t 1))⟩,
  ⟨some 32, none, .op (.len false (.t 31))⟩,
  ⟨some 33, none, .op (.bin .lss (.t 30) (.t 32))⟩]
def weftlaw06_ForestOrder.r12 : List AStep := [
  ⟨some 36, none, .op (.mov (.t 5))⟩,
  ⟨some 37, none, .op (.mov (.t 1))⟩,
  ⟨some 38, none, .op (.mov (.t 8))⟩,
  ⟨some 39, none, .op (.iad 2 (.t 37) (.t 38))⟩,
  ⟨some 40, none, .op (.iadA 2 1 (.t 39) (.c (.i .i64 0)))⟩,
  ⟨some 41, none, .op (.load false 1 (.t 40))⟩,
  ⟨some 42, none, .op (.mov (.t 1))⟩,
  ⟨some 43, none, .op (.mov (.t 8))⟩,
  ⟨some 44, none, .op (.iad 2 (.t 42) (.t 43))⟩,
  ⟨some 45, none, .op (.iadA 2 1 (.t 44) (.c (.i .i64 1)))⟩,
  ⟨some 46, none, .op (.load false 1 (.t 45))⟩,
  ⟨some 47, none, .call n_forest_Forest_Join [.t 36, .t 41, .t 46]⟩]
def weftlaw06_ForestOrder.r13 : List AStep := [
  ⟨some 48, none, .op (.mov (.t 7))⟩,
  ⟨some 49, none, .op (.bin .add (.t 48) (.c (.i .i64 1)))⟩,
  ⟨some 7, none, .op (.mov (.t 49))⟩]
def weftlaw06_ForestOrder.r14 : List AStep := [
  ⟨some 50, none, .op (.mov (.t 1))⟩,
  ⟨some 51, none, .op (.len false (.t 50))⟩,
  ⟨some 52, none, .op (.bin .sub (.t 51) (.c (.i .i64 1)))⟩,
  ⟨some 53, none, .op (.mov (.t 8))⟩,
  ⟨some 54, none, .op (.bin .sub (.t 52) (.t 53))⟩,
  ⟨some 9, none, .op (.mov (.t 54))⟩]
def weftlaw06_ForestOrder.r15 : List AStep := [
  ⟨some 55, none, .op (.mov (.t 6))⟩,
  ⟨some 56, none, .op (.mov (.t 1))⟩,
  ⟨some 57, none, .op (.mov (.t 9))⟩,
  ⟨some 58, none, .op (.iad 2 (.t 56) (.t 57))⟩,
  ⟨some 59, none, .op (.iadA 2 1 (.t 58) (.c (.i .i64 1)))⟩,
  ⟨some 60, none, .op (.load false 1 (.t 59))⟩,
  ⟨some 61, none, .op (.mov (.t 1))⟩,
  ⟨some 62, none, .op (.mov (.t 9))⟩,
  ⟨some 63, none, .op (.iad 2 (.t 61) (.t 62))⟩,
  ⟨some 64, none, .op (.iadA 2 1 (.t 63) (.c (.i .i64 0)))⟩,
  ⟨some 65, none, .op (.load false 1 (.t 64))⟩,
  ⟨some 66, none, .call n_forest_Forest_Join [.t 55, .t 60, .t 65]⟩]
def weftlaw06_ForestOrder.r16 : List AStep := [
  ⟨some 34, none, .op (.mov (.t 8))⟩,
  ⟨some 35, none, .op (.bin .add (.t 34) (.c (.i .i64 1)))⟩,
  ⟨some 8, none, .op (.mov (.t 35))⟩]
/-- Loop 0 of weft/weftlaw06.ForestOrder: live at its head: 0 n, 1 l, 5 a, 6 b, 7 joined, 8 i -/
def weftlaw06_ForestOrder.l0 : ACode := .seq (.seq (.post [0, 1, 5, 6, 7, 8, 33] (.region weftlaw06_ForestOrder.r11)) (.post [0, 1, 5, 6, 7, 8] (.cond (.t 33) (.skip) (.exit 0)))) (.seq (.post [0, 1, 5, 6, 7, 8] (.block 1 (.seq (.seq (.post [0, 1, 5, 6, 7, 8, 47] (.draw [0, 0, 0, 6, 14, 30, 0, 0, 192, 448, 960, 2047] weftlaw06_ForestOrder.r12)) (.post [0, 1, 5, 6, 7, 8] (.cond (.t 47) (.post [0, 1, 5, 6, 7, 8] (.region weftlaw06_ForestOrder.r13)) (.skip)))) (.seq (.post [0, 1, 5, 6, 7, 8, 9] (.region weftlaw06_ForestOrder.r14)) (.post [0, 1, 5, 6, 7, 8] (.draw [0, 0, 0, 6, 14, 30, 0, 0, 192, 448, 960, 2047] weftlaw06_ForestOrder.r15)))))) (.post [0, 1, 5, 6, 7, 8] (.region weftlaw06_ForestOrder.r16)))
def weftlaw06_ForestOrder.r17 : List AStep := [
  ⟨some 10, none, .op (.mov (.c (.i .i64 0)))⟩]
def weftlaw06_ForestOrder.r18 : List AStep := [
  ⟨some 67, none, .op (.mov (.t 10))⟩,
  ⟨some 68, none, .op (.mov (.t 0))⟩,
  ⟨some 69, none, .op (.bin .lss (.t 67) (.t 68))⟩]
def weftlaw06_ForestOrder.r19 : List AStep := [
  ⟨some 72, none, .op (.mov (.t 5))⟩,
  ⟨some 73, none, .op (.mov (.t 10))⟩,
  ⟨some 74, none, .call n_forest_Forest_Find [.t 72, .t 73]⟩,
  ⟨some 75, none, .op (.mov (.t 6))⟩,
  ⟨some 76, none, .op (.mov (.t 10))⟩,
  ⟨some 77, none, .call n_forest_Forest_Find [.t 75, .t 76]⟩,
  ⟨some 78, none, .op (.bin .neq (.t 74) (.t 77))⟩,
  ⟨some 79, none, .op (.mov (.t 78))⟩,
  ⟨some 80, (some (79, false)), .op (.mov (.t 5))⟩,
  ⟨some 81, (some (79, false)), .op (.mov (.t 10))⟩,
  ⟨some 82, (some (79, false)), .call n_forest_Forest_Find [.t 80, .t 81]⟩,
  ⟨some 83, (some (79, false)), .op (.mov (.t 10))⟩,
  ⟨some 84, (some (79, false)), .op (.bin .gtr (.t 82) (.t 83))⟩,
  ⟨some 85, none, .op (.pick (.t 79) (.c (.b true)) (.t 84))⟩,
  ⟨some 86, none, .op (.mov (.t 85))⟩,
  ⟨some 87, (some (86, false)), .op (.mov (.t 5))⟩,
  ⟨some 88, (some (86, false)), .op (.mov (.t 5))⟩,
  ⟨some 89, (some (86, false)), .op (.mov (.t 10))⟩,
  ⟨some 90, (some (86, false)), .call n_forest_Forest_Find [.t 88, .t 89]⟩,
  ⟨some 91, (some (86, false)), .call n_forest_Forest_Find [.t 87, .t 90]⟩,
  ⟨some 92, (some (86, false)), .op (.mov (.t 5))⟩,
  ⟨some 93, (some (86, false)), .op (.mov (.t 10))⟩,
  ⟨some 94, (some (86, false)), .call n_forest_Forest_Find [.t 92, .t 93]⟩,
  ⟨some 95, (some (86, false)), .op (.bin .neq (.t 91) (.t 94))⟩,
  ⟨some 96, none, .op (.pick (.t 86) (.c (.b true)) (.t 95))⟩]
def weftlaw06_ForestOrder.r20 : List AStep := [
  ⟨some 4, none, .op (.mov (.c (.b false)))⟩]
def weftlaw06_ForestOrder.r21 : List AStep := [
  ⟨some 70, none, .op (.mov (.t 10))⟩,
  ⟨some 71, none, .op (.bin .add (.t 70) (.c (.i .i64 1)))⟩,
  ⟨some 10, none, .op (.mov (.t 71))⟩]
/-- Loop 1 of weft/weftlaw06.ForestOrder: live at its head: 0 n, 5 a, 6 b, 7 joined, 10 i -/
def weftlaw06_ForestOrder.l1 : ACode := .seq (.seq (.post [0, 5, 6, 7, 10, 69] (.region weftlaw06_ForestOrder.r18)) (.post [0, 5, 6, 7, 10] (.cond (.t 69) (.skip) (.exit 2)))) (.seq (.post [0, 5, 6, 7, 10] (.block 3 (.seq (.post [0, 5, 6, 7, 10, 96] (.region weftlaw06_ForestOrder.r19)) (.post [0, 5, 6, 7, 10] (.cond (.t 96) (.seq (.post [4] (.region weftlaw06_ForestOrder.r20)) (.ret)) (.skip)))))) (.post [0, 5, 6, 7, 10] (.region weftlaw06_ForestOrder.r21)))
def weftlaw06_ForestOrder.r22 : List AStep := [
  ⟨some 97, none, .op (.mov (.t 5))⟩,
  ⟨some 98, none, .call n_forest_Forest_Parts [.t 97]⟩,
  ⟨some 99, none, .op (.mov (.t 0))⟩,
  ⟨some 100, none, .op (.mov (.t 7))⟩,
  ⟨some 101, none, .op (.bin .sub (.t 99) (.t 100))⟩,
  ⟨some 102, none, .op (.bin .eql (.t 98) (.t 101))⟩,
  ⟨some 103, none, .op (.mov (.t 102))⟩,
  ⟨some 104, (some (103, true)), .op (.mov (.t 6))⟩,
  ⟨some 105, (some (103, true)), .call n_forest_Forest_Parts [.t 104]⟩,
  ⟨some 106, (some (103, true)), .op (.mov (.t 5))⟩,
  ⟨some 107, (some (103, true)), .call n_forest_Forest_Parts [.t 106]⟩,
  ⟨some 108, (some (103, true)), .op (.bin .eql (.t 105) (.t 107))⟩,
  ⟨some 109, none, .op (.pick (.t 103) (.t 108) (.c (.b false)))⟩,
  ⟨some 4, none, .op (.mov (.t 109))⟩]
/-- weft/weftlaw06.ForestOrder (parameters: n, l) -/
def weftlaw06_ForestOrder : AFunc := ⟨110, [.t 4], .seq (.post [0, 1] (.region weftlaw06_ForestOrder.r0)) (.seq (.seq (.post [0, 1, 12] (.region weftlaw06_ForestOrder.r1)) (.post [0, 1] (.cond (.t 12) (.seq (.post [4] (.region weftlaw06_ForestOrder.r2)) (.ret)) (.skip)))) (.seq (.seq (.post [0, 1, 15] (.region weftlaw06_ForestOrder.r3)) (.post [0, 1] (.cond (.t 15) (.seq (.post [4] (.region weftlaw06_ForestOrder.r4)) (.ret)) (.skip)))) (.seq (.post [0, 1] (.region weftlaw06_ForestOrder.r5)) (.seq (.post [0, 1, 5, 6] (.region weftlaw06_ForestOrder.r6)) (.seq (.seq (.post [0, 1, 5, 6, 29] (.region weftlaw06_ForestOrder.r7)) (.post [0, 1, 5, 6] (.cond (.t 29) (.seq (.post [4] (.region weftlaw06_ForestOrder.r8)) (.ret)) (.skip)))) (.seq (.post [0, 1, 5, 6, 7] (.region weftlaw06_ForestOrder.r9)) (.seq (.seq (.post [0, 1, 5, 6, 7, 8] (.region weftlaw06_ForestOrder.r10)) (.post [0, 5, 6, 7] (.block 0 (.loop weftlaw06_ForestOrder.l0)))) (.seq (.seq (.post [0, 5, 6, 7, 10] (.region weftlaw06_ForestOrder.r17)) (.post [0, 5, 6, 7] (.block 2 (.loop weftlaw06_ForestOrder.l1)))) (.seq (.post [4] (.region weftlaw06_ForestOrder.r22)) (.ret))))))))))⟩
theorem weftlaw06_ForestOrder.ok : okFunc Try.prog Try.f9 weftlaw06_ForestOrder = true := by kernel_rfl
theorem weftlaw06_ForestOrder.at : Try.prog.funcs[n_weftlaw06_ForestOrder]? = some Try.f9 := Try.func9

end C
end Go.Proofs.Ytihipphpfbnknaa
