/- What the law QueryMore alone needs: CodeA, CodeB, Am18, NamM, OrdM2, QLaws, QMore, QAll. -/
import Derived.Test.YtggjaoibcfgofaaGreatDoorProg
import Derived.Test.YtggjaoibcfgofaaGreatDoorW0
import Derived.Test.YtggjaoibcfgofaaGreatDoorW1
import Derived.Test.YtggjaoibcfgofaaGreatDoorW2
import Derived.Test.YtggjaoibcfgofaaGreatDoorW3
import Derived.Test.YtggjaoibcfgofaaGreatDoorW4
import Derived.Test.YtggjaoibcfgofaaGreatDoorW5
import Derived.Test.YtggjaoibcfgofaaGreatDoorW6
import Derived.Test.YtggjaoibcfgofaaGreatDoorW7
import Derived.Test.YtggjaoibcfgofaaGreatDoorW8
import Derived.Test.YtggjaoibcfgofaaGreatDoorW9
import Derived.Test.YtggjaoibcfgofaaGreatDoorW10
import Derived.Test.YtggjaoibcfgofaaGreatDoorW11
import Derived.Test.YtggjaoibcfgofaaGreatDoorW12
import Derived.Test.YtggjaoibcfgofaaGreatDoorW13
import Derived.Test.YtggjaoibcfgofaaGreatDoorW14
import Derived.Test.YtggjaoibcfgofaaGreatDoorW15
import Derived.Test.YtggjaoibcfgofaaGreatDoorW16
import Derived.Test.YtggjaoibcfgofaaGreatDoorW17
import Derived.Test.YtggjaoibcfgofaaGreatDoorW18
import Derived.Test.YtggjaoibcfgofaaGreatDoorW19
import Derived.Test.YtggjaoibcfgofaaGreatDoorW20
import Derived.Test.YtggjaoibcfgofaaGreatDoorW21
import Derived.Test.YtggjaoibcfgofaaGreatDoorW22
import Derived.Test.YtggjaoibcfgofaaGreatDoorW23
import Derived.Test.YtggjaoibcfgofaaGreatDoorW24
import Derived.Test.YtggjaoibcfgofaaGreatDoorW25
import Derived.Test.YtggjaoibcfgofaaGreatDoorW26
import Derived.Test.YtggjaoibcfgofaaGreatDoorW27
import Derived.Test.YtggjaoibcfgofaaGreatDoorW28
import Derived.Test.YtggjaoibcfgofaaGreatDoorW29
import Derived.Test.YtggjaoibcfgofaaGreatDoorW30
import Derived.Test.YtggjaoibcfgofaaGreatDoorW31
namespace Go.Proofs.YtggjaoibcfgofaaGreatDoor
open Am Go.Proofs
set_option maxRecDepth 100000
namespace C
def n_weftlaw32_QueryMore : FuncId := 5
end C
end Go.Proofs.YtggjaoibcfgofaaGreatDoor
namespace Go.Proofs.YtggjaoibcfgofaaGreatDoor
open Am Go.Proofs
set_option maxRecDepth 100000
namespace C
def weftlaw32_QueryMore.r0 : List AStep := [
  ⟨some 3, none, .op (.boxf (.t 1))⟩,
  ⟨some 4, none, .op (.mov (.c (.b false)))⟩]
def weftlaw32_QueryMore.r1 : List AStep := [
  ⟨some 9, none, .call n_weftlaw32_works []⟩,
  ⟨some 10, none, .op (.un .not (.t 9))⟩]
def weftlaw32_QueryMore.r2 : List AStep := [
  ⟨some 4, none, .op (.mov (.c (.b false)))⟩]
def weftlaw32_QueryMore.r3 : List AStep := [
  ⟨some 11, none, .op (.mov (.t 0))⟩,
  ⟨some 12, none, .call n_weftlaw17_GreatFacts [.t 11]⟩,
  ⟨some 13, none, .op (.mov (.t 12))⟩,
  ⟨some 14, (some (13, false)), .op (.fadr 0 (.t 3))⟩,
  ⟨some 15, (some (13, false)), .op (.load false 1 (.t 14))⟩,
  ⟨some 16, (some (13, false)), .call n_weftlaw32_greatEdges [.t 15]⟩,
  ⟨some 17, none, .op (.pick (.t 13) (.c (.b true)) (.t 16))⟩,
  ⟨some 18, none, .op (.mov (.t 17))⟩,
  ⟨some 19, (some (18, false)), .op (.fadr 1 (.t 3))⟩,
  ⟨some 20, (some (18, false)), .op (.load false 1 (.t 19))⟩,
  ⟨some 21, (some (18, false)), .call n_weftlaw32_greatEdges [.t 20]⟩,
  ⟨some 22, none, .op (.pick (.t 18) (.c (.b true)) (.t 21))⟩,
  ⟨some 23, none, .op (.mov (.t 22))⟩,
  ⟨some 24, (some (23, false)), .op (.fadr 2 (.t 3))⟩,
  ⟨some 25, (some (23, false)), .op (.load false 1 (.t 24))⟩,
  ⟨some 26, (some (23, false)), .call n_weftlaw21_GreatTexts [.t 25]⟩,
  ⟨some 27, none, .op (.pick (.t 23) (.c (.b true)) (.t 26))⟩,
  ⟨some 28, none, .op (.mov (.t 27))⟩,
  ⟨some 29, (some (28, false)), .op (.fadr 3 (.t 3))⟩,
  ⟨some 30, (some (28, false)), .op (.load false 1 (.t 29))⟩,
  ⟨some 31, (some (28, false)), .op (.len true (.t 30))⟩,
  ⟨some 32, (some (28, false)), .op (.bin .gtr (.t 31) (.c (.i .i64 200)))⟩,
  ⟨some 33, none, .op (.pick (.t 28) (.c (.b true)) (.t 32))⟩,
  ⟨some 34, none, .op (.mov (.t 33))⟩,
  ⟨some 35, (some (34, false)), .op (.fadr 4 (.t 3))⟩,
  ⟨some 36, (some (34, false)), .op (.load false 1 (.t 35))⟩,
  ⟨some 37, (some (34, false)), .op (.len true (.t 36))⟩,
  ⟨some 38, (some (34, false)), .op (.bin .gtr (.t 37) (.c (.i .i64 200)))⟩,
  ⟨some 39, none, .op (.pick (.t 34) (.c (.b true)) (.t 38))⟩]
def weftlaw32_QueryMore.r4 : List AStep := [
  ⟨some 4, none, .op (.mov (.c (.b true)))⟩]
def weftlaw32_QueryMore.r5 : List AStep := [
  ⟨some 40, none, .op (.fadr 0 (.t 3))⟩,
  ⟨some 41, none, .op (.load false 1 (.t 40))⟩,
  ⟨some 42, none, .call n_weftlaw32_edges [.t 41]⟩,
  ⟨some 43, none, .op (.fadr 2 (.t 3))⟩,
  ⟨some 44, none, .op (.load false 1 (.t 43))⟩,
  ⟨some 45, none, .call n_query_Reach [.t 42, .t 44]⟩,
  ⟨some 5, none, .op (.mov (.t 45))⟩]
def weftlaw32_QueryMore.r6 : List AStep := [
  ⟨some 46, none, .op (.fadr 0 (.t 3))⟩,
  ⟨some 47, none, .op (.load false 1 (.t 46))⟩,
  ⟨some 48, none, .call n_weftlaw32_edges [.t 47]⟩,
  ⟨some 49, none, .op (.mov (.t 5))⟩,
  ⟨some 50, none, .call n_query_Reach [.t 48, .t 49]⟩,
  ⟨some 51, none, .op (.mov (.t 5))⟩,
  ⟨some 52, none, .call n_weftref05_Same [.t 50, .t 51]⟩,
  ⟨some 53, none, .op (.un .not (.t 52))⟩]
def weftlaw32_QueryMore.r7 : List AStep := [
  ⟨some 4, none, .op (.mov (.c (.b false)))⟩]
def weftlaw32_QueryMore.r8 : List AStep := [
  ⟨some 54, none, .op (.bz 2)⟩,
  ⟨some 55, none, .op (.fadr 0 (.t 3))⟩,
  ⟨some 56, none, .op (.load false 1 (.t 55))⟩,
  ⟨some 57, none, .op (.app 2 32 (.t 54) (.t 56))⟩,
  ⟨some 58, none, .op (.fadr 1 (.t 3))⟩,
  ⟨some 59, none, .op (.load false 1 (.t 58))⟩,
  ⟨some 60, none, .op (.app 2 32 (.t 57) (.t 59))⟩,
  ⟨some 61, none, .call n_weftlaw32_edges [.t 60]⟩,
  ⟨some 62, none, .op (.fadr 2 (.t 3))⟩,
  ⟨some 63, none, .op (.load false 1 (.t 62))⟩,
  ⟨some 64, none, .call n_query_Reach [.t 61, .t 63]⟩,
  ⟨some 6, none, .op (.mov (.t 64))⟩]
def weftlaw32_QueryMore.r9 : List AStep := [
  ⟨some 7, none, .op (.mov (.c (.i .i64 0)))⟩]
def weftlaw32_QueryMore.r10 : List AStep := [
  ⟨some 65, none, .op (.mov (.t 7))⟩,
  ⟨some 66, none, .op (.mov (.t 5))⟩,
  ⟨some 67, none, .op (.len false (.t 66))⟩,
  ⟨some 68, none, .op (.bin .lss (.t 65) (.t 67))⟩]
def weftlaw32_QueryMore.r11 : List AStep := [
  ⟨some 71, none, .op (.mov (.t 6))⟩,
  ⟨some 72, none, .op (.mov (.t 5))⟩,
  ⟨some 73, none, .op (.mov (.t 7))⟩,
  ⟨some 74, none, .op (.iad 1 (.t 72) (.t 73))⟩,
  ⟨some 75, none, .op (.load false 1 (.t 74))⟩,
  ⟨some 76, none, .call n_weftref05_Number [.t 71, .t 75]⟩,
  ⟨some 77, none, .op (.bin .lss (.t 76) (.c (.i .i64 0)))⟩]
def weftlaw32_QueryMore.r12 : List AStep := [
  ⟨some 4, none, .op (.mov (.c (.b false)))⟩]
def weftlaw32_QueryMore.r13 : List AStep := [
  ⟨some 69, none, .op (.mov (.t 7))⟩,
  ⟨some 70, none, .op (.bin .add (.t 69) (.c (.i .i64 1)))⟩,
  ⟨some 7, none, .op (.mov (.t 70))⟩]
def weftlaw32_QueryMore.l0 : ACode := .seq (.seq (.post [0, 3, 5, 6, 7, 68] (.region weftlaw32_QueryMore.r10)) (.post [0, 3, 5, 6, 7] (.cond (.t 68) (.skip) (.exit 0)))) (.seq (.post [0, 3, 5, 6, 7] (.block 1 (.seq (.post [0, 3, 5, 6, 7, 77] (.region weftlaw32_QueryMore.r11)) (.post [0, 3, 5, 6, 7] (.cond (.t 77) (.seq (.post [4] (.region weftlaw32_QueryMore.r12)) (.ret)) (.skip)))))) (.post [0, 3, 5, 6, 7] (.region weftlaw32_QueryMore.r13)))
def weftlaw32_QueryMore.r14 : List AStep := [
  ⟨some 78, none, .op (.mov (.t 0))⟩,
  ⟨some 79, none, .op (.len false (.t 78))⟩,
  ⟨some 80, none, .op (.bin .quo (.t 79) (.c (.i .i64 2)))⟩,
  ⟨some 8, none, .op (.mov (.t 80))⟩]
def weftlaw32_QueryMore.r15 : List AStep := [
  ⟨some 81, none, .op (.mov (.t 0))⟩,
  ⟨some 82, none, .op (.mov (.t 8))⟩,
  ⟨some 83, none, .op (.slc 2 (.t 81) none (some (.t 82)))⟩,
  ⟨some 84, none, .op (.fadr 3 (.t 3))⟩,
  ⟨some 85, none, .op (.load false 1 (.t 84))⟩,
  ⟨some 86, none, .op (.fadr 4 (.t 3))⟩,
  ⟨some 87, none, .op (.load false 1 (.t 86))⟩,
  ⟨some 88, none, .call n_query_Alias [.t 83, .t 85, .t 87]⟩,
  ⟨some 89, none, .op (.un .not (.t 88))⟩,
  ⟨some 90, none, .op (.mov (.t 89))⟩,
  ⟨some 91, (some (90, false)), .op (.mov (.t 0))⟩,
  ⟨some 92, (some (90, false)), .op (.fadr 3 (.t 3))⟩,
  ⟨some 93, (some (90, false)), .op (.load false 1 (.t 92))⟩,
  ⟨some 94, (some (90, false)), .op (.fadr 4 (.t 3))⟩,
  ⟨some 95, (some (90, false)), .op (.load false 1 (.t 94))⟩,
  ⟨some 96, (some (90, false)), .call n_query_Alias [.t 91, .t 93, .t 95]⟩,
  ⟨some 97, none, .op (.pick (.t 90) (.c (.b true)) (.t 96))⟩,
  ⟨some 98, none, .op (.mov (.t 97))⟩,
  ⟨some 99, (some (98, true)), .op (.mov (.t 0))⟩,
  ⟨some 100, (some (98, true)), .op (.mov (.t 8))⟩,
  ⟨some 101, (some (98, true)), .op (.slc 2 (.t 99) none (some (.t 100)))⟩,
  ⟨some 102, (some (98, true)), .op (.fadr 3 (.t 3))⟩,
  ⟨some 103, (some (98, true)), .op (.load false 1 (.t 102))⟩,
  ⟨some 104, (some (98, true)), .call n_query_Callees [.t 101, .t 103]⟩,
  ⟨some 105, (some (98, true)), .op (.len false (.t 104))⟩,
  ⟨some 106, (some (98, true)), .op (.mov (.t 0))⟩,
  ⟨some 107, (some (98, true)), .op (.fadr 3 (.t 3))⟩,
  ⟨some 108, (some (98, true)), .op (.load false 1 (.t 107))⟩,
  ⟨some 109, (some (98, true)), .call n_query_Callees [.t 106, .t 108]⟩,
  ⟨some 110, (some (98, true)), .op (.len false (.t 109))⟩,
  ⟨some 111, (some (98, true)), .op (.bin .leq (.t 105) (.t 110))⟩,
  ⟨some 112, none, .op (.pick (.t 98) (.t 111) (.c (.b false)))⟩,
  ⟨some 113, none, .op (.mov (.t 112))⟩,
  ⟨some 114, (some (113, true)), .op (.mov (.t 0))⟩,
  ⟨some 115, (some (113, true)), .op (.mov (.t 8))⟩,
  ⟨some 116, (some (113, true)), .op (.slc 2 (.t 114) none (some (.t 115)))⟩,
  ⟨some 117, (some (113, true)), .op (.fadr 3 (.t 3))⟩,
  ⟨some 118, (some (113, true)), .op (.load false 1 (.t 117))⟩,
  ⟨some 119, (some (113, true)), .call n_query_Holders [.t 116, .t 118]⟩,
  ⟨some 120, (some (113, true)), .op (.len false (.t 119))⟩,
  ⟨some 121, (some (113, true)), .op (.mov (.t 0))⟩,
  ⟨some 122, (some (113, true)), .op (.fadr 3 (.t 3))⟩,
  ⟨some 123, (some (113, true)), .op (.load false 1 (.t 122))⟩,
  ⟨some 124, (some (113, true)), .call n_query_Holders [.t 121, .t 123]⟩,
  ⟨some 125, (some (113, true)), .op (.len false (.t 124))⟩,
  ⟨some 126, (some (113, true)), .op (.bin .leq (.t 120) (.t 125))⟩,
  ⟨some 127, none, .op (.pick (.t 113) (.t 126) (.c (.b false)))⟩,
  ⟨some 128, none, .op (.mov (.t 127))⟩,
  ⟨some 129, (some (128, true)), .op (.mov (.t 0))⟩,
  ⟨some 130, (some (128, true)), .op (.fadr 3 (.t 3))⟩,
  ⟨some 131, (some (128, true)), .op (.load false 1 (.t 130))⟩,
  ⟨some 132, (some (128, true)), .op (.fadr 4 (.t 3))⟩,
  ⟨some 133, (some (128, true)), .op (.load false 1 (.t 132))⟩,
  ⟨some 134, (some (128, true)), .call n_query_Alias [.t 129, .t 131, .t 133]⟩,
  ⟨some 135, (some (128, true)), .op (.mov (.t 0))⟩,
  ⟨some 136, (some (128, true)), .op (.fadr 4 (.t 3))⟩,
  ⟨some 137, (some (128, true)), .op (.load false 1 (.t 136))⟩,
  ⟨some 138, (some (128, true)), .op (.fadr 3 (.t 3))⟩,
  ⟨some 139, (some (128, true)), .op (.load false 1 (.t 138))⟩,
  ⟨some 140, (some (128, true)), .call n_query_Alias [.t 135, .t 137, .t 139]⟩,
  ⟨some 141, (some (128, true)), .op (.eqk .bool false (.t 134) (.t 140))⟩,
  ⟨some 142, none, .op (.pick (.t 128) (.t 141) (.c (.b false)))⟩,
  ⟨some 4, none, .op (.mov (.t 142))⟩]
def weftlaw32_QueryMore : AFunc := ⟨143, [.t 4], .seq (.post [0, 3] (.region weftlaw32_QueryMore.r0)) (.seq (.seq (.post [0, 3, 10] (.region weftlaw32_QueryMore.r1)) (.post [0, 3] (.cond (.t 10) (.seq (.post [4] (.region weftlaw32_QueryMore.r2)) (.ret)) (.skip)))) (.seq (.seq (.post [0, 3, 39] (.region weftlaw32_QueryMore.r3)) (.post [0, 3] (.cond (.t 39) (.seq (.post [4] (.region weftlaw32_QueryMore.r4)) (.ret)) (.skip)))) (.seq (.post [0, 3, 5] (.draw [0, 1, 3, 0, 8, 31, 63] weftlaw32_QueryMore.r5)) (.seq (.seq (.post [0, 3, 5, 53] (.region weftlaw32_QueryMore.r6)) (.post [0, 3, 5] (.cond (.t 53) (.seq (.post [4] (.region weftlaw32_QueryMore.r7)) (.ret)) (.skip)))) (.seq (.post [0, 3, 5, 6] (.draw [0, 0, 2, 7, 0, 16, 63, 127, 0, 256, 1023, 2047] weftlaw32_QueryMore.r8)) (.seq (.seq (.post [0, 3, 5, 6, 7] (.region weftlaw32_QueryMore.r9)) (.post [0, 3] (.block 0 (.loop weftlaw32_QueryMore.l0)))) (.seq (.post [0, 3, 8] (.region weftlaw32_QueryMore.r14)) (.seq (.post [4] (.draw [0, 0, 3, 0, 8, 0, 32, 127, 255, 511, 1023, 1023, 3071, 1023, 9215, 32767, 65535, 131071, 262143, 262143, 1048575, 262143, 2359295, 8388607, 16777215, 262143, 262143, 67371007, 251658239, 520093695, 1073741823, 2147483647, 4294967295, 8589934591, 8589934591, 34359738367, 8589934591, 77309411327, 274877906943, 549755813887, 8589934591, 8589934591, 2207613190143, 8246337208319, 17042430230527, 35184372088831, 70368744177663, 140737488355327, 281474976710655, 281474976710655, 844424930131967, 281474976710655, 2533274790395903, 9007199254740991, 281474976710655, 281474976710655, 36310271995674623, 281474976710655, 144396663052566527, 576460752303423487, 1152921504606846975, 2305843009213693951, 4611686018427387903] weftlaw32_QueryMore.r15)) (.ret)))))))))⟩
theorem weftlaw32_QueryMore.ok : okFunc Tryz.prog Tryz.f5 weftlaw32_QueryMore = true := by kernel_rfl
theorem weftlaw32_QueryMore.at : Tryz.prog.funcs[n_weftlaw32_QueryMore]? = some Tryz.f5 := Tryz.func5
end C
end Go.Proofs.YtggjaoibcfgofaaGreatDoor
namespace Go.Proofs.YtggjaoibcfgofaaGreatDoor.Am
open Go Go.RowKit
set_option linter.unusedSimpArgs false
set_option linter.unusedVariables false
section
variable {P : Program} {r : List AStep} {K : Fr → Hp → Prop} {F : Fr} {H : Hp} {d : Option Nat}
def reCall (P : Program) (f : FuncId) (args : List V) (v : V) (H : Hp) : Prop := AC P f args H fun u H' => u = v ∧ H' = H
@[simp] theorem reCall_eq (P : Program) (f : FuncId) (args : List V) (v : V) (H : Hp) : reCall P f args v H = AC P f args H fun u H' => u = v ∧ H' = H := id rfl
section
variable {bs : List Nat} {i j : Nat} {A B C D : Hp} {p q : Hp → Prop}
@[simp] theorem pairOk_er : pairOk bs ⟨i, .eff, A, B, p⟩ ⟨j, .rd, C, D, q⟩ = (bs.getD j 0 / 2 ^ i % 2 = 1 ∨ q A) := by simp [pairOk, before_eq]
end
variable {bs : List Nat} {j : Nat} {log : List LogE}
theorem callD_rd {f : FuncId} {args : List V} {k : Cls → V → Hp → (Hp → Prop) → Prop} (v : V) (h : AC P f args H fun u H' => u = v ∧ H' = H) (hk : k .rd v H (reCall P f args v)) : callD P f args H k := .inr (.inl ⟨v, h, hk⟩)
end
section
variable {P : Program} {n : Nat} {Q : Post} {F : Fr} {H : Hp}
end
section
variable {P : Program} {bs alx : List Nat} {N j : Nat} {r : List AStep} {log : List LogA} {als pend : List PendE} {K : Fr → Hp → Prop} {F : Fr} {C : Hp} {d : Option Nat}
section
variable {i j : Nat} {C0 C1 D0 D1 : Hp} {p0 p1 q0 q1 : List PendE} {x y : Hp → Prop}
end
end
end Go.Proofs.YtggjaoibcfgofaaGreatDoor.Am
namespace Go.Proofs.YtggjaoibcfgofaaGreatDoor
open Am
set_option linter.unusedSimpArgs false
set_option linter.unusedVariables false
theorem RchN.trans {l : List (Str × Str)} {a b c : Str} (h : RchN l a b) (k : RchN l b c) : RchN l a c := by
  induction k with
  | refl => exact h
  | tail _ e ih => exact .tail ih e
theorem RchN.mono {l l' : List (Str × Str)} (h : ∀ e ∈ l, e ∈ l') {a b : Str} (r : RchN l a b) : RchN l' a b := by
  induction r with
  | refl => exact .refl _
  | tail _ e ih => exact .tail ih (h _ e)
end Go.Proofs.YtggjaoibcfgofaaGreatDoor
namespace Go.Proofs.YtggjaoibcfgofaaGreatDoor
open Am
set_option linter.unusedSimpArgs false
set_option linter.unusedVariables false
section
variable {l : List (Str × Str)}
end
theorem reach_again (l : List (Str × Str)) (fr : List Str) : reachS l (reachS l fr) = reachS l fr := by
  refine rising_ext (reachS_rising _ _) (reachS_rising _ _) fun x => ?_
  rw [mem_reachS]
  constructor
  · rintro ⟨s, hs, h⟩
    obtain ⟨s', hs', h'⟩ := mem_reachS.1 hs
    exact mem_reachS.2 ⟨s', hs', h'.trans h⟩
  · intro h; exact ⟨x, h, .refl _⟩
theorem reach_more (l l2 : List (Str × Str)) (fr : List Str) {x : Str} (h : x ∈ reachS l fr) : x ∈ reachS (l ++ l2) fr := by
  obtain ⟨s, hs, h⟩ := mem_reachS.1 h
  exact mem_reachS.2 ⟨s, hs, h.mono fun e he => by simp [he]⟩
theorem ofS_take (l : List Fact) (k : Nat) (a : Str) : ofS (l.take k) a = ofS l a ∨ ofS (l.take k) a = [] := by
  unfold ofS
  cases h : (l.take k).find? (fun f => decide (f.1 = a)) with
  | none => exact .inr rfl
  | some f =>
    left
    have : l.find? (fun f => decide (f.1 = a)) = some f := by
      conv => lhs; rw [← List.take_append_drop k l]
      rw [List.find?_append, h]; rfl
    rw [this]
theorem alias_more {l : List Fact} {k : Nat} {a b : Str} (h : aliasB (l.take k) a b = true) : aliasB l a b = true := by
  simp only [aliasB, List.any_eq_true, decide_eq_true_eq] at h ⊢
  obtain ⟨x, h1, h2⟩ := h
  rcases ofS_take l k a with ha | ha
  · rcases ofS_take l k b with hb | hb
    · rw [ha] at h1; rw [hb] at h2; exact ⟨x, h1, h2⟩
    · rw [hb] at h2; cases h2
  · rw [ha] at h1; cases h1
theorem alias_comm (l : List Fact) (a b : Str) : aliasB l a b = aliasB l b a := by
  rw [Bool.eq_iff_iff]
  simp only [aliasB, List.any_eq_true, decide_eq_true_eq]
  exact ⟨fun ⟨x, h1, h2⟩ => ⟨x, h2, h1⟩, fun ⟨x, h1, h2⟩ => ⟨x, h2, h1⟩⟩
theorem callees_more (l : List Fact) (k : Nat) (a : Str) : (calleesS (l.take k) a).length ≤ (calleesS l a).length := by
  unfold calleesS
  rcases ofS_take l k a with ha | ha
  · rw [ha]; exact Nat.le_refl _
  · rw [ha]; simp [sortedS]
theorem holders_more (l : List Fact) (k : Nat) (a : Str) : (holdersS (l.take k) a).length ≤ (holdersS l a).length := by
  unfold holdersS
  refine rising_len (sortedS_rising _) (sortedS_rising _) fun x hx => ?_
  rw [mem_sortedS] at hx ⊢
  rw [List.mem_filterMap] at hx ⊢
  obtain ⟨f, h1, h2⟩ := hx
  exact ⟨f, List.mem_of_mem_take h1, h2⟩
end Go.Proofs.YtggjaoibcfgofaaGreatDoor
namespace Go.Proofs.YtggjaoibcfgofaaGreatDoor
open Am C Go.Proofs
set_option linter.unusedSimpArgs false
set_option linter.unusedVariables false
def EdBInv (l : List (Str × Str)) (w : V) (X0 : Hp) (m : Nat) (F : Fr) (X : Hp) : Prop :=
  ∃ i v, i ≤ l.length ∧ m = l.length - i ∧ Am.Acc X0 2 v X (ecs (l.take i)) ∧ F = [(0, w), (3, v), (4, .i .i64 i)]
theorem edgesB_ok (l : List (Str × Str)) (hl : l.length ≤ 100000) {H0 X : Hp} {w : V} (A0 : Am.Acc H0 2 w X (ecs l)) : AC Tryz.prog n_weftlaw32_edges [w] X (fun v H' => v = edV l ∧ H' = X) := by
  rcases A0.sl with ⟨e, z, rfl⟩ | ⟨id, mi, h1, rfl, h2, h3⟩
  · have : l = [] := by simpa [ecs] using e
    subst this
    exact (edges_ok [] (by simp) X).args fun κ cs r => by
      obtain ⟨a, rfl, h⟩ := r.one'
      exact VRs.cons' (Am.VR.nil_fs h) (VRs.nil' κ)
  have hel : (ecs l).length = l.length := by simp [ecs]
  have hfl : (ecs l).flatten.length = l.length * 2 := by rw [flat_len A0.all, hel]
  rw [hfl] at h3 ⊢
  rw [hel]
  refine AC.codeP weftlaw32_edges.at weftlaw32_edges.ok (free_edV _) fun hlt => ?_
  simp only [weftlaw32_edges]
  refine AX.seq (AX.reg ?_)
  simp [weftlaw32_edges.r0]
  refine AX.seq (AX.reg ?_)
  simp [weftlaw32_edges.r1]
  refine AX.seq (AX.seq (AX.reg ?_))
  simp [weftlaw32_edges.r2]
  refine AX.pblock (AX.loop (EdBInv l (.sl (some (id, 0, l.length * 2)) l.length 2) X) l.length ⟨_, _, .refl _ _, 0, .sl none 0 0, by omega, by omega, by simpa [ecs] using Am.Acc.nil 2 0 (.refl _) hlt, rfl⟩ ?_)
  rintro m F Y ⟨i, v, hi, rfl, A, rfl⟩
  simp only [weftlaw32_edges.l0]
  refine AX.seq (AX.seq (AX.reg ?_))
  simp [weftlaw32_edges.r3]
  refine AX.pcond rfl (fun hc => AX.skip ?_) (fun hc => AX.exit ?_)
  · simp at hc
    have g2 := A.ext.2 _ _ h2
    have hei : (ecs l)[i]? = some [.s l[i].1, .s l[i].2] := by simp [ecs, hc]
    have c0 := flat_get A0.all hei (j := 0) rfl
    have c1 := flat_get A0.all hei (j := 1) rfl
    have d0 := take1_at c0
    have d1 := take1_at c1
    simp only [Nat.add_zero] at d0
    obtain ⟨v1, H1, e1, A1⟩ := A.app (bytes := 32) (ys := [[.s l[i].1, .s l[i].2]]) hlt (by simp) (by omega) rfl (by simp [roomB, ecs]; omega)
    simp
    refine AX.seq (AX.pblock (AX.drw ?_))
    simp [weftlaw32_edges.r4, hc, g2, h3, d0, d1, repl, -sAppend, e1, show i * 2 + 1 ≤ l.length * 2 by omega, show i * 2 + 1 + 1 ≤ l.length * 2 by omega]
    refine AX.reg ?_
    simp [weftlaw32_edges.r5, succ_of_lt hc (show l.length ≤ 9223372036854775807 by omega)]
    refine ⟨l.length - (i + 1), by omega, _, _, .refl _ _, i + 1, v1, by omega, rfl, ?_, by simp⟩
    rw [take_snoc hc, show ecs (l.take i ++ [l[i]]) = ecs (l.take i) ++ [[.s l[i].1, .s l[i].2]] by simp only [ecs, List.map_append]; rfl]
    exact A1
  simp at hc
  have e : i = l.length := by omega
  rw [e, List.take_length] at A
  simp
  refine AX.seq (AX.reg ?_)
  simp [weftlaw32_edges.r6]
  refine AX.ret ?_
  simp
  exact ⟨A.ext, A.frz⟩
end Go.Proofs.YtggjaoibcfgofaaGreatDoor
namespace Go.Proofs.YtggjaoibcfgofaaGreatDoor
open Am C Go.Proofs
set_option linter.unusedSimpArgs false
set_option linter.unusedVariables false
def rxV (c m : List (Str × Str)) (fr : List Str) (a b : Str) : List V := [edV c, edV m, ss fr, .s a, .s b]
def QMInv (xs : List V) (g : V) (ra rb : List Str) (H : Hp) (m : Nat) (F : Fr) (X : Hp) : Prop :=
  ∃ i, i ≤ ra.length ∧ m = ra.length - i ∧ X = H ∧ F = [(0, g), (3, .fp xs 0), (5, ss ra), (6, ss rb), (7, .i .i64 i)]
theorem QueryMore_ok (l : List Fact) (c m : List (Str × Str)) (fr : List Str) (a b : Str) (hs : smallF l) (H : Hp) (hlt : ∀ id blk, H.get id = some blk → id < H.next) :
    AC Tryz.prog n_weftlaw32_QueryMore [fsV l, .agg (rxV c m fr a b)] H (fun v H' => v = .b true) := by
  refine AC.code weftlaw32_QueryMore.at weftlaw32_QueryMore.ok ?_
  simp only [weftlaw32_QueryMore]
  refine AX.seq (AX.reg ?_)
  simp [weftlaw32_QueryMore.r0, rxV, edV, ss]
  rw [show V.fs (c.map fun e => [.s e.1, .s e.2]) = edV c from rfl, show V.fs (m.map fun e => [.s e.1, .s e.2]) = edV m from rfl, show V.fs (fr.map fun x => [.s x]) = ss fr from rfl]
  refine AX.seq (AX.seq (AX.reg ?_))
  simp [weftlaw32_QueryMore.r1]
  refine AC.fix (works_ok _) ?_
  simp
  refine AX.pcond (t := false) rfl (fun h => by simp at h) (fun _ => AX.skip ?_)
  simp
  refine AX.seq (AX.seq (AX.mono (Q := Post.then (fun F Y => Y = H ∧ ∃ g, F = [(0, fsV l), (3, .fp [edV c, edV m, ss fr, .s a, .s b] 0), (39, .b g)] ∧ (g = false → (l.length ≤ 100 ∧ ∀ f ∈ l, f.2.length ≤ 5000) ∧ c.length ≤ 40 ∧ m.length ≤ 40 ∧ fr.length ≤ 60)) (fun _ _ _ => False)) (AX.reg ?_) ?_))
  · simp [weftlaw32_QueryMore.r3]
    refine (GreatFacts_ok l hs H).mono ?_
    rintro v H' ⟨⟨g, rfl, hg⟩, rfl⟩
    cases g with
    | true => simp
    | false =>
    simp
    refine (greatEdges_ok c H').mono ?_
    rintro v H'' ⟨⟨g1, rfl, hg1⟩, rfl⟩
    cases g1 with
    | true => simp
    | false =>
    simp
    refine (greatEdges_ok m H'').mono ?_
    rintro v H3 ⟨⟨g2, rfl, hg2⟩, rfl⟩
    cases g2 with
    | true => simp
    | false =>
    simp
    refine (GreatTexts_ok fr H3).mono ?_
    rintro v H4 ⟨⟨g3, rfl, hg3⟩, rfl⟩
    cases g3 with
    | true => simp
    | false =>
    have h1 := hg rfl
    have h2 := hg1 rfl
    have h3 := hg2 rfl
    have h4 := hg3 rfl
    by_cases ha : 200 < a.length
    · simp [ha]
    · by_cases hb : 200 < b.length
      · simp [ha, hb]
      · simp [ha, hb]
        exact ⟨⟨h1.1, fun x y h => h1.2 _ h⟩, h2, h3, h4⟩
  rintro x F Y hx
  cases x with
  | exit k => exact hx.elim
  | ret => exact hx.elim
  | normal =>
  obtain ⟨rfl, g, rfl, hg⟩ := hx
  cases g with
  | true =>
    refine AX.pcond (t := true) rfl (fun _ => AX.seq (AX.reg ?_)) (fun h => by simp at h)
    simp [weftlaw32_QueryMore.r4]
    refine AX.ret ?_
    simp
  | false =>
  obtain ⟨⟨hl, hm⟩, hc, hmm, hf⟩ := hg rfl
  refine AX.pcond (t := false) rfl (fun h => by simp at h) (fun _ => AX.skip ?_)
  simp
  have hra := reachS_len c fr
  refine AX.seq (AX.drw ?_)
  simp [weftlaw32_QueryMore.r5]
  refine callD_pure _ (fun H2 => edges_ok c (by omega) H2) ?_
  simp
  refine callD_pure _ (fun H2 => Reach_ok c fr (by omega) (by omega) H2) ?_
  simp
  refine AX.seq (AX.seq (AX.reg ?_))
  simp [weftlaw32_QueryMore.r6]
  refine AC.fix (edges_ok c (by omega) _) ?_
  simp
  refine AC.fix (Reach_ok c (reachS c fr) (by omega) (by omega) _) ?_
  rw [reach_again]
  simp
  refine AC.fix (Same_ok _ _ (show _ ≤ 9223372036854775807 by omega) _) ?_
  simp
  refine AX.pcond (t := false) rfl (fun h => by simp at h) (fun _ => AX.skip ?_)
  simp
  have hrb := reachS_len (c ++ m) fr
  simp at hrb
  have hsub : ∀ x ∈ reachS c fr, x ∈ reachS (c ++ m) fr := fun x hx => reach_more c m fr hx
  refine AX.seq (AX.drw ?_)
  have A0 := Am.Acc.nil 2 2 (.refl Y) hlt
  obtain ⟨v1, X1, e1, A1⟩ := A0.app (bytes := 32) (ys := ecs c) hlt (fun e he => by obtain ⟨x, _, rfl⟩ := List.mem_map.1 he; rfl) (by omega) (by rw [List.all_eq_true]; intro e he; obtain ⟨x, hx, hxe⟩ := List.mem_flatten.1 he; obtain ⟨y, _, rfl⟩ := List.mem_map.1 hx; simp at hxe; rcases hxe with rfl | rfl <;> rfl) (by simp [roomB, ecs]; omega)
  obtain ⟨v2, X2, e2, A2⟩ := A1.app (bytes := 32) (ys := ecs m) hlt (fun e he => by obtain ⟨x, _, rfl⟩ := List.mem_map.1 he; rfl) (by omega) (by rw [List.all_eq_true]; intro e he; obtain ⟨x, hx, hxe⟩ := List.mem_flatten.1 he; obtain ⟨y, _, rfl⟩ := List.mem_map.1 hx; simp at hxe; rcases hxe with rfl | rfl <;> rfl) (by simp [roomB, ecs]; omega)
  have e1' : sAppend Y 2 32 (.sl none 0 2) (edV c) = some (v1, X1) := e1
  have e2' : sAppend X1 2 32 v1 (edV m) = some (v2, X2) := e2
  have A3 : Am.Acc Y 2 v2 X2 (ecs (c ++ m)) := by
    have : ecs (c ++ m) = [] ++ ecs c ++ ecs m := by simp [ecs]
    rw [this]; exact A2
  simp [weftlaw32_QueryMore.r8, -sAppend, e1', e2']
  refine callD_rd _ (edgesB_ok (c ++ m) (by simp; omega) A3) ?_
  simp
  refine callD_pure _ (fun H2 => Reach_ok (c ++ m) fr (by simp; omega) (by omega) H2) ?_
  simp
  generalize reachS c fr = ra at *
  generalize reachS (c ++ m) fr = rb at *
  clear A0 A1 A2 A3 e1 e2 e1' e2'
  refine AX.seq (AX.seq (AX.reg ?_))
  simp [weftlaw32_QueryMore.r9]
  refine AX.pblock (AX.loop (QMInv [edV c, edV m, ss fr, .s a, .s b] (fsV l) ra rb X2) ra.length ⟨_, _, .refl _ _, 0, by omega, by omega, rfl, rfl⟩ ?_)
  rintro mm F Z ⟨i, hi, rfl, rfl, rfl⟩
  simp only [weftlaw32_QueryMore.l0]
  refine AX.seq (AX.seq (AX.reg ?_))
  simp [weftlaw32_QueryMore.r10, ss]
  refine AX.pcond rfl (fun hc2 => AX.skip ?_) (fun hc2 => AX.exit ?_)
  · simp at hc2
    simp
    refine AX.seq (AX.pblock (AX.seq (AX.reg ?_)))
    simp [weftlaw32_QueryMore.r11, ss, hc2]
    refine AC.fix (Number_ok rb ra[i] (show _ ≤ 9223372036854775807 by omega) _) ?_
    simp
    have hn : ¬ numV rb ra[i] < 0 := fun h => numV_neg.1 h (hsub _ (List.getElem_mem hc2))
    refine AX.pcond (t := false) (by simp [hn]) (fun h => by simp at h) (fun _ => AX.skip ?_)
    simp
    refine AX.reg ?_
    simp [weftlaw32_QueryMore.r13, i64_succ (show i ≤ 9223372036854775000 by omega)]
    exact ⟨ra.length - (i + 1), by omega, _, _, .refl _ _, i + 1, by omega, rfl, rfl, by simp [ss]⟩
  simp
  obtain ⟨k, hk⟩ : ∃ k, k = l.length / 2 := ⟨_, rfl⟩
  have hkl : k ≤ l.length := by omega
  have hq : Go.IntKind.i64.wrap ((l.length : Int) / 2) = (k : Nat) := by
    rw [wrap_i64 (by omega) (by omega)]; omega
  refine AX.seq (AX.reg ?_)
  simp [weftlaw32_QueryMore.r14, fsV, hq]
  have hm1 : ∀ f ∈ l, f.2.length ≤ 1000000 := fun f hf => by have := hm f hf; omega
  have hm2 : ∀ f ∈ l.take k, f.2.length ≤ 1000000 := fun f hf => hm1 f (List.mem_of_mem_take hf)
  have ht1 : ∀ f ∈ l, ∀ x ∈ f.2, x.length ≤ 9223372036854775806 := fun f hf x hx => by have := (hs.2 f hf).2.2 x hx; omega
  have ht2 : ∀ f ∈ l.take k, ∀ x ∈ f.2, x.length ≤ 9223372036854775806 := fun f hf => ht1 f (List.mem_of_mem_take hf)
  have hl2 : (l.take k).length ≤ 100 := by simp; omega
  have hal := @alias_more l k a b
  have hco := alias_comm l a b
  have hca := callees_more l k a
  have hho := holders_more l k a
  have b1 := fun H2 => Alias_ok (l.take k) a b (show (l.take k).length ≤ 9223372036854775807 by omega) hm2 H2
  have b2 := fun H2 => Alias_ok l a b (show l.length ≤ 9223372036854775807 by omega) hm1 H2
  have b3 := fun H2 => Alias_ok l b a (show l.length ≤ 9223372036854775807 by omega) hm1 H2
  have b4 := fun H2 => Callees_ok (l.take k) a (show (l.take k).length ≤ 9223372036854775807 by omega) hm2 ht2 H2
  have b5 := fun H2 => Callees_ok l a (show l.length ≤ 9223372036854775807 by omega) hm1 ht1 H2
  have b6 := fun H2 => Holders_ok (l.take k) a (by omega) hm2 H2
  have b7 := fun H2 => Holders_ok l a (by omega) hm1 H2
  have hsl : (∀ e ∈ l.map fcs, e.length = 2) := fun e he => by obtain ⟨f, _, rfl⟩ := List.mem_map.1 he; rfl
  have htk : V.fs ((l.map fcs).take k) = fsV (l.take k) := by simp [fsV]
  refine AX.seq (AX.drw ?_)
  simp [weftlaw32_QueryMore.r15, hkl, fcs]
  rw [htk]
  refine callD_pure _ b1 ?_
  cases hA : aliasB (l.take k) a b with
  | true =>
    have hA2 := hal hA
    simp
    refine callD_pure _ b2 ?_
    simp [hA2, hkl, fcs]
    rw [htk]
    refine callD_pure _ b4 ?_
    simp [ss]
    refine callD_pure _ b5 ?_
    simp [ss, hca, hkl, fcs]
    rw [htk]
    refine callD_pure _ b6 ?_
    simp [ss]
    refine callD_pure _ b7 ?_
    simp [ss, hho]
    refine callD_pure _ b2 ?_
    simp
    refine callD_pure _ b3 ?_
    simp [hco]
    refine AX.ret ?_
    simp
  | false =>
    simp [hkl, fcs]
    rw [htk]
    refine callD_pure _ b4 ?_
    simp [ss]
    refine callD_pure _ b5 ?_
    simp [ss, hca, hkl, fcs]
    rw [htk]
    refine callD_pure _ b6 ?_
    simp [ss]
    refine callD_pure _ b7 ?_
    simp [ss, hho]
    refine callD_pure _ b2 ?_
    simp
    refine callD_pure _ b3 ?_
    simp [hco]
    refine AX.ret ?_
    simp
end Go.Proofs.YtggjaoibcfgofaaGreatDoor
namespace Go.Proofs.YtggjaoibcfgofaaGreatDoor
open Am C Go.Proofs
set_option linter.unusedSimpArgs false
set_option linter.unusedVariables false
theorem QueryMore_all (us : List V) (h : ArgsZ [.sl TF, .st [.sl TE, .sl TE, .sl .str, .str, .str]] us) : AC Tryz.prog 5 us Hp.none (fun r _ => r = .b true) := by
  obtain ⟨u, us', rfl, hu, u2, us2, rfl, ⟨vs, rfl, hu2⟩, rfl⟩ := h
  obtain ⟨l, hx, hs⟩ := isZ_facts hu
  injection hx with hx; subst hx
  obtain ⟨a1, r1, rfl, h1, k1⟩ := isZs_cons hu2
  obtain ⟨a2, r2, rfl, h2, k2⟩ := isZs_cons k1
  obtain ⟨a3, r3, rfl, h3, k3⟩ := isZs_cons k2
  obtain ⟨a4, r4, rfl, h4, k4⟩ := isZs_cons k3
  obtain ⟨a5, r5, rfl, h5, k5⟩ := isZs_cons k4
  obtain rfl := isZs_nil k5
  obtain ⟨c, rfl⟩ := isZ_edges h1
  obtain ⟨m, rfl⟩ := isZ_edges h2
  obtain ⟨fr, rfl, _⟩ := isZ_ss h3
  obtain ⟨a, rfl, _⟩ := isZ_str h4
  obtain ⟨b, rfl, _⟩ := isZ_str h5
  exact QueryMore_ok l c m fr a b hs _ (fun id blk h => by cases h)
end Go.Proofs.YtggjaoibcfgofaaGreatDoor
