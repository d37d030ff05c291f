/- What the law QueryFacts alone needs: CodeB, Am18, Am19, Q01a, Q01b, Q01c, Q14a, Q14b. -/
import Derived.Lib.ItoaNum
import Derived.Test.YtggjaoibcfgofaaGreatDoorFacts0
namespace Go.Proofs.YtggjaoibcfgofaaGreatDoor
open Am Go.Proofs
set_option maxRecDepth 100000
namespace C
def weftlaw32_QueryFacts.r0 : List AStep := [
  ⟨some 6, none, .op (.mov (.c (.b false)))⟩]
def weftlaw32_QueryFacts.r1 : List AStep := [
  ⟨some 7, none, .op (.mov (.t 0))⟩,
  ⟨some 8, none, .call n_weftlaw17_GreatFacts [.t 7]⟩,
  ⟨some 9, none, .op (.mov (.t 8))⟩,
  ⟨some 10, (some (9, false)), .op (.mov (.t 1))⟩,
  ⟨some 11, (some (9, false)), .op (.len true (.t 10))⟩,
  ⟨some 12, (some (9, false)), .op (.bin .gtr (.t 11) (.c (.i .i64 200)))⟩,
  ⟨some 13, none, .op (.pick (.t 9) (.c (.b true)) (.t 12))⟩,
  ⟨some 14, none, .op (.mov (.t 13))⟩,
  ⟨some 15, (some (14, false)), .op (.mov (.t 2))⟩,
  ⟨some 16, (some (14, false)), .op (.len true (.t 15))⟩,
  ⟨some 17, (some (14, false)), .op (.bin .gtr (.t 16) (.c (.i .i64 200)))⟩,
  ⟨some 18, none, .op (.pick (.t 14) (.c (.b true)) (.t 17))⟩]
def weftlaw32_QueryFacts.r2 : List AStep := [
  ⟨some 6, none, .op (.mov (.c (.b true)))⟩]
def weftlaw32_QueryFacts.r3 : List AStep := [
  ⟨some 19, none, .op (.mov (.t 0))⟩,
  ⟨some 20, none, .op (.mov (.t 1))⟩,
  ⟨some 21, none, .op (.mov (.t 2))⟩,
  ⟨some 22, none, .call n_query_Alias [.t 19, .t 20, .t 21]⟩,
  ⟨some 23, none, .op (.mov (.t 0))⟩,
  ⟨some 24, none, .op (.mov (.t 1))⟩,
  ⟨some 25, none, .op (.mov (.t 2))⟩,
  ⟨some 26, none, .call n_weftref32_Alias [.t 23, .t 24, .t 25]⟩,
  ⟨some 27, none, .op (.eqk .bool false (.t 22) (.t 26))⟩,
  ⟨some 28, none, .op (.mov (.t 27))⟩,
  ⟨some 29, (some (28, true)), .op (.mov (.t 0))⟩,
  ⟨some 30, (some (28, true)), .op (.mov (.t 1))⟩,
  ⟨some 31, (some (28, true)), .call n_query_Callees [.t 29, .t 30]⟩,
  ⟨some 32, (some (28, true)), .op (.mov (.t 0))⟩,
  ⟨some 33, (some (28, true)), .op (.mov (.t 1))⟩,
  ⟨some 34, (some (28, true)), .call n_weftref32_Callees [.t 32, .t 33]⟩,
  ⟨some 35, (some (28, true)), .call n_weftref05_Same [.t 31, .t 34]⟩,
  ⟨some 36, none, .op (.pick (.t 28) (.t 35) (.c (.b false)))⟩,
  ⟨some 37, none, .op (.mov (.t 36))⟩,
  ⟨some 38, (some (37, true)), .op (.mov (.t 0))⟩,
  ⟨some 39, (some (37, true)), .op (.mov (.t 1))⟩,
  ⟨some 40, (some (37, true)), .call n_query_Holders [.t 38, .t 39]⟩,
  ⟨some 41, (some (37, true)), .op (.mov (.t 0))⟩,
  ⟨some 42, (some (37, true)), .op (.mov (.t 1))⟩,
  ⟨some 43, (some (37, true)), .call n_weftref32_Holders [.t 41, .t 42]⟩,
  ⟨some 44, (some (37, true)), .call n_weftref05_Same [.t 40, .t 43]⟩,
  ⟨some 45, none, .op (.pick (.t 37) (.t 44) (.c (.b false)))⟩,
  ⟨some 46, none, .op (.mov (.t 45))⟩,
  ⟨some 47, (some (46, true)), .call n_weftlaw32_works []⟩,
  ⟨some 48, none, .op (.pick (.t 46) (.t 47) (.c (.b false)))⟩,
  ⟨some 6, none, .op (.mov (.t 48))⟩]
def weftlaw32_QueryFacts : AFunc := ⟨49, [.t 6], .seq (.post [0, 1, 2] (.region weftlaw32_QueryFacts.r0)) (.seq (.seq (.post [0, 1, 2, 18] (.region weftlaw32_QueryFacts.r1)) (.post [0, 1, 2] (.cond (.t 18) (.seq (.post [6] (.region weftlaw32_QueryFacts.r2)) (.ret)) (.skip)))) (.seq (.post [6] (.region weftlaw32_QueryFacts.r3)) (.ret)))⟩
theorem weftlaw32_QueryFacts.ok : okFunc Tryz.prog Tryz.f3 weftlaw32_QueryFacts = true := by kernel_rfl
theorem weftlaw32_QueryFacts.at : Tryz.prog.funcs[n_weftlaw32_QueryFacts]? = some Tryz.f3 := Tryz.func3
end C
end Go.Proofs.YtggjaoibcfgofaaGreatDoor
namespace Go.Proofs.YtggjaoibcfgofaaGreatDoor.Am
open Go Go.RowKit
set_option linter.unusedSimpArgs false
set_option linter.unusedVariables false
@[simp] theorem nlit_eq' (a n : Nat) : (no_index (OfNat.ofNat n : Int) = (a : Int)) = (OfNat.ofNat n = a) := propext Int.ofNat_inj
section
variable {P : Program} {r : List AStep} {K : Fr → Hp → Prop} {F : Fr} {H : Hp} {d : Option Nat}
section
variable {bs : List Nat} {i j : Nat} {A B C D : Hp} {p q : Hp → Prop}
end
variable {bs : List Nat} {j : Nat} {log : List LogE}
end
section
variable {P : Program} {n : Nat} {Q : Post} {F : Fr} {H : Hp}
end
section
variable {P : Program} {bs alx : List Nat} {N j : Nat} {r : List AStep} {log : List LogA} {als pend : List PendE} {K : Fr → Hp → Prop} {F : Fr} {C : Hp} {d : Option Nat}
section
variable {i j : Nat} {C0 C1 D0 D1 : Hp} {p0 p1 q0 q1 : List PendE} {x y : Hp → Prop}
end
end
end Go.Proofs.YtggjaoibcfgofaaGreatDoor.Am
namespace Go.Proofs.YtggjaoibcfgofaaGreatDoor.Am
open Go Go.RowKit
set_option linter.unusedSimpArgs false
set_option linter.unusedVariables false
theorem wrap_u8 {n : Int} (h0 : 0 ≤ n) (h1 : n < 256) : IntKind.u8.wrap n = n := by
  simp [IntKind.wrap, IntKind.bits, IntKind.signed]; omega
end Go.Proofs.YtggjaoibcfgofaaGreatDoor.Am
namespace Go.Proofs.YtggjaoibcfgofaaGreatDoor
open Am C
set_option linter.unusedSimpArgs false
set_option linter.unusedVariables false
section
open Go Go.RowKit
end
theorem digit_ok (c : UInt8) (H : Hp) : AC Tryz.prog n_weftref01_digit [.i .u8 c.toNat] H (fun v H' => v = .b (digB c) ∧ H' = H) := by
  refine AC.code weftref01_digit.at weftref01_digit.ok ?_
  simp only [weftref01_digit]
  refine AX.seq (AX.reg ?_)
  simp [weftref01_digit.r0]
  refine AX.seq (AX.reg ?_)
  by_cases h : (48 : Int) ≤ c.toNat <;> simp [weftref01_digit.r1, h]
  all_goals
    refine AX.ret ?_
    simp [digB]
    omega
theorem letter_ok (c : UInt8) (H : Hp) : AC Tryz.prog n_weftref01_letter [.i .u8 c.toNat] H (fun v H' => v = .b (letB c) ∧ H' = H) := by
  refine AC.code weftref01_letter.at weftref01_letter.ok ?_
  simp only [weftref01_letter]
  refine AX.seq (AX.reg ?_)
  simp [weftref01_letter.r0]
  refine AX.seq (AX.reg ?_)
  by_cases h : (65 : Int) ≤ c.toNat <;> by_cases h2 : (c.toNat : Int) ≤ 90 <;> by_cases h3 : (97 : Int) ≤ c.toNat <;> by_cases h4 : (c.toNat : Int) ≤ 122 <;> simp [weftref01_letter.r1, h, h2, h3, h4]
  all_goals
    refine AX.ret ?_
    simp
    apply Bool.eq_iff_iff.2
    simp [letB]
    omega
def SplitInv (s : Str) (H : Hp) (m : Nat) (F : Fr) (H' : Hp) : Prop :=
  ∃ i, i ≤ s.length ∧ m = s.length - i ∧ (s.take i).all (inB (wordB s)) = true ∧ H' = H ∧ F = [(0, .s s), (4, .b (wordB s)), (5, .i .i64 i)]
theorem Split_ok (s : Str) (hs : s.length ≤ 9223372036854775807) (H : Hp) : AC Tryz.prog n_weftref01_Split [.s s] H (fun v H' => v = .tup [.s (splitS s).1, .s (splitS s).2] ∧ H' = H) := by
  refine AC.code weftref01_Split.at weftref01_Split.ok ?_
  simp only [weftref01_Split]
  refine AX.seq (AX.reg ?_)
  simp [weftref01_Split.r0]
  refine AX.stp [(0, .s s), (4, .b (wordB s))] ?_ ?_
  · by_cases h : 0 < s.length
    · simp [weftref01_Split.r1, h]
      refine AC.fix (letter_ok _ _) ?_
      simp [wordB, h]
    · simp [weftref01_Split.r1, h, wordB]
  refine AX.seq (AX.reg ?_)
  simp [weftref01_Split.r2]
  refine AX.seq (AX.pblock (AX.loop (SplitInv s H) s.length ⟨_, _, .refl _ _, 0, by omega, by omega, by simp, rfl, rfl⟩ ?_))
  rintro m F H' ⟨i, hi, rfl, hx, rfl, rfl⟩
  simp only [weftref01_Split.l0]
  obtain ⟨b, hb0⟩ : ∃ b, b = decide (∃ h : i < s.length, inB (wordB s) s[i] = true) := ⟨_, rfl⟩
  refine AX.seq (AX.test b [(0, .s s), (4, .b (wordB s)), (5, .i .i64 i), (32, .b b)] ?_ rfl (fun hb => AX.skip ?_) (fun hb => AX.exit ?_))
  · by_cases hia : i < s.length
    · simp [weftref01_Split.r3, hia]
      refine AC.fix (digit_ok _ _) ?_
      by_cases hd : digB s[i] = true
      · simp [hd, hb0, inB, hia]
      · by_cases hw : wordB s = true
        · simp [hd, hw, hia]
          refine AC.fix (letter_ok _ _) ?_
          simp [hd, hw, hb0, inB, hia]
        · simp [hd, hw, hia, hb0, inB]
    · simp [weftref01_Split.r3, hia, hb0]
  · subst hb
    obtain ⟨hia, hlt'⟩ := of_decide_eq_true hb0.symm
    simp
    refine AX.pblock (AX.reg ?_)
    simp [weftref01_Split.r4, succ_of_lt hia hs]
    refine ⟨s.length - (i + 1), by omega, _, _, .refl _ _, i + 1, by omega, rfl, ?_, rfl, by simp⟩
    rw [List.take_add_one, List.getElem?_eq_getElem hia, List.all_append, hx]
    simp [hlt']
  · subst hb
    have hn := of_decide_eq_false hb0.symm
    have := takeWhile_at hx hi fun x hx => by
      obtain ⟨h1, h2⟩ := List.getElem?_eq_some_iff.1 hx
      cases hc : inB (wordB s) x with
      | false => rfl
      | true => exact absurd ⟨h1, by rw [h2]; exact hc⟩ hn
    simp
    refine AX.seq (AX.drw ?_)
    simp [weftref01_Split.r5, hi]
    refine AX.ret ?_
    simp [splitS, this]
end Go.Proofs.YtggjaoibcfgofaaGreatDoor
namespace Go.Proofs.YtggjaoibcfgofaaGreatDoor
open Am C
set_option linter.unusedSimpArgs false
set_option linter.unusedVariables false
theorem dgB_toNat (n : Nat) : (dgB n).toNat = 48 + n % 10 := by unfold dgB; rw [UInt8.toNat_ofNat']; omega
def PlainInv (n0 : Nat) (H : Hp) (m : Nat) (F : Fr) (H' : Hp) : Prop :=
  ∃ s, H.Ext H' ∧ (∀ id blk, H'.get id = some blk → id < H'.next) ∧ m < 18446744073709551616 ∧ decS n0 = (if m < 10 then [] else decS (m / 10)) ++ s ∧ F = [(0, .i .u64 m), (3, .s s)]
theorem dgB_eq (n : Nat) : Go.IntKind.u8.wrap (48 + Go.IntKind.u8.wrap ((n : Int).tmod 10)) = ((dgB n).toNat : Int) := by
  have h : ((n : Int).tmod 10) = ((n % 10 : Nat) : Int) := by rw [Int.tmod_eq_emod_of_nonneg (by omega)]; omega
  rw [h, wrap_u8 (n := ((n % 10 : Nat) : Int)) (by omega) (by omega), wrap_u8 (by omega) (by omega), dgB_toNat]; omega
theorem plain_ok (n : Nat) (hn : n < 18446744073709551616) (H : Hp) : AC Tryz.prog n_weftref01_plain [.i .u64 n] H (fun v H' => v = .s (decS n) ∧ H' = H) := by
  refine AC.codeP weftref01_plain.at weftref01_plain.ok (free_s _) fun hlt => ?_
  simp only [weftref01_plain]
  refine AX.seq (AX.reg ?_)
  simp [weftref01_plain.r0]
  refine AX.seq (AX.reg ?_)
  simp [weftref01_plain.r1, repl, dgB_eq]
  refine AX.seq (AX.pblock (AX.loop (PlainInv n H) n ⟨_, _, .refl _ _, [dgB n], .add hlt _, Hp.add_lt hlt _, hn, ?_, rfl⟩ ?_))
  · by_cases h : n < 10
    · simp [h, decS_small]
    · simp only [h, if_false]; exact decS_big h
  rintro m F H' ⟨s, hx, hlt', hm, hs, rfl⟩
  simp only [weftref01_plain.l0]
  refine AX.seq (AX.seq (AX.reg ?_))
  simp [weftref01_plain.r2]
  refine AX.pcond rfl (fun hb => AX.skip ?_) (fun hb => AX.exit ?_)
  case refine_2 =>
    simp at hb
    simp
    refine AX.seq (AX.reg ?_)
    simp [weftref01_plain.r5]
    refine AX.ret ?_
    rw [if_pos (by omega)] at hs
    simp [hs]
    exact ⟨hx, .refl _⟩
  simp at hb
  simp
  have hq : (m : Int).tdiv 10 = ((m / 10 : Nat) : Int) := by rw [Int.tdiv_eq_ediv_of_nonneg (by omega)]; omega
  refine AX.pblock (AX.seq (AX.reg ?_))
  simp [weftref01_plain.r3, hq, -Int.natCast_ediv, wrap_u64 (show 0 ≤ ((m / 10 : Nat) : Int) by omega) (by omega)]
  have hl : s.length ≤ 20 := by
    have := decS_len 19 n (by omega)
    rw [hs, List.length_append] at this; omega
  refine AX.reg ?_
  simp [weftref01_plain.r4, repl, dgB_eq, -Int.natCast_ediv, show 1 + s.length ≤ 9223372036854775807 by omega]
  refine ⟨m / 10, by omega, _, _, .refl _ _, [dgB (m / 10)] ++ s, hx.trans (.add hlt' _), Hp.add_lt hlt' _, by omega, ?_, rfl⟩
  rw [hs, if_neg (by omega)]
  by_cases h : m / 10 < 10
  · simp [h, decS_small]
  · rw [if_neg h, decS_big h, List.append_assoc]
end Go.Proofs.YtggjaoibcfgofaaGreatDoor
namespace Go.Proofs.YtggjaoibcfgofaaGreatDoor
open Am C
set_option linter.unusedSimpArgs false
set_option linter.unusedVariables false
theorem RText_ok (n : Nat) (hn : n ≤ 9223372036854775807) (H : Hp) : AC Tryz.prog n_weftref01_Text [.i .i64 n] H (fun v H' => v = .s (decS n) ∧ H' = H) := by
  refine AC.code weftref01_Text.at weftref01_Text.ok ?_
  simp only [weftref01_Text]
  refine AX.seq (AX.reg ?_)
  simp [weftref01_Text.r0]
  refine AX.seq (AX.seq (AX.reg ?_))
  simp [weftref01_Text.r1]
  refine AX.pcond rfl (fun hb => AX.seq (AX.reg ?_)) (fun hb => by simp at hb)
  simp [weftref01_Text.r2, wrap_u64 (show 0 ≤ (n : Int) by omega) (by omega)]
  refine AC.fix (plain_ok n (by omega) _) ?_
  simp
  refine AX.ret ?_
  simp
theorem valD_ge (n : Nat) (s : Str) : n ≤ s.foldl (fun n c => 10 * n + (c.toNat - 48)) n := by
  induction s generalizing n with
  | nil => simp
  | cons c s ih => simp only [List.foldl_cons]; exact Nat.le_trans (by omega) (ih _)
theorem valD_take (s : Str) (i : Nat) : valD (s.take i) ≤ valD s := by
  have : valD s = (s.drop i).foldl (fun n c => 10 * n + (c.toNat - 48)) (valD (s.take i)) := by
    unfold valD; rw [← List.foldl_append, List.take_append_drop]
  rw [this]; exact valD_ge _ _
def RReadInv (s : Str) (H : Hp) (m : Nat) (F : Fr) (H' : Hp) : Prop :=
  ∃ i, i ≤ s.length ∧ m = s.length - i ∧ (s.take i).all digB = true ∧ H' = H ∧ F = [(0, .s s), (4, .i .i64 i)]
def RReadInv2 (s : Str) (H : Hp) (m : Nat) (F : Fr) (H' : Hp) : Prop :=
  ∃ i, i ≤ s.length ∧ m = s.length - i ∧ valD (s.take i) ≤ 268435456 ∧ H' = H ∧ F = [(0, .s s), (5, .i .i64 (valD (s.take i))), (6, .i .i64 i)]
theorem RRead_ok (s : Str) (hs : s.length ≤ 9223372036854775807) (H : Hp) : AC Tryz.prog n_weftref01_Read [.s s] H (fun v H' => v = .tup [.i .i64 (readS s).1, .i .i64 (readS s).2] ∧ H' = H) := by
  refine AC.code weftref01_Read.at weftref01_Read.ok ?_
  simp only [weftref01_Read]
  refine AX.seq (AX.reg ?_)
  simp [weftref01_Read.r0]
  refine AX.seq (AX.seq (AX.reg ?_))
  simp [weftref01_Read.r1]
  refine AX.pcond rfl (fun hb => ?_) (fun hb => AX.skip ?_)
  · simp at hb
    refine AX.seq (AX.reg ?_)
    simp [weftref01_Read.r2]
    refine AX.ret ?_
    simp [readS, hb]
  simp at hb
  simp
  refine AX.seq (AX.seq (AX.reg ?_))
  simp [weftref01_Read.r3]
  refine AX.pblock (AX.loop (RReadInv s H) s.length ⟨_, _, .refl _ _, 0, by omega, by omega, by simp, rfl, rfl⟩ ?_)
  rintro m F H' ⟨i, hi, rfl, hx, rfl, rfl⟩
  simp only [weftref01_Read.l0]
  refine AX.seq (AX.seq (AX.reg ?_))
  simp [weftref01_Read.r4]
  refine AX.pcond rfl (fun hc => AX.skip ?_) (fun hc => AX.exit ?_)
  · simp at hc
    simp
    refine AX.seq (AX.pblock (AX.seq (AX.reg ?_)))
    simp [weftref01_Read.r5, hc]
    refine AC.fix (digit_ok _ _) ?_
    simp
    refine AX.pcond rfl (fun hd => ?_) (fun hd => AX.skip ?_)
    · simp at hd
      refine AX.seq (AX.reg ?_)
      simp [weftref01_Read.r6]
      refine AX.ret ?_
      have : s.all digB = false := by
        rw [List.all_eq_false]; exact ⟨_, List.getElem_mem hc, by simp [hd]⟩
      simp [readS, hb, this]
    simp at hd
    simp
    refine AX.reg ?_
    simp [weftref01_Read.r7, succ_of_lt hc hs]
    refine ⟨s.length - (i + 1), by omega, _, _, .refl _ _, i + 1, by omega, rfl, ?_, rfl, by simp⟩
    rw [List.take_add_one, List.getElem?_eq_getElem hc, List.all_append, hx]
    simp [hd]
  simp at hc
  have hall : s.all digB = true := by rwa [List.take_of_length_le (by omega)] at hx
  have hp : 0 < s.length := List.length_pos_iff.2 hb
  simp
  refine AX.seq (AX.test (decide (s[0]? = some 48 ∧ 1 < s.length)) [(0, .s s), (27, .b (decide (s[0]? = some 48 ∧ 1 < s.length)))] ?_ rfl (fun hz => AX.seq (AX.reg ?_)) (fun hz => AX.skip ?_))
  · have e : ((s[0].toNat : Int) = 48) = (s[0] = 48) := by
      refine propext ⟨fun h => UInt8.toNat_inj.1 (by have : s[0].toNat = 48 := by omega
                                                     rw [this]; rfl), fun h => by rw [h]; rfl⟩
    by_cases h : s[0] = 48 <;> simp [weftref01_Read.r8, hp, e, h]
  · simp [weftref01_Read.r9]
    refine AX.ret ?_
    simp only [decide_eq_true_eq] at hz
    have : readS s = (0, 3) := by unfold readS; rw [if_neg hb, if_neg (by simp [hall]), if_pos hz]
    simp [this]
  simp only [decide_eq_false_iff_not] at hz
  have hr : readS s = if 268435456 < valD s then (0, 2) else (valD s, 0) := by unfold readS; rw [if_neg hb, if_neg (by simp [hall]), if_neg hz]
  simp
  refine AX.seq (AX.reg ?_)
  simp [weftref01_Read.r10]
  refine AX.seq (AX.seq (AX.reg ?_))
  simp [weftref01_Read.r11]
  refine AX.pblock (AX.loop (RReadInv2 s H') s.length ⟨_, _, .refl _ _, 0, by omega, by omega, by simp [valD], rfl, by simp [valD]⟩ ?_)
  clear hx hi hc
  rintro m F H ⟨i, hi, rfl, hx, rfl, rfl⟩
  simp only [weftref01_Read.l1]
  refine AX.seq (AX.seq (AX.reg ?_))
  simp [weftref01_Read.r12]
  refine AX.pcond rfl (fun hc => AX.skip ?_) (fun hc => AX.exit ?_)
  case refine_2 =>
    simp at hc
    have e : s.take i = s := List.take_of_length_le hc
    rw [e] at hx
    simp
    refine AX.seq (AX.reg ?_)
    simp [weftref01_Read.r17]
    refine AX.ret ?_
    rw [hr, if_neg (by omega), e]; simp
  simp at hc
  have hd : digB s[i] = true := List.all_eq_true.1 hall _ (List.getElem_mem hc)
  have hd' : 48 ≤ s[i].toNat ∧ s[i].toNat ≤ 57 := of_decide_eq_true hd
  have ev : valD (s.take (i + 1)) = 10 * valD (s.take i) + (s[i].toNat - 48) := by
    unfold valD; rw [List.take_add_one, List.getElem?_eq_getElem hc, List.foldl_append]; rfl
  have e1 : Go.IntKind.i64.wrap (10 * (valD (s.take i) : Int)) = ((10 * valD (s.take i) : Nat) : Int) := by rw [wrap_i64 (by omega) (by omega)]; omega
  have e2 : Go.IntKind.u8.wrap ((s[i].toNat : Int) - 48) = ((s[i].toNat - 48 : Nat) : Int) := by rw [wrap_u8 (by omega) (by omega)]; omega
  have e3 : Go.IntKind.i64.wrap ((s[i].toNat - 48 : Nat) : Int) = ((s[i].toNat - 48 : Nat) : Int) := by rw [wrap_i64 (by omega) (by omega)]
  have e4 : Go.IntKind.i64.wrap (((10 * valD (s.take i) : Nat) : Int) + ((s[i].toNat - 48 : Nat) : Int)) = ((valD (s.take (i + 1)) : Nat) : Int) := by rw [ev, wrap_i64 (by omega) (by omega)]; omega
  simp
  refine AX.seq (AX.pblock (AX.seq (AX.reg ?_)))
  simp only [weftref01_Read.r13]
  simp [hc, -Int.natCast_mul, -Int.natCast_add, e1, e2, e3, e4]
  refine AX.seq (AX.reg ?_)
  simp [weftref01_Read.r14]
  refine AX.pcond rfl (fun hd => ?_) (fun hd => AX.skip ?_)
  · simp at hd
    refine AX.seq (AX.reg ?_)
    simp [weftref01_Read.r15]
    refine AX.ret ?_
    have := valD_take s (i + 1)
    rw [hr, if_pos (by omega)]; simp
  simp at hd
  simp
  refine AX.reg ?_
  simp [weftref01_Read.r16, succ_of_lt hc hs]
  exact ⟨s.length - (i + 1), by omega, _, _, .refl _ _, i + 1, by omega, rfl, by omega, rfl, by simp⟩
def RNameInv (s : Str) (H : Hp) (m : Nat) (F : Fr) (H' : Hp) : Prop :=
  ∃ i, i ≤ s.length ∧ m = s.length - i ∧ (s.take i).all (inB true) = true ∧ H' = H ∧ F = [(0, .s s), (3, .i .i64 i)]
theorem RName_ok (s : Str) (hs : s.length ≤ 9223372036854775807) (H : Hp) : AC Tryz.prog n_weftref01_Name [.s s] H (fun v H' => v = .b (nameB s) ∧ H' = H) := by
  refine AC.code weftref01_Name.at weftref01_Name.ok ?_
  simp only [weftref01_Name]
  refine AX.seq (AX.reg ?_)
  simp [weftref01_Name.r0]
  refine AX.seq (AX.test (!(decide (s.length ≤ 16) && wordB s)) [(0, .s s), (16, .b (!(decide (s.length ≤ 16) && wordB s)))] ?_ rfl (fun hz => AX.seq (AX.reg ?_)) (fun hz => AX.skip ?_))
  · by_cases h0 : s = []
    · subst h0; simp [weftref01_Name.r1, wordB]
    · have hp : 0 < s.length := List.length_pos_iff.2 h0
      have h0' : s.isEmpty = false := by simpa using h0
      by_cases h1 : s.length ≤ 16
      · simp [weftref01_Name.r1, h0, h0', h1, hp, show ¬ 16 < s.length by omega]
        refine AC.fix (letter_ok _ _) ?_
        simp [wordB, hp]
      · simp [weftref01_Name.r1, h0, h0', h1, hp, show 16 < s.length by omega]
  · simp [weftref01_Name.r2]
    refine AX.ret ?_
    have : nameB s = false := by unfold nameB; simp only [Bool.not_eq_true'] at hz; rw [hz]; rfl
    simp [this]
  have hz' : (decide (s.length ≤ 16) && wordB s) = true := by simpa only [Bool.not_eq_false'] using hz
  simp
  refine AX.seq (AX.seq (AX.reg ?_))
  simp [weftref01_Name.r3]
  refine AX.pblock (AX.loop (RNameInv s H) s.length ⟨_, _, .refl _ _, 0, by omega, by omega, by simp, rfl, rfl⟩ ?_)
  rintro m F H' ⟨i, hi, rfl, hx, rfl, rfl⟩
  simp only [weftref01_Name.l0]
  refine AX.seq (AX.seq (AX.reg ?_))
  simp [weftref01_Name.r4]
  refine AX.pcond rfl (fun hc => AX.skip ?_) (fun hc => AX.exit ?_)
  case refine_2 =>
    simp at hc
    rw [List.take_of_length_le hc] at hx
    simp
    refine AX.seq (AX.reg ?_)
    simp [weftref01_Name.r8]
    refine AX.ret ?_
    have : nameB s = true := by unfold nameB; rw [hz', hx]; rfl
    simp [this]
  simp at hc
  simp
  refine AX.seq (AX.pblock (AX.test (!(inB true s[i])) [(0, .s s), (3, .i .i64 i), (34, .b (!(inB true s[i])))] ?_ rfl (fun hz => AX.seq (AX.reg ?_)) (fun hz => AX.skip ?_)))
  · by_cases h1 : letB s[i] = true
    · simp [weftref01_Name.r5, hc]
      refine AC.fix (letter_ok _ _) ?_
      simp [h1, inB]
    · simp [weftref01_Name.r5, hc]
      refine AC.fix (letter_ok _ _) ?_
      simp [h1, hc]
      refine AC.fix (digit_ok _ _) ?_
      simp [h1, inB]
  · simp [weftref01_Name.r6]
    refine AX.ret ?_
    have : nameB s = false := by
      unfold nameB
      have : s.all (inB true) = false := by rw [List.all_eq_false]; exact ⟨_, List.getElem_mem hc, by simpa using hz⟩
      rw [this, Bool.and_false]
    simp [this]
  · simp
    refine AX.reg ?_
    simp [weftref01_Name.r7, succ_of_lt hc hs]
    refine ⟨s.length - (i + 1), by omega, _, _, .refl _ _, i + 1, by omega, rfl, ?_, rfl, by simp⟩
    rw [List.take_add_one, List.getElem?_eq_getElem hc, List.all_append, hx]
    simpa using hz
end Go.Proofs.YtggjaoibcfgofaaGreatDoor
namespace Go.Proofs.YtggjaoibcfgofaaGreatDoor
open Am C
set_option linter.unusedSimpArgs false
set_option linter.unusedVariables false
theorem count_ok (n : Int) (H : Hp) : AC Tryz.prog n_weftref14_count [.i .i64 n] H (fun v H' => v = .b (countB n) ∧ H' = H) := by
  refine AC.code weftref14_count.at weftref14_count.ok ?_
  simp only [weftref14_count]
  refine AX.seq (AX.reg ?_)
  simp [weftref14_count.r0]
  refine AX.seq (AX.reg ?_)
  by_cases h : (0 : Int) ≤ n <;> simp [weftref14_count.r1, h]
  all_goals
    refine AX.ret ?_
    simp [countB, h]
theorem Right_ok (d : Nd) (h1 : d.fn.length ≤ 9223372036854775807) (h2 : d.name.length ≤ 9223372036854775807) (H : Hp) : AC Tryz.prog n_weftref14_Right [nv d] H (fun v H' => v = .b (rightN d) ∧ H' = H) := by
  obtain ⟨k, fn, cp, nm, n, cl⟩ := d
  refine AC.code weftref14_Right.at weftref14_Right.ok ?_
  simp only [weftref14_Right]
  refine AX.seq (AX.reg ?_)
  simp [weftref14_Right.r0, nv, Nd.cs]
  refine AX.seq (AX.test (bad1 ⟨k, fn, cp, nm, n, cl⟩) [(1, .fp [.i .i64 k, .s fn, .i .i64 cp, .s nm, .i .i64 n, .i .i64 cl] 0), (35, .b (bad1 ⟨k, fn, cp, nm, n, cl⟩))] ?_ rfl (fun hz => AX.seq (AX.reg ?_)) (fun hz => AX.skip ?_))
  · by_cases a1 : k < 1
    · simp [weftref14_Right.r1, a1, bad1]
    by_cases a2 : 7 < k
    · simp [weftref14_Right.r1, a1, a2, bad1]
    simp [weftref14_Right.r1, a1, a2]
    refine AC.fix (count_ok _ _) ?_
    by_cases a3 : countB cp = true
    case neg => simp [a3, bad1]
    simp [a3]
    refine AC.fix (count_ok _ _) ?_
    by_cases a4 : countB n = true
    case neg => simp [a4, bad1]
    by_cases a5 : cl = -1
    · simp [a4, a5, bad1, a1, a2, a3]
    simp [a4, a5]
    refine AC.fix (count_ok _ _) ?_
    simp [bad1, a1, a2, a3, a4, a5]
  · simp [weftref14_Right.r2]
    refine AX.ret ?_
    simp [rightN, hz]
  simp
  refine AX.stp [(1, .fp [.i .i64 k, .s fn, .i .i64 cp, .s nm, .i .i64 n, .i .i64 cl] 0), (3, .b (namedB k))] ?_ ?_
  · by_cases a1 : k = 1
    · simp [weftref14_Right.r3, a1, namedB]
    by_cases a2 : k = 5 <;> simp [weftref14_Right.r3, a1, a2, namedB]
  refine AX.stp [(1, .fp [.i .i64 k, .s fn, .i .i64 cp, .s nm, .i .i64 n, .i .i64 cl] 0), (3, .b (namedB k)), (4, .b (numB k))] ?_ ?_
  · by_cases a1 : k = 2
    · simp [weftref14_Right.r4, a1, numB]
    by_cases a2 : k = 3 <;> simp [weftref14_Right.r4, a1, a2, numB]
  refine AX.seq (AX.pblock (AX.test (bad2 ⟨k, fn, cp, nm, n, cl⟩) [(1, .fp [.i .i64 k, .s fn, .i .i64 cp, .s nm, .i .i64 n, .i .i64 cl] 0), (3, .b (namedB k)), (4, .b (numB k)), (62, .b (bad2 ⟨k, fn, cp, nm, n, cl⟩))] ?_ rfl (fun hz2 => AX.seq (AX.reg ?_)) (fun hz2 => ?_)))
  · have e : fn.isEmpty = decide (fn = []) := by cases fn <;> simp
    by_cases a1 : k = 5 <;> by_cases a2 : fn = []
    · by_cases a3 : cp = 0 <;> simp [weftref14_Right.r5, a1, a2, a3, bad2]
    · simp [weftref14_Right.r5, a1, a2, e, bad2]
    · simp [weftref14_Right.r5, a1, a2, e, bad2]
    · simp [weftref14_Right.r5, a1, a2, e]
      refine AC.fix (RName_ok _ h1 _) ?_
      by_cases a3 : nameB fn = true <;> simp [a1, a2, a3, e, bad2]
  · simp [weftref14_Right.r6]
    refine AX.ret ?_
    simp [rightN, hz2]
  simp
  refine AX.test (bad3 ⟨k, fn, cp, nm, n, cl⟩) [(1, .fp [.i .i64 k, .s fn, .i .i64 cp, .s nm, .i .i64 n, .i .i64 cl] 0), (4, .b (numB k)), (91, .b (bad3 ⟨k, fn, cp, nm, n, cl⟩))] ?_ rfl (fun hz3 => AX.seq (AX.reg ?_)) (fun hz3 => ?_)
  · have e : nm.isEmpty = decide (nm = []) := by cases nm <;> simp
    by_cases a1 : namedB k = true <;> by_cases a2 : nm = []
    · simp [weftref14_Right.r7, a1, a2, bad3]
    · simp [weftref14_Right.r7, a1, a2, e]
      refine AC.fix (RName_ok _ h2 _) ?_
      simp [a1, a2, e, bad3]
    · simp [weftref14_Right.r7, a1, a2, e, bad3]
    · simp [weftref14_Right.r7, a1, a2, e, bad3]
  · simp [weftref14_Right.r8]
    refine AX.ret ?_
    simp [rightN, hz3]
  simp
  refine AX.test (bad4 ⟨k, fn, cp, nm, n, cl⟩) [(1, .fp [.i .i64 k, .s fn, .i .i64 cp, .s nm, .i .i64 n, .i .i64 cl] 0), (106, .b (bad4 ⟨k, fn, cp, nm, n, cl⟩))] ?_ rfl (fun hz4 => AX.seq (AX.reg ?_)) (fun hz4 => AX.skip ?_)
  · by_cases a3 : k = 3
    · subst a3
      by_cases a2 : n = 0 <;> simp [weftref14_Right.r9, show numB 3 = true from rfl, a2, bad4]
    · by_cases a1 : numB k = true <;> by_cases a2 : n = 0 <;> simp [weftref14_Right.r9, a1, a2, a3, bad4]
  · simp [weftref14_Right.r10]
    refine AX.ret ?_
    simp [rightN, hz4]
  simp
  refine AX.seq (AX.reg ?_)
  by_cases a1 : 5 ≤ k <;> simp [weftref14_Right.r11, a1]
  all_goals
    refine AX.ret ?_
    simp [rightN, hz, hz2, hz3, hz4, a1]
end Go.Proofs.YtggjaoibcfgofaaGreatDoor
namespace Go.Proofs.YtggjaoibcfgofaaGreatDoor
open Am C
set_option linter.unusedSimpArgs false
set_option linter.unusedVariables false
def partA : Str → Nat × Str
  | [] => (0, [])
  | c :: r => if c = 126 then ((readS (splitS r).1).1, (splitS r).2) else (0, c :: r)
def partB : Str → Str × Str × Str
  | [] => ([], [], [])
  | c :: r => if c = 43 then ([], [], c :: r) else ([c], (splitS r).1, if c = 40 ∧ (splitS r).2 = [41] then [] else (splitS r).2)
def partC : Str → Int
  | [] => -1
  | c :: r => if c = 43 then (readS r).1 else -1
def partsV (s : Str) : V :=
  let a := splitS s
  let b := partA a.2
  let c := partB b.2
  .tup [.s a.1, .i .i64 b.1, .s c.1, .s c.2.1, .i .i64 (partC c.2.2)]
theorem partA_len (s : Str) : (partA s).2.length ≤ s.length := by
  cases s with
  | nil => simp [partA]
  | cons c r => simp only [partA]; split
                · have := splitS_len r; simp; omega
                · simp
theorem partB_len (s : Str) : (partB s).2.2.length ≤ s.length := by
  cases s with
  | nil => simp [partB]
  | cons c r => simp only [partB]; split
                · simp
                · have := splitS_len r
                  split
                  · simp
                  · simp; omega
theorem parts_ok (s : Str) (hs : s.length ≤ 9223372036854775807) (H : Hp) : AC Tryz.prog n_weftref14_parts [.s s] H (fun v H' => v = partsV s ∧ H' = H) := by
  refine AC.code weftref14_parts.at weftref14_parts.ok ?_
  simp only [weftref14_parts]
  refine AX.seq (AX.reg ?_)
  simp [weftref14_parts.r0]
  refine AX.seq (AX.reg ?_)
  simp [weftref14_parts.r1]
  refine AC.fix (Split_ok s hs _) ?_
  simp
  have hr := (splitS_len s).2
  unfold partsV
  rcases ea : splitS s with ⟨fn, rest⟩
  rw [ea] at hr
  simp only at hr ⊢
  refine AX.seq (AX.reg ?_)
  simp [weftref14_parts.r2]
  refine AX.seq (AX.join (F1 := [(7, .s fn), (8, .s (partA rest).2), (9, .i .i64 (partA rest).1), (10, .i .i64 (-1))]) (H1 := H) ?_ ?_)
  · cases rest with
    | nil =>
      refine AX.seq (AX.reg ?_)
      simp [weftref14_parts.r3]
      refine AX.pcond rfl (fun hb => by simp at hb) (fun hb => AX.skip ?_)
      simp [partA]
    | cons c r =>
      have e := u8_eq c 126 (by omega)
      simp at e hr
      refine AX.seq (AX.reg ?_)
      simp [weftref14_parts.r3, e]
      by_cases hc : c = 126
      · refine AX.pcond (t := true) (by simp [hc]) (fun hb => ?_) (fun hb => by simp at hb)
        refine AX.seq (AX.reg ?_)
        simp [weftref14_parts.r4, show (1 : Int) ≤ (r.length : Int) + 1 by omega]
        refine AC.fix (Split_ok r (by omega) _) ?_
        simp
        have hl := splitS_len r
        refine AX.seq (AX.reg ?_)
        simp [weftref14_parts.r5]
        refine AC.fix (RRead_ok _ (by omega) _) ?_
        simp
        refine AX.reg ?_
        simp [weftref14_parts.r6, partA, hc]
      · refine AX.pcond (t := false) (by simp [hc]) (fun hb => by simp at hb) (fun hb => AX.skip ?_)
        simp [partA, hc]
  have hr2 := partA_len rest
  rcases eb : partA rest with ⟨cp, r2⟩
  rw [eb] at hr2
  simp only at hr2 ⊢
  refine AX.seq (AX.reg ?_)
  simp [weftref14_parts.r7]
  refine AX.seq (AX.join (F1 := [(7, .s fn), (8, .s (partB r2).2.2), (9, .i .i64 cp), (10, .i .i64 (-1)), (13, .s (partB r2).1), (14, .s (partB r2).2.1)]) (H1 := H) ?_ ?_)
  · cases r2 with
    | nil =>
      refine AX.seq (AX.reg ?_)
      simp [weftref14_parts.r8]
      refine AX.pcond rfl (fun hb => by simp at hb) (fun hb => AX.skip ?_)
      simp [partB]
    | cons c r =>
      have e := u8_eq c 43 (by omega)
      simp at e hr2
      refine AX.seq (AX.reg ?_)
      simp [weftref14_parts.r8, e]
      by_cases hc : c = 43
      · refine AX.pcond (t := false) (by simp [hc]) (fun hb => by simp at hb) (fun hb => AX.skip ?_)
        simp [partB, hc]
      · refine AX.pcond (t := true) (by simp [hc]) (fun hb => ?_) (fun hb => by simp at hb)
        refine AX.seq (AX.reg ?_)
        simp [weftref14_parts.r9, show (1 : Int) ≤ (r.length : Int) + 1 by omega]
        refine AX.seq (AX.reg ?_)
        simp [weftref14_parts.r10, show (1 : Int) ≤ (r.length : Int) + 1 by omega]
        refine AC.fix (Split_ok r (by omega) _) ?_
        simp
        rcases es : splitS r with ⟨tl, r3⟩
        refine AX.test (decide (c = 40 ∧ r3 = [41])) [(7, .s fn), (8, .s r3), (9, .i .i64 cp), (10, .i .i64 (-1)), (13, .s [c]), (14, .s tl), (59, .b (decide (c = 40 ∧ r3 = [41])))] ?_ rfl (fun hz => AX.reg ?_) (fun hz => AX.skip ?_)
        · by_cases h1 : c = 40
          · simp [weftref14_parts.r11, h1]
          · simp [weftref14_parts.r11, h1, show (c == 40) = false by simpa using h1]
        · simp at hz
          simp [weftref14_parts.r12, partB, hc, es, hz]
        · simp only [decide_eq_false_iff_not] at hz
          simp [partB, hc, es]
          intro h1 h2; exact absurd ⟨h1, h2⟩ hz
  have hr3 := partB_len r2
  rcases ec : partB r2 with ⟨mk, tl, r3⟩
  rw [ec] at hr3
  simp only at hr3 ⊢
  refine AX.seq (AX.join (F1 := [(7, .s fn), (9, .i .i64 cp), (10, .i .i64 (partC r3)), (13, .s mk), (14, .s tl)]) (H1 := H) ?_ ?_)
  · cases r3 with
    | nil =>
      refine AX.seq (AX.reg ?_)
      simp [weftref14_parts.r13]
      refine AX.pcond rfl (fun hb => by simp at hb) (fun hb => AX.skip ?_)
      simp [partC]
    | cons c r =>
      have e := u8_eq c 43 (by omega)
      simp at e hr3
      refine AX.seq (AX.reg ?_)
      simp [weftref14_parts.r13, e]
      by_cases hc : c = 43
      · refine AX.pcond (t := true) (by simp [hc]) (fun hb => ?_) (fun hb => by simp at hb)
        refine AX.reg ?_
        simp [weftref14_parts.r14, show (1 : Int) ≤ (r.length : Int) + 1 by omega]
        refine AC.fix (RRead_ok _ (by omega) _) ?_
        simp [partC, hc]
      · refine AX.pcond (t := false) (by simp [hc]) (fun hb => by simp at hb) (fun hb => AX.skip ?_)
        simp [partC, hc]
  refine AX.seq (AX.reg ?_)
  simp [weftref14_parts.r15]
  refine AX.ret ?_
  simp
end Go.Proofs.YtggjaoibcfgofaaGreatDoor
