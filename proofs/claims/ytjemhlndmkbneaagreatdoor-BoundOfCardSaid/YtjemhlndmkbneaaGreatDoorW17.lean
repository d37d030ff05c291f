/- Part 17 of the proof of the laws of the queries: Q01c, Q14a, Q14b, Q14c. -/
import Derived.Test.YtjemhlndmkbneaaGreatDoorW16
namespace Go.Proofs.YtjemhlndmkbneaaGreatDoor
open Am C
set_option linter.unusedSimpArgs false
set_option linter.unusedVariables false
theorem RText_ok (n : Nat) (hn : n ≤ 9223372036854775807) (H : Hp) : AC Tryz.prog n_weftref01_Text [.i .i64 n] H (fun v H' => v = .s (decS n) ∧ H' = H) := by
  refine AC.code weftref01_Text.at weftref01_Text.ok ?_
  simp only [weftref01_Text]
  refine AX.seq (AX.reg ?_)
  simp [weftref01_Text.r0]
  refine AX.seq (AX.seq (AX.reg ?_))
  simp [weftref01_Text.r1]
  refine AX.pcond rfl (fun hb => AX.seq (AX.reg ?_)) (fun hb => by simp at hb)
  simp [weftref01_Text.r2, wrap_u64 (show 0 ≤ (n : Int) by omega) (by omega)]
  refine AC.fix (plain_ok n (by omega) _) ?_
  simp
  refine AX.ret ?_
  simp
def valD (s : Str) : Nat := s.foldl (fun n c => 10 * n + (c.toNat - 48)) 0
def readS (s : Str) : Nat × Nat :=
  if s = [] then (0, 1) else if s.all digB = false then (0, 3) else if s[0]? = some 48 ∧ 1 < s.length then (0, 3) else if 268435456 < valD s then (0, 2) else (valD s, 0)
theorem valD_ge (n : Nat) (s : Str) : n ≤ s.foldl (fun n c => 10 * n + (c.toNat - 48)) n := by
  induction s generalizing n with
  | nil => simp
  | cons c s ih => simp only [List.foldl_cons]; exact Nat.le_trans (by omega) (ih _)
theorem valD_take (s : Str) (i : Nat) : valD (s.take i) ≤ valD s := by
  have : valD s = (s.drop i).foldl (fun n c => 10 * n + (c.toNat - 48)) (valD (s.take i)) := by
    unfold valD; rw [← List.foldl_append, List.take_append_drop]
  rw [this]; exact valD_ge _ _
def RReadInv (s : Str) (H : Hp) (m : Nat) (F : Fr) (H' : Hp) : Prop :=
  ∃ i, i ≤ s.length ∧ m = s.length - i ∧ (s.take i).all digB = true ∧ H' = H ∧ F = [(0, .s s), (4, .i .i64 i)]
def RReadInv2 (s : Str) (H : Hp) (m : Nat) (F : Fr) (H' : Hp) : Prop :=
  ∃ i, i ≤ s.length ∧ m = s.length - i ∧ valD (s.take i) ≤ 268435456 ∧ H' = H ∧ F = [(0, .s s), (5, .i .i64 (valD (s.take i))), (6, .i .i64 i)]
theorem RRead_ok (s : Str) (hs : s.length ≤ 9223372036854775807) (H : Hp) : AC Tryz.prog n_weftref01_Read [.s s] H (fun v H' => v = .tup [.i .i64 (readS s).1, .i .i64 (readS s).2] ∧ H' = H) := by
  refine AC.code weftref01_Read.at weftref01_Read.ok ?_
  simp only [weftref01_Read]
  refine AX.seq (AX.reg ?_)
  simp [weftref01_Read.r0]
  refine AX.seq (AX.seq (AX.reg ?_))
  simp [weftref01_Read.r1]
  refine AX.pcond rfl (fun hb => ?_) (fun hb => AX.skip ?_)
  · simp at hb
    refine AX.seq (AX.reg ?_)
    simp [weftref01_Read.r2]
    refine AX.ret ?_
    simp [readS, hb]
  simp at hb
  simp
  refine AX.seq (AX.seq (AX.reg ?_))
  simp [weftref01_Read.r3]
  refine AX.pblock (AX.loop (RReadInv s H) s.length ⟨_, _, .refl _ _, 0, by omega, by omega, by simp, rfl, rfl⟩ ?_)
  rintro m F H' ⟨i, hi, rfl, hx, rfl, rfl⟩
  simp only [weftref01_Read.l0]
  refine AX.seq (AX.seq (AX.reg ?_))
  simp [weftref01_Read.r4]
  refine AX.pcond rfl (fun hc => AX.skip ?_) (fun hc => AX.exit ?_)
  · simp at hc
    simp
    refine AX.seq (AX.pblock (AX.seq (AX.reg ?_)))
    simp [weftref01_Read.r5, hc]
    refine AC.fix (digit_ok _ _) ?_
    simp
    refine AX.pcond rfl (fun hd => ?_) (fun hd => AX.skip ?_)
    · simp at hd
      refine AX.seq (AX.reg ?_)
      simp [weftref01_Read.r6]
      refine AX.ret ?_
      have : s.all digB = false := by
        rw [List.all_eq_false]; exact ⟨_, List.getElem_mem hc, by simp [hd]⟩
      simp [readS, hb, this]
    simp at hd
    simp
    refine AX.reg ?_
    simp [weftref01_Read.r7, succ_of_lt hc hs]
    refine ⟨s.length - (i + 1), by omega, _, _, .refl _ _, i + 1, by omega, rfl, ?_, rfl, by simp⟩
    rw [List.take_add_one, List.getElem?_eq_getElem hc, List.all_append, hx]
    simp [hd]
  simp at hc
  have hall : s.all digB = true := by rwa [List.take_of_length_le (by omega)] at hx
  have hp : 0 < s.length := List.length_pos_iff.2 hb
  simp
  refine AX.seq (AX.test (decide (s[0]? = some 48 ∧ 1 < s.length)) [(0, .s s), (27, .b (decide (s[0]? = some 48 ∧ 1 < s.length)))] ?_ rfl (fun hz => AX.seq (AX.reg ?_)) (fun hz => AX.skip ?_))
  · have e : ((s[0].toNat : Int) = 48) = (s[0] = 48) := by
      refine propext ⟨fun h => UInt8.toNat_inj.1 (by have : s[0].toNat = 48 := by omega
                                                     rw [this]; rfl), fun h => by rw [h]; rfl⟩
    by_cases h : s[0] = 48 <;> simp [weftref01_Read.r8, hp, e, h]
  · simp [weftref01_Read.r9]
    refine AX.ret ?_
    simp only [decide_eq_true_eq] at hz
    have : readS s = (0, 3) := by unfold readS; rw [if_neg hb, if_neg (by simp [hall]), if_pos hz]
    simp [this]
  simp only [decide_eq_false_iff_not] at hz
  have hr : readS s = if 268435456 < valD s then (0, 2) else (valD s, 0) := by unfold readS; rw [if_neg hb, if_neg (by simp [hall]), if_neg hz]
  simp
  refine AX.seq (AX.reg ?_)
  simp [weftref01_Read.r10]
  refine AX.seq (AX.seq (AX.reg ?_))
  simp [weftref01_Read.r11]
  refine AX.pblock (AX.loop (RReadInv2 s H') s.length ⟨_, _, .refl _ _, 0, by omega, by omega, by simp [valD], rfl, by simp [valD]⟩ ?_)
  clear hx hi hc
  rintro m F H ⟨i, hi, rfl, hx, rfl, rfl⟩
  simp only [weftref01_Read.l1]
  refine AX.seq (AX.seq (AX.reg ?_))
  simp [weftref01_Read.r12]
  refine AX.pcond rfl (fun hc => AX.skip ?_) (fun hc => AX.exit ?_)
  case refine_2 =>
    simp at hc
    have e : s.take i = s := List.take_of_length_le hc
    rw [e] at hx
    simp
    refine AX.seq (AX.reg ?_)
    simp [weftref01_Read.r17]
    refine AX.ret ?_
    rw [hr, if_neg (by omega), e]; simp
  simp at hc
  have hd : digB s[i] = true := List.all_eq_true.1 hall _ (List.getElem_mem hc)
  have hd' : 48 ≤ s[i].toNat ∧ s[i].toNat ≤ 57 := of_decide_eq_true hd
  have ev : valD (s.take (i + 1)) = 10 * valD (s.take i) + (s[i].toNat - 48) := by
    unfold valD; rw [List.take_add_one, List.getElem?_eq_getElem hc, List.foldl_append]; rfl
  have e1 : Go.IntKind.i64.wrap (10 * (valD (s.take i) : Int)) = ((10 * valD (s.take i) : Nat) : Int) := by rw [wrap_i64 (by omega) (by omega)]; omega
  have e2 : Go.IntKind.u8.wrap ((s[i].toNat : Int) - 48) = ((s[i].toNat - 48 : Nat) : Int) := by rw [wrap_u8 (by omega) (by omega)]; omega
  have e3 : Go.IntKind.i64.wrap ((s[i].toNat - 48 : Nat) : Int) = ((s[i].toNat - 48 : Nat) : Int) := by rw [wrap_i64 (by omega) (by omega)]
  have e4 : Go.IntKind.i64.wrap (((10 * valD (s.take i) : Nat) : Int) + ((s[i].toNat - 48 : Nat) : Int)) = ((valD (s.take (i + 1)) : Nat) : Int) := by rw [ev, wrap_i64 (by omega) (by omega)]; omega
  simp
  refine AX.seq (AX.pblock (AX.seq (AX.reg ?_)))
  simp only [weftref01_Read.r13]
  simp [hc, -Int.natCast_mul, -Int.natCast_add, e1, e2, e3, e4]
  refine AX.seq (AX.reg ?_)
  simp [weftref01_Read.r14]
  refine AX.pcond rfl (fun hd => ?_) (fun hd => AX.skip ?_)
  · simp at hd
    refine AX.seq (AX.reg ?_)
    simp [weftref01_Read.r15]
    refine AX.ret ?_
    have := valD_take s (i + 1)
    rw [hr, if_pos (by omega)]; simp
  simp at hd
  simp
  refine AX.reg ?_
  simp [weftref01_Read.r16, succ_of_lt hc hs]
  exact ⟨s.length - (i + 1), by omega, _, _, .refl _ _, i + 1, by omega, rfl, by omega, rfl, by simp⟩
def nameB (s : Str) : Bool := decide (s.length ≤ 16) && wordB s && s.all (inB true)
def RNameInv (s : Str) (H : Hp) (m : Nat) (F : Fr) (H' : Hp) : Prop :=
  ∃ i, i ≤ s.length ∧ m = s.length - i ∧ (s.take i).all (inB true) = true ∧ H' = H ∧ F = [(0, .s s), (3, .i .i64 i)]
theorem RName_ok (s : Str) (hs : s.length ≤ 9223372036854775807) (H : Hp) : AC Tryz.prog n_weftref01_Name [.s s] H (fun v H' => v = .b (nameB s) ∧ H' = H) := by
  refine AC.code weftref01_Name.at weftref01_Name.ok ?_
  simp only [weftref01_Name]
  refine AX.seq (AX.reg ?_)
  simp [weftref01_Name.r0]
  refine AX.seq (AX.test (!(decide (s.length ≤ 16) && wordB s)) [(0, .s s), (16, .b (!(decide (s.length ≤ 16) && wordB s)))] ?_ rfl (fun hz => AX.seq (AX.reg ?_)) (fun hz => AX.skip ?_))
  · by_cases h0 : s = []
    · subst h0; simp [weftref01_Name.r1, wordB]
    · have hp : 0 < s.length := List.length_pos_iff.2 h0
      have h0' : s.isEmpty = false := by simpa using h0
      by_cases h1 : s.length ≤ 16
      · simp [weftref01_Name.r1, h0, h0', h1, hp, show ¬ 16 < s.length by omega]
        refine AC.fix (letter_ok _ _) ?_
        simp [wordB, hp]
      · simp [weftref01_Name.r1, h0, h0', h1, hp, show 16 < s.length by omega]
  · simp [weftref01_Name.r2]
    refine AX.ret ?_
    have : nameB s = false := by unfold nameB; simp only [Bool.not_eq_true'] at hz; rw [hz]; rfl
    simp [this]
  have hz' : (decide (s.length ≤ 16) && wordB s) = true := by simpa only [Bool.not_eq_false'] using hz
  simp
  refine AX.seq (AX.seq (AX.reg ?_))
  simp [weftref01_Name.r3]
  refine AX.pblock (AX.loop (RNameInv s H) s.length ⟨_, _, .refl _ _, 0, by omega, by omega, by simp, rfl, rfl⟩ ?_)
  rintro m F H' ⟨i, hi, rfl, hx, rfl, rfl⟩
  simp only [weftref01_Name.l0]
  refine AX.seq (AX.seq (AX.reg ?_))
  simp [weftref01_Name.r4]
  refine AX.pcond rfl (fun hc => AX.skip ?_) (fun hc => AX.exit ?_)
  case refine_2 =>
    simp at hc
    rw [List.take_of_length_le hc] at hx
    simp
    refine AX.seq (AX.reg ?_)
    simp [weftref01_Name.r8]
    refine AX.ret ?_
    have : nameB s = true := by unfold nameB; rw [hz', hx]; rfl
    simp [this]
  simp at hc
  simp
  refine AX.seq (AX.pblock (AX.test (!(inB true s[i])) [(0, .s s), (3, .i .i64 i), (34, .b (!(inB true s[i])))] ?_ rfl (fun hz => AX.seq (AX.reg ?_)) (fun hz => AX.skip ?_)))
  · by_cases h1 : letB s[i] = true
    · simp [weftref01_Name.r5, hc]
      refine AC.fix (letter_ok _ _) ?_
      simp [h1, inB]
    · simp [weftref01_Name.r5, hc]
      refine AC.fix (letter_ok _ _) ?_
      simp [h1, hc]
      refine AC.fix (digit_ok _ _) ?_
      simp [h1, inB]
  · simp [weftref01_Name.r6]
    refine AX.ret ?_
    have : nameB s = false := by
      unfold nameB
      have : s.all (inB true) = false := by rw [List.all_eq_false]; exact ⟨_, List.getElem_mem hc, by simpa using hz⟩
      rw [this, Bool.and_false]
    simp [this]
  · simp
    refine AX.reg ?_
    simp [weftref01_Name.r7, succ_of_lt hc hs]
    refine ⟨s.length - (i + 1), by omega, _, _, .refl _ _, i + 1, by omega, rfl, ?_, rfl, by simp⟩
    rw [List.take_add_one, List.getElem?_eq_getElem hc, List.all_append, hx]
    simpa using hz
end Go.Proofs.YtjemhlndmkbneaaGreatDoor
namespace Go.Proofs.YtjemhlndmkbneaaGreatDoor
open Am C
set_option linter.unusedSimpArgs false
set_option linter.unusedVariables false
structure Nd where
  kind : Int
  fn : Str
  copy : Int
  name : Str
  n : Int
  cell : Int
  deriving DecidableEq
def Nd.cs (d : Nd) : List V := [.i .i64 d.kind, .s d.fn, .i .i64 d.copy, .s d.name, .i .i64 d.n, .i .i64 d.cell]
def nv (d : Nd) : V := .agg d.cs
def Nd.zero : Nd := ⟨0, [], 0, [], 0, 0⟩
def countB (n : Int) : Bool := decide (0 ≤ n ∧ n ≤ 268435456)
theorem count_ok (n : Int) (H : Hp) : AC Tryz.prog n_weftref14_count [.i .i64 n] H (fun v H' => v = .b (countB n) ∧ H' = H) := by
  refine AC.code weftref14_count.at weftref14_count.ok ?_
  simp only [weftref14_count]
  refine AX.seq (AX.reg ?_)
  simp [weftref14_count.r0]
  refine AX.seq (AX.reg ?_)
  by_cases h : (0 : Int) ≤ n <;> simp [weftref14_count.r1, h]
  all_goals
    refine AX.ret ?_
    simp [countB, h]
def namedB (k : Int) : Bool := decide (k = 1 ∨ k = 5 ∨ k = 6)
def numB (k : Int) : Bool := decide (k = 2 ∨ k = 3 ∨ k = 7)
def bad1 (d : Nd) : Bool := decide (d.kind < 1 ∨ 7 < d.kind) || !countB d.copy || !countB d.n || (decide (d.cell ≠ -1) && !countB d.cell)
def bad2 (d : Nd) : Bool := (decide (d.kind = 5) != decide (d.fn = [])) || (decide (d.fn ≠ []) && !nameB d.fn) || (decide (d.kind = 5) && decide (d.copy ≠ 0))
def bad3 (d : Nd) : Bool := (namedB d.kind != decide (d.name ≠ [])) || (namedB d.kind && !nameB d.name)
def bad4 (d : Nd) : Bool := (!numB d.kind && decide (d.n ≠ 0)) || (decide (d.n = 0) && decide (d.kind = 3 ∨ d.kind = 7))
def rightN (d : Nd) : Bool := !bad1 d && !bad2 d && !bad3 d && !bad4 d && decide (5 ≤ d.kind ∨ d.cell = -1)
theorem Right_ok (d : Nd) (h1 : d.fn.length ≤ 9223372036854775807) (h2 : d.name.length ≤ 9223372036854775807) (H : Hp) : AC Tryz.prog n_weftref14_Right [nv d] H (fun v H' => v = .b (rightN d) ∧ H' = H) := by
  obtain ⟨k, fn, cp, nm, n, cl⟩ := d
  refine AC.code weftref14_Right.at weftref14_Right.ok ?_
  simp only [weftref14_Right]
  refine AX.seq (AX.reg ?_)
  simp [weftref14_Right.r0, nv, Nd.cs]
  refine AX.seq (AX.test (bad1 ⟨k, fn, cp, nm, n, cl⟩) [(1, .fp [.i .i64 k, .s fn, .i .i64 cp, .s nm, .i .i64 n, .i .i64 cl] 0), (35, .b (bad1 ⟨k, fn, cp, nm, n, cl⟩))] ?_ rfl (fun hz => AX.seq (AX.reg ?_)) (fun hz => AX.skip ?_))
  · by_cases a1 : k < 1
    · simp [weftref14_Right.r1, a1, bad1]
    by_cases a2 : 7 < k
    · simp [weftref14_Right.r1, a1, a2, bad1]
    simp [weftref14_Right.r1, a1, a2]
    refine AC.fix (count_ok _ _) ?_
    by_cases a3 : countB cp = true
    case neg => simp [a3, bad1]
    simp [a3]
    refine AC.fix (count_ok _ _) ?_
    by_cases a4 : countB n = true
    case neg => simp [a4, bad1]
    by_cases a5 : cl = -1
    · simp [a4, a5, bad1, a1, a2, a3]
    simp [a4, a5]
    refine AC.fix (count_ok _ _) ?_
    simp [bad1, a1, a2, a3, a4, a5]
  · simp [weftref14_Right.r2]
    refine AX.ret ?_
    simp [rightN, hz]
  simp
  refine AX.stp [(1, .fp [.i .i64 k, .s fn, .i .i64 cp, .s nm, .i .i64 n, .i .i64 cl] 0), (3, .b (namedB k))] ?_ ?_
  · by_cases a1 : k = 1
    · simp [weftref14_Right.r3, a1, namedB]
    by_cases a2 : k = 5 <;> simp [weftref14_Right.r3, a1, a2, namedB]
  refine AX.stp [(1, .fp [.i .i64 k, .s fn, .i .i64 cp, .s nm, .i .i64 n, .i .i64 cl] 0), (3, .b (namedB k)), (4, .b (numB k))] ?_ ?_
  · by_cases a1 : k = 2
    · simp [weftref14_Right.r4, a1, numB]
    by_cases a2 : k = 3 <;> simp [weftref14_Right.r4, a1, a2, numB]
  refine AX.seq (AX.pblock (AX.test (bad2 ⟨k, fn, cp, nm, n, cl⟩) [(1, .fp [.i .i64 k, .s fn, .i .i64 cp, .s nm, .i .i64 n, .i .i64 cl] 0), (3, .b (namedB k)), (4, .b (numB k)), (62, .b (bad2 ⟨k, fn, cp, nm, n, cl⟩))] ?_ rfl (fun hz2 => AX.seq (AX.reg ?_)) (fun hz2 => ?_)))
  · have e : fn.isEmpty = decide (fn = []) := by cases fn <;> simp
    by_cases a1 : k = 5 <;> by_cases a2 : fn = []
    · by_cases a3 : cp = 0 <;> simp [weftref14_Right.r5, a1, a2, a3, bad2]
    · simp [weftref14_Right.r5, a1, a2, e, bad2]
    · simp [weftref14_Right.r5, a1, a2, e, bad2]
    · simp [weftref14_Right.r5, a1, a2, e]
      refine AC.fix (RName_ok _ h1 _) ?_
      by_cases a3 : nameB fn = true <;> simp [a1, a2, a3, e, bad2]
  · simp [weftref14_Right.r6]
    refine AX.ret ?_
    simp [rightN, hz2]
  simp
  refine AX.test (bad3 ⟨k, fn, cp, nm, n, cl⟩) [(1, .fp [.i .i64 k, .s fn, .i .i64 cp, .s nm, .i .i64 n, .i .i64 cl] 0), (4, .b (numB k)), (91, .b (bad3 ⟨k, fn, cp, nm, n, cl⟩))] ?_ rfl (fun hz3 => AX.seq (AX.reg ?_)) (fun hz3 => ?_)
  · have e : nm.isEmpty = decide (nm = []) := by cases nm <;> simp
    by_cases a1 : namedB k = true <;> by_cases a2 : nm = []
    · simp [weftref14_Right.r7, a1, a2, bad3]
    · simp [weftref14_Right.r7, a1, a2, e]
      refine AC.fix (RName_ok _ h2 _) ?_
      simp [a1, a2, e, bad3]
    · simp [weftref14_Right.r7, a1, a2, e, bad3]
    · simp [weftref14_Right.r7, a1, a2, e, bad3]
  · simp [weftref14_Right.r8]
    refine AX.ret ?_
    simp [rightN, hz3]
  simp
  refine AX.test (bad4 ⟨k, fn, cp, nm, n, cl⟩) [(1, .fp [.i .i64 k, .s fn, .i .i64 cp, .s nm, .i .i64 n, .i .i64 cl] 0), (106, .b (bad4 ⟨k, fn, cp, nm, n, cl⟩))] ?_ rfl (fun hz4 => AX.seq (AX.reg ?_)) (fun hz4 => AX.skip ?_)
  · by_cases a3 : k = 3
    · subst a3
      by_cases a2 : n = 0 <;> simp [weftref14_Right.r9, show numB 3 = true from rfl, a2, bad4]
    · by_cases a1 : numB k = true <;> by_cases a2 : n = 0 <;> simp [weftref14_Right.r9, a1, a2, a3, bad4]
  · simp [weftref14_Right.r10]
    refine AX.ret ?_
    simp [rightN, hz4]
  simp
  refine AX.seq (AX.reg ?_)
  by_cases a1 : 5 ≤ k <;> simp [weftref14_Right.r11, a1]
  all_goals
    refine AX.ret ?_
    simp [rightN, hz, hz2, hz3, hz4, a1]
end Go.Proofs.YtjemhlndmkbneaaGreatDoor
namespace Go.Proofs.YtjemhlndmkbneaaGreatDoor
open Am C
set_option linter.unusedSimpArgs false
set_option linter.unusedVariables false
def partA : Str → Nat × Str
  | [] => (0, [])
  | c :: r => if c = 126 then ((readS (splitS r).1).1, (splitS r).2) else (0, c :: r)
def partB : Str → Str × Str × Str
  | [] => ([], [], [])
  | c :: r => if c = 43 then ([], [], c :: r) else ([c], (splitS r).1, if c = 40 ∧ (splitS r).2 = [41] then [] else (splitS r).2)
def partC : Str → Int
  | [] => -1
  | c :: r => if c = 43 then (readS r).1 else -1
def partsV (s : Str) : V :=
  let a := splitS s
  let b := partA a.2
  let c := partB b.2
  .tup [.s a.1, .i .i64 b.1, .s c.1, .s c.2.1, .i .i64 (partC c.2.2)]
theorem splitS_len (s : Str) : (splitS s).1.length ≤ s.length ∧ (splitS s).2.length ≤ s.length := by
  have := congrArg List.length (splitS_append s)
  rw [List.length_append] at this; omega
theorem partA_len (s : Str) : (partA s).2.length ≤ s.length := by
  cases s with
  | nil => simp [partA]
  | cons c r => simp only [partA]; split
                · have := splitS_len r; simp; omega
                · simp
theorem partB_len (s : Str) : (partB s).2.2.length ≤ s.length := by
  cases s with
  | nil => simp [partB]
  | cons c r => simp only [partB]; split
                · simp
                · have := splitS_len r
                  split
                  · simp
                  · simp; omega
theorem u8_eq (c : UInt8) (k : Nat) (hk : k < 256) : ((c.toNat : Int) = (k : Int)) = (c = UInt8.ofNat k) := by
  refine propext ⟨fun h => UInt8.toNat_inj.1 (by rw [UInt8.toNat_ofNat']; omega), fun h => by rw [h, UInt8.toNat_ofNat']; omega⟩
theorem parts_ok (s : Str) (hs : s.length ≤ 9223372036854775807) (H : Hp) : AC Tryz.prog n_weftref14_parts [.s s] H (fun v H' => v = partsV s ∧ H' = H) := by
  refine AC.code weftref14_parts.at weftref14_parts.ok ?_
  simp only [weftref14_parts]
  refine AX.seq (AX.reg ?_)
  simp [weftref14_parts.r0]
  refine AX.seq (AX.reg ?_)
  simp [weftref14_parts.r1]
  refine AC.fix (Split_ok s hs _) ?_
  simp
  have hr := (splitS_len s).2
  unfold partsV
  rcases ea : splitS s with ⟨fn, rest⟩
  rw [ea] at hr
  simp only at hr ⊢
  refine AX.seq (AX.reg ?_)
  simp [weftref14_parts.r2]
  refine AX.seq (AX.join (F1 := [(7, .s fn), (8, .s (partA rest).2), (9, .i .i64 (partA rest).1), (10, .i .i64 (-1))]) (H1 := H) ?_ ?_)
  · cases rest with
    | nil =>
      refine AX.seq (AX.reg ?_)
      simp [weftref14_parts.r3]
      refine AX.pcond rfl (fun hb => by simp at hb) (fun hb => AX.skip ?_)
      simp [partA]
    | cons c r =>
      have e := u8_eq c 126 (by omega)
      simp at e hr
      refine AX.seq (AX.reg ?_)
      simp [weftref14_parts.r3, e]
      by_cases hc : c = 126
      · refine AX.pcond (t := true) (by simp [hc]) (fun hb => ?_) (fun hb => by simp at hb)
        refine AX.seq (AX.reg ?_)
        simp [weftref14_parts.r4, show (1 : Int) ≤ (r.length : Int) + 1 by omega]
        refine AC.fix (Split_ok r (by omega) _) ?_
        simp
        have hl := splitS_len r
        refine AX.seq (AX.reg ?_)
        simp [weftref14_parts.r5]
        refine AC.fix (RRead_ok _ (by omega) _) ?_
        simp
        refine AX.reg ?_
        simp [weftref14_parts.r6, partA, hc]
      · refine AX.pcond (t := false) (by simp [hc]) (fun hb => by simp at hb) (fun hb => AX.skip ?_)
        simp [partA, hc]
  have hr2 := partA_len rest
  rcases eb : partA rest with ⟨cp, r2⟩
  rw [eb] at hr2
  simp only at hr2 ⊢
  refine AX.seq (AX.reg ?_)
  simp [weftref14_parts.r7]
  refine AX.seq (AX.join (F1 := [(7, .s fn), (8, .s (partB r2).2.2), (9, .i .i64 cp), (10, .i .i64 (-1)), (13, .s (partB r2).1), (14, .s (partB r2).2.1)]) (H1 := H) ?_ ?_)
  · cases r2 with
    | nil =>
      refine AX.seq (AX.reg ?_)
      simp [weftref14_parts.r8]
      refine AX.pcond rfl (fun hb => by simp at hb) (fun hb => AX.skip ?_)
      simp [partB]
    | cons c r =>
      have e := u8_eq c 43 (by omega)
      simp at e hr2
      refine AX.seq (AX.reg ?_)
      simp [weftref14_parts.r8, e]
      by_cases hc : c = 43
      · refine AX.pcond (t := false) (by simp [hc]) (fun hb => by simp at hb) (fun hb => AX.skip ?_)
        simp [partB, hc]
      · refine AX.pcond (t := true) (by simp [hc]) (fun hb => ?_) (fun hb => by simp at hb)
        refine AX.seq (AX.reg ?_)
        simp [weftref14_parts.r9, show (1 : Int) ≤ (r.length : Int) + 1 by omega]
        refine AX.seq (AX.reg ?_)
        simp [weftref14_parts.r10, show (1 : Int) ≤ (r.length : Int) + 1 by omega]
        refine AC.fix (Split_ok r (by omega) _) ?_
        simp
        rcases es : splitS r with ⟨tl, r3⟩
        refine AX.test (decide (c = 40 ∧ r3 = [41])) [(7, .s fn), (8, .s r3), (9, .i .i64 cp), (10, .i .i64 (-1)), (13, .s [c]), (14, .s tl), (59, .b (decide (c = 40 ∧ r3 = [41])))] ?_ rfl (fun hz => AX.reg ?_) (fun hz => AX.skip ?_)
        · by_cases h1 : c = 40
          · simp [weftref14_parts.r11, h1]
          · simp [weftref14_parts.r11, h1, show (c == 40) = false by simpa using h1]
        · simp at hz
          simp [weftref14_parts.r12, partB, hc, es, hz]
        · simp only [decide_eq_false_iff_not] at hz
          simp [partB, hc, es]
          intro h1 h2; exact absurd ⟨h1, h2⟩ hz
  have hr3 := partB_len r2
  rcases ec : partB r2 with ⟨mk, tl, r3⟩
  rw [ec] at hr3
  simp only at hr3 ⊢
  refine AX.seq (AX.join (F1 := [(7, .s fn), (9, .i .i64 cp), (10, .i .i64 (partC r3)), (13, .s mk), (14, .s tl)]) (H1 := H) ?_ ?_)
  · cases r3 with
    | nil =>
      refine AX.seq (AX.reg ?_)
      simp [weftref14_parts.r13]
      refine AX.pcond rfl (fun hb => by simp at hb) (fun hb => AX.skip ?_)
      simp [partC]
    | cons c r =>
      have e := u8_eq c 43 (by omega)
      simp at e hr3
      refine AX.seq (AX.reg ?_)
      simp [weftref14_parts.r13, e]
      by_cases hc : c = 43
      · refine AX.pcond (t := true) (by simp [hc]) (fun hb => ?_) (fun hb => by simp at hb)
        refine AX.reg ?_
        simp [weftref14_parts.r14, show (1 : Int) ≤ (r.length : Int) + 1 by omega]
        refine AC.fix (RRead_ok _ (by omega) _) ?_
        simp [partC, hc]
      · refine AX.pcond (t := false) (by simp [hc]) (fun hb => by simp at hb) (fun hb => AX.skip ?_)
        simp [partC, hc]
  refine AX.seq (AX.reg ?_)
  simp [weftref14_parts.r15]
  refine AX.ret ?_
  simp
end Go.Proofs.YtjemhlndmkbneaaGreatDoor
namespace Go.Proofs.YtjemhlndmkbneaaGreatDoor
open Am C
set_option linter.unusedSimpArgs false
set_option linter.unusedVariables false
def copyS (c : Int) : Str := if 0 < c then 126 :: decS c.toNat else []
def bodyS (d : Nd) : Str :=
  if d.kind = 1 then d.fn ++ (copyS d.copy ++ 46 :: d.name)
  else if d.kind = 2 then d.fn ++ (copyS d.copy ++ 36 :: decS d.n.toNat)
  else if d.kind = 3 then d.fn ++ (copyS d.copy ++ 64 :: decS d.n.toNat)
  else if d.kind = 4 then d.fn ++ (copyS d.copy ++ [40, 41])
  else if d.kind = 5 then d.name
  else if d.kind = 6 then d.fn ++ (copyS d.copy ++ 37 :: d.name)
  else d.fn ++ (copyS d.copy ++ 35 :: decS d.n.toNat)
def cellS (c : Int) : Str := if 0 ≤ c then 43 :: decS c.toNat else []
def writeN (d : Nd) : Str := bodyS d ++ cellS d.cell
def textV (d : Nd) : V := if rightN d then .tup [.s (writeN d), .i .i64 0] else .tup [.s [], .i .i64 11]
theorem nameB_len {s : Str} (h : nameB s = true) : s.length ≤ 16 := by
  unfold nameB at h; simp only [Bool.and_eq_true, decide_eq_true_eq] at h; exact h.1.1
structure RightN (d : Nd) : Prop where
  k1 : 1 ≤ d.kind
  k7 : d.kind ≤ 7
  cp : countB d.copy = true
  n : countB d.n = true
  cell : d.cell = -1 ∨ (5 ≤ d.kind ∧ countB d.cell = true)
  fn : (d.kind = 5 ∧ d.fn = [] ∧ d.copy = 0) ∨ (d.kind ≠ 5 ∧ nameB d.fn = true)
  nm : (namedB d.kind = true ∧ nameB d.name = true) ∨ (namedB d.kind = false ∧ d.name = [])
  nn : (numB d.kind = true ∧ (d.kind = 2 ∨ d.n ≠ 0)) ∨ (numB d.kind = false ∧ d.n = 0)
theorem rightN_iff (d : Nd) : rightN d = true ↔ RightN d := by
  unfold rightN bad1 bad2 bad3 bad4
  constructor
  · intro h
    simp only [Bool.and_eq_true, Bool.not_eq_true', Bool.or_eq_false_iff, Bool.and_eq_false_iff, decide_eq_true_eq, decide_eq_false_iff_not, Bool.not_eq_false', bne_eq_false_iff_eq] at h
    obtain ⟨⟨⟨⟨⟨⟨⟨a1, a2⟩, a3⟩, a4⟩, ⟨⟨b1, b2⟩, b3⟩⟩, ⟨c1, c2⟩⟩, ⟨d1, d2⟩⟩, e⟩ := h
    refine ⟨by omega, by omega, a2, a3, ?_, ?_, ?_, ?_⟩
    · rcases a4 with a4 | a4
      · exact .inl (by simpa using a4)
      · rcases e with e | e
        · exact .inr ⟨e, a4⟩
        · exact .inl e
    · by_cases hk : d.kind = 5
      · simp [hk] at b1 b3
        exact .inl ⟨hk, b1, b3⟩
      · simp [hk] at b1
        simp [b1] at b2
        exact .inr ⟨hk, b2⟩
    · cases hn : namedB d.kind with
      | true => rw [hn] at c2; simp at c2; exact .inl ⟨rfl, c2⟩
      | false => rw [hn] at c1; simp at c1; exact .inr ⟨rfl, c1⟩
    · cases hn : numB d.kind with
      | true =>
        refine .inl ⟨rfl, ?_⟩
        simp [numB] at hn
        by_cases h0 : d.n = 0
        · simp [h0] at d2; omega
        · exact .inr h0
      | false => rw [hn] at d1; simp at d1; exact .inr ⟨rfl, d1⟩
  · intro ⟨k1, k7, cp, n, cell, fn, nm, nn⟩
    simp only [Bool.and_eq_true, Bool.not_eq_true', Bool.or_eq_false_iff, Bool.and_eq_false_iff, decide_eq_true_eq, decide_eq_false_iff_not, Bool.not_eq_false', bne_eq_false_iff_eq]
    refine ⟨⟨⟨⟨⟨⟨⟨by omega, cp⟩, n⟩, ?_⟩, ⟨⟨?_, ?_⟩, ?_⟩⟩, ⟨?_, ?_⟩⟩, ⟨?_, ?_⟩⟩, ?_⟩
    · rcases cell with c | c
      · exact .inl (by simpa using c)
      · exact .inr c.2
    · rcases fn with ⟨a, b, c⟩ | ⟨a, b⟩
      · simp [a, b]
      · have : d.fn ≠ [] := fun h => by rw [h] at b; exact absurd b (by decide)
        simp [a, this]
    · rcases fn with ⟨a, b, c⟩ | ⟨a, b⟩
      · exact .inl (by simpa using b)
      · exact .inr b
    · rcases fn with ⟨a, b, c⟩ | ⟨a, b⟩
      · exact .inr (by simpa using c)
      · exact .inl a
    · rcases nm with ⟨a, b⟩ | ⟨a, b⟩
      · have : d.name ≠ [] := fun h => by rw [h] at b; exact absurd b (by decide)
        simp [a, this]
      · simp [a, b]
    · rcases nm with ⟨a, b⟩ | ⟨a, b⟩
      · exact .inr b
      · exact .inl a
    · rcases nn with ⟨a, b⟩ | ⟨a, b⟩
      · exact .inl a
      · exact .inr (by simpa using b)
    · rcases nn with ⟨a, b⟩ | ⟨a, b⟩
      · by_cases h0 : d.n = 0
        · right; rcases b with b | b
          · omega
          · exact absurd h0 b
        · exact .inl h0
      · right; simp [numB] at a; omega
    · rcases cell with c | c
      · exact .inr c
      · exact .inl c.1
theorem RTextI_ok (n : Int) (h0 : 0 ≤ n) (hn : n ≤ 9223372036854775807) (H : Hp) : AC Tryz.prog n_weftref01_Text [.i .i64 n] H (fun v H' => v = .s (decS n.toNat) ∧ H' = H) := by
  have := RText_ok n.toNat (by omega) H
  rwa [Int.toNat_of_nonneg h0] at this
theorem Text14_ok (d : Nd) (h1 : d.fn.length ≤ 9223372036854775807) (h2 : d.name.length ≤ 9223372036854775807) (H : Hp) : AC Tryz.prog n_weftref14_Text [nv d] H (fun v H' => v = textV d ∧ H' = H) := by
  refine AC.code weftref14_Text.at weftref14_Text.ok ?_
  simp only [weftref14_Text]
  refine AX.seq (AX.reg ?_)
  simp [weftref14_Text.r0, nv]
  refine AX.seq (AX.seq (AX.reg ?_))
  simp [weftref14_Text.r1, Nd.cs]
  refine AC.fix (Right_ok d h1 h2 _) ?_
  simp
  refine AX.pcond rfl (fun hb => AX.seq (AX.reg ?_)) (fun hb => AX.skip ?_)
  · simp at hb
    simp [weftref14_Text.r2]
    refine AX.ret ?_
    simp [textV, hb]
  simp at hb
  obtain ⟨k1, k7, hcp, hn, hcell, hfn, hnm, hnn⟩ := (rightN_iff d).1 hb
  have ht : textV d = .tup [.s (writeN d), .i .i64 0] := by unfold textV; rw [if_pos hb]
  rw [ht]
  obtain ⟨k, fn, cp, nm, n, cl⟩ := d
  simp only [Nd.cs] at *
  have lfn : fn.length ≤ 16 := by
    rcases hfn with ⟨a, b, c⟩ | ⟨a, b⟩
    · subst b; simp
    · exact nameB_len b
  have lnm : nm.length ≤ 16 := by
    rcases hnm with ⟨a, b⟩ | ⟨a, b⟩
    · exact nameB_len b
    · subst b; simp
  have dl : ∀ x : Int, countB x = true → (decS x.toNat).length ≤ 9 := fun x hx => by
    have := of_decide_eq_true hx
    exact decS_len 8 _ (by omega)
  have lcp := dl _ hcp
  have ln := dl _ hn
  have hcp' := of_decide_eq_true hcp
  have hn' := of_decide_eq_true hn
  simp
  refine AX.seq (AX.reg ?_)
  simp [weftref14_Text.r3]
  refine AX.seq (AX.join (F1 := [(1, .fp [.i .i64 k, .s fn, .i .i64 cp, .s nm, .i .i64 n, .i .i64 cl] 0), (4, .s (fn ++ copyS cp))]) (H1 := H) ?_ ?_)
  · refine AX.seq (AX.reg ?_)
    simp [weftref14_Text.r4]
    refine AX.pcond rfl (fun hb => ?_) (fun hb => AX.skip ?_)
    · simp at hb
      refine AX.reg ?_
      simp [weftref14_Text.r5, show fn.length + 1 ≤ 9223372036854775807 by omega]
      refine AC.fix (RTextI_ok cp (by omega) (by omega) _) ?_
      simp [copyS, hb, show fn.length + 1 + (decS cp.toNat).length ≤ 9223372036854775807 by omega]
    · simp at hb
      simp [copyS, show ¬ 0 < cp by omega]
  have lc : (copyS cp).length ≤ 10 := by unfold copyS; split <;> simp; omega
  have lb : (bodyS ⟨k, fn, cp, nm, n, cl⟩).length ≤ 60 := by
    unfold bodyS
    repeat' split
    all_goals simp
    all_goals omega
  refine AX.seq (AX.join (F1 := [(1, .fp [.i .i64 k, .s fn, .i .i64 cp, .s nm, .i .i64 n, .i .i64 cl] 0), (4, .s (bodyS ⟨k, fn, cp, nm, n, cl⟩))]) (H1 := H) ?_ ?_)
  · clear ht
    rcases (by omega : k = 1 ∨ k = 2 ∨ k = 3 ∨ k = 4 ∨ k = 5 ∨ k = 6 ∨ k = 7) with rfl | rfl | rfl | rfl | rfl | rfl | rfl
    · refine AX.seq (AX.reg ?_)
      simp [weftref14_Text.r6]
      refine AX.pblock ?_
      refine AX.seq (AX.reg ?_)
      simp [weftref14_Text.r7]
      refine AX.pcond (t := true) rfl (fun hb => ?_) (fun hb => by simp at hb)
      refine AX.reg ?_
      simp [weftref14_Text.r8, bodyS, show fn.length + (copyS cp).length ≤ 9223372036854775806 by omega, show fn.length + ((copyS cp).length + 1) + nm.length ≤ 9223372036854775807 by omega]
    · refine AX.seq (AX.reg ?_)
      simp [weftref14_Text.r6]
      refine AX.pblock ?_
      refine AX.seq (AX.reg ?_)
      simp [weftref14_Text.r7]
      refine AX.pcond (t := false) rfl (fun hb => by simp at hb) (fun hb => ?_)
      refine AX.seq (AX.reg ?_)
      simp [weftref14_Text.r9]
      refine AX.pcond (t := true) rfl (fun hb => ?_) (fun hb => by simp at hb)
      refine AX.reg ?_
      simp [weftref14_Text.r10, show fn.length + (copyS cp).length ≤ 9223372036854775806 by omega]
      refine AC.fix (RTextI_ok n (by omega) (by omega) _) ?_
      simp [bodyS, show fn.length + ((copyS cp).length + 1) + (decS n.toNat).length ≤ 9223372036854775807 by omega]
    · refine AX.seq (AX.reg ?_)
      simp [weftref14_Text.r6]
      refine AX.pblock ?_
      refine AX.seq (AX.reg ?_)
      simp [weftref14_Text.r7]
      refine AX.pcond (t := false) rfl (fun hb => by simp at hb) (fun hb => ?_)
      refine AX.seq (AX.reg ?_)
      simp [weftref14_Text.r9]
      refine AX.pcond (t := false) rfl (fun hb => by simp at hb) (fun hb => ?_)
      refine AX.seq (AX.reg ?_)
      simp [weftref14_Text.r11]
      refine AX.pcond (t := true) rfl (fun hb => ?_) (fun hb => by simp at hb)
      refine AX.reg ?_
      simp [weftref14_Text.r12, show fn.length + (copyS cp).length ≤ 9223372036854775806 by omega]
      refine AC.fix (RTextI_ok n (by omega) (by omega) _) ?_
      simp [bodyS, show fn.length + ((copyS cp).length + 1) + (decS n.toNat).length ≤ 9223372036854775807 by omega]
    · refine AX.seq (AX.reg ?_)
      simp [weftref14_Text.r6]
      refine AX.pblock ?_
      refine AX.seq (AX.reg ?_)
      simp [weftref14_Text.r7]
      refine AX.pcond (t := false) rfl (fun hb => by simp at hb) (fun hb => ?_)
      refine AX.seq (AX.reg ?_)
      simp [weftref14_Text.r9]
      refine AX.pcond (t := false) rfl (fun hb => by simp at hb) (fun hb => ?_)
      refine AX.seq (AX.reg ?_)
      simp [weftref14_Text.r11]
      refine AX.pcond (t := false) rfl (fun hb => by simp at hb) (fun hb => ?_)
      refine AX.seq (AX.reg ?_)
      simp [weftref14_Text.r13]
      refine AX.pcond (t := true) rfl (fun hb => ?_) (fun hb => by simp at hb)
      refine AX.reg ?_
      simp [weftref14_Text.r14, bodyS, show fn.length + (copyS cp).length ≤ 9223372036854775805 by omega]
    · refine AX.seq (AX.reg ?_)
      simp [weftref14_Text.r6]
      refine AX.pblock ?_
      refine AX.seq (AX.reg ?_)
      simp [weftref14_Text.r7]
      refine AX.pcond (t := false) rfl (fun hb => by simp at hb) (fun hb => ?_)
      refine AX.seq (AX.reg ?_)
      simp [weftref14_Text.r9]
      refine AX.pcond (t := false) rfl (fun hb => by simp at hb) (fun hb => ?_)
      refine AX.seq (AX.reg ?_)
      simp [weftref14_Text.r11]
      refine AX.pcond (t := false) rfl (fun hb => by simp at hb) (fun hb => ?_)
      refine AX.seq (AX.reg ?_)
      simp [weftref14_Text.r13]
      refine AX.pcond (t := false) rfl (fun hb => by simp at hb) (fun hb => ?_)
      refine AX.seq (AX.reg ?_)
      simp [weftref14_Text.r15]
      refine AX.pcond (t := true) rfl (fun hb => ?_) (fun hb => by simp at hb)
      refine AX.reg ?_
      simp [weftref14_Text.r16, bodyS]
    · refine AX.seq (AX.reg ?_)
      simp [weftref14_Text.r6]
      refine AX.pblock ?_
      refine AX.seq (AX.reg ?_)
      simp [weftref14_Text.r7]
      refine AX.pcond (t := false) rfl (fun hb => by simp at hb) (fun hb => ?_)
      refine AX.seq (AX.reg ?_)
      simp [weftref14_Text.r9]
      refine AX.pcond (t := false) rfl (fun hb => by simp at hb) (fun hb => ?_)
      refine AX.seq (AX.reg ?_)
      simp [weftref14_Text.r11]
      refine AX.pcond (t := false) rfl (fun hb => by simp at hb) (fun hb => ?_)
      refine AX.seq (AX.reg ?_)
      simp [weftref14_Text.r13]
      refine AX.pcond (t := false) rfl (fun hb => by simp at hb) (fun hb => ?_)
      refine AX.seq (AX.reg ?_)
      simp [weftref14_Text.r15]
      refine AX.pcond (t := false) rfl (fun hb => by simp at hb) (fun hb => ?_)
      refine AX.seq (AX.reg ?_)
      simp [weftref14_Text.r17]
      refine AX.pcond (t := true) rfl (fun hb => ?_) (fun hb => by simp at hb)
      refine AX.reg ?_
      simp [weftref14_Text.r18, bodyS, show fn.length + (copyS cp).length ≤ 9223372036854775806 by omega, show fn.length + ((copyS cp).length + 1) + nm.length ≤ 9223372036854775807 by omega]
    · refine AX.seq (AX.reg ?_)
      simp [weftref14_Text.r6]
      refine AX.pblock ?_
      refine AX.seq (AX.reg ?_)
      simp [weftref14_Text.r7]
      refine AX.pcond (t := false) rfl (fun hb => by simp at hb) (fun hb => ?_)
      refine AX.seq (AX.reg ?_)
      simp [weftref14_Text.r9]
      refine AX.pcond (t := false) rfl (fun hb => by simp at hb) (fun hb => ?_)
      refine AX.seq (AX.reg ?_)
      simp [weftref14_Text.r11]
      refine AX.pcond (t := false) rfl (fun hb => by simp at hb) (fun hb => ?_)
      refine AX.seq (AX.reg ?_)
      simp [weftref14_Text.r13]
      refine AX.pcond (t := false) rfl (fun hb => by simp at hb) (fun hb => ?_)
      refine AX.seq (AX.reg ?_)
      simp [weftref14_Text.r15]
      refine AX.pcond (t := false) rfl (fun hb => by simp at hb) (fun hb => ?_)
      refine AX.seq (AX.reg ?_)
      simp [weftref14_Text.r17]
      refine AX.pcond (t := false) rfl (fun hb => by simp at hb) (fun hb => ?_)
      refine AX.seq (AX.reg ?_)
      simp [weftref14_Text.r19]
      refine AX.pcond (t := true) rfl (fun hb => ?_) (fun hb => by simp at hb)
      refine AX.reg ?_
      simp [weftref14_Text.r20, show fn.length + (copyS cp).length ≤ 9223372036854775806 by omega]
      refine AC.fix (RTextI_ok n (by omega) (by omega) _) ?_
      simp [bodyS, show fn.length + ((copyS cp).length + 1) + (decS n.toNat).length ≤ 9223372036854775807 by omega]
  refine AX.seq (AX.join (F1 := [(4, .s (writeN ⟨k, fn, cp, nm, n, cl⟩))]) (H1 := H) ?_ ?_)
  · refine AX.seq (AX.reg ?_)
    simp [weftref14_Text.r21]
    refine AX.pcond rfl (fun hb => ?_) (fun hb => AX.skip ?_)
    · simp at hb
      have hcl : countB cl = true := by
        rcases hcell with c | c
        · omega
        · exact c.2
      have lcl := dl _ hcl
      have hcl' := of_decide_eq_true hcl
      refine AX.reg ?_
      simp [weftref14_Text.r22, show (bodyS ⟨k, fn, cp, nm, n, cl⟩).length + 1 ≤ 9223372036854775807 by omega]
      refine AC.fix (RTextI_ok cl (by omega) (by omega) _) ?_
      simp [writeN, cellS, hb, show (bodyS ⟨k, fn, cp, nm, n, cl⟩).length + 1 + (decS cl.toNat).length ≤ 9223372036854775807 by omega]
    · simp at hb
      simp [writeN, cellS, show ¬ 0 ≤ cl by omega]
  refine AX.seq (AX.reg ?_)
  simp [weftref14_Text.r23]
  refine AX.ret ?_
  simp
end Go.Proofs.YtjemhlndmkbneaaGreatDoor
