/- The walk of CrcBursts. -/
import Derived.Test.YtihipphpfbnknaaCrcW2
import Derived.Test.YtihipphpfbnknaaCrcBits
import Derived.Test.YtihipphpfbnknaaAm22
namespace Go.Proofs.Ytihipphpfbnknaa
open Am C
set_option linter.unusedSimpArgs false
set_option linter.unusedVariables false

/-- What stands in the bytes after k places. -/
structure Turned (x l : List UInt8) (B first k : Nat) (t : Bool) : Prop where
  len : l.length = x.length
  bits : ∀ i, i < 8 * x.length → getB l i = (getB x i ^^ (decide (first ≤ i ∧ i < first + k) && B.testBit (i - first)))
  same : t = false → l = x
  some' : t = true → ∃ i, i < 8 * x.length ∧ getB l i ≠ getB x i

theorem sealB_zero (bs : List UInt8) : crcL 11994318 (sealB bs) = 0 := by
  have : crcL 11994318 (sealB bs) = crcL (crcL 11994318 bs) (sum3 (crcL 11994318 bs)) := by simp [sealB, crcL]
  rw [this]
  exact crcL_sum3 (crcL_lt bs (by omega))
theorem openB_sealB (bs : List UInt8) : (openB (sealB bs)).2 = true := by
  have h : (sealB bs).take ((sealB bs).length - 3) = bs := by rw [sealB_length]; simp [sealB]
  unfold openB
  rw [if_neg (by simp), h, if_pos rfl]
theorem openB_zero {l : List UInt8} (h : (openB l).2 = true) : crcL 11994318 l = 0 := by
  unfold openB at h
  split at h
  · cases h
  · split at h
    · rename_i e
      rw [← e]; exact sealB_zero _
    · cases h

theorem Turned.end {s l : List UInt8} {B first k : Nat} {t : Bool} (T : Turned (sealB s) l B first k t) (hk : k ≤ 24) : (openB l).2 = !t := by
  cases t with
  | false => rw [T.same rfl]; exact openB_sealB s
  | true =>
    cases h : (openB l).2 with
    | false => rfl
    | true =>
      exfalso
      obtain ⟨i, hi, hne⟩ := T.some' rfl
      exact hne (burst_seen T.len first 11994318 (sealB_zero s) (openB_zero h) (fun i hi hne => by
        rw [T.bits i hi] at hne
        by_cases hw : first ≤ i ∧ i < first + k
        · omega
        · exfalso; apply hne; simp [hw]) i hi)
theorem Turned.zero (x : List UInt8) (B first : Nat) : Turned x x B first 0 false :=
  ⟨rfl, fun i hi => by
    have : decide (first ≤ i ∧ i < first + 0) = false := decide_eq_false (by omega)
    rw [this]; simp, fun _ => rfl, fun h => by cases h⟩
theorem Turned.stay {x l : List UInt8} {B first k : Nat} {t : Bool} (T : Turned x l B first k t) (hb : B.testBit k = false) : Turned x l B first (k + 1) t :=
  ⟨T.len, fun i hi => by
    rw [T.bits i hi]
    congr 1
    by_cases h : i = first + k
    · subst h; simp [hb]
    · have : (first ≤ i ∧ i < first + (k + 1)) ↔ (first ≤ i ∧ i < first + k) := by omega
      simp only [this], T.same, T.some'⟩
theorem Turned.flip {x l : List UInt8} {B first k : Nat} {t : Bool} (T : Turned x l B first k t) (hb : B.testBit k = true) (hi : first + k < 8 * x.length) {c : UInt8} (hc : c.toNat = (l.getD ((first + k) / 8) 0).toNat ^^^ 128 / 2 ^ ((first + k) % 8)) :
    Turned x (l.set ((first + k) / 8) c) B first (k + 1) true := by
  have hlen := T.len
  have key : ∀ i, i < 8 * x.length → getB (l.set ((first + k) / 8) c) i = (getB x i ^^ (decide (first ≤ i ∧ i < first + (k + 1)) && B.testBit (i - first))) := fun i hi' => by
    rw [getB_flip l (first + k) (by omega) c hc, T.bits i hi']
    by_cases h : i = first + k
    · subst h; simp [hb]
    · have : (first ≤ i ∧ i < first + (k + 1)) ↔ (first ≤ i ∧ i < first + k) := by omega
      simp only [this, h, decide_false, Bool.xor_false]
  refine ⟨by simp [hlen], key, (fun h => by cases h), fun _ => ⟨first + k, hi, ?_⟩⟩
  rw [key _ hi]
  simp [hb]

theorem bitAt (B k : Nat) (hB : B < 16777216) (hk : k < 24) : ((B / 2 ^ (min k 32)) &&& 1 = 1) = (B.testBit k = true) := by
  rw [Nat.and_one_is_mod, Nat.testBit_eq_decide_div_mod_eq, show min k 32 = k by omega]
  simp

/-- The loop's state. -/
def BInv (x : List UInt8) (B first n id : Nat) (m : Nat) (F : Fr) (H' : Hp) : Prop := ∃ (k : Nat) (l : List UInt8) (t : Bool), k ≤ 24 ∧ m = 24 - k ∧ Turned x l B first k t ∧
    H'.get id = some (.cells (bcells l) n) ∧ F = [(2, .i .u32 B), (7, .sl (some (id, 0, n)) n 1), (8, .i .i64 first), (9, .b t), (10, .i .i64 k)]

/-- The law CrcBursts. -/
theorem CrcBursts_ok (s : List UInt8) (hs : s.length ≤ 9223372036854775807) (a : Int) (b : Nat) (hb : b < 4294967296) (H : Hp) : AC Try.prog n_weftlaw03_CrcBursts [.s s, .i .i64 a, .i .u32 b] H (fun r _ => r = .b true) := by
  refine AC.codeL weftlaw03_CrcBursts.at weftlaw03_CrcBursts.ok fun hl => ?_
  simp only [weftlaw03_CrcBursts]
  refine AX.seq (AX.reg ?_)
  simp [weftlaw03_CrcBursts.r0]
  refine AX.seq (AX.seq (AX.reg ?_))
  simp [weftlaw03_CrcBursts.r1]
  refine AC.fix (crc_works_ok H) ?_
  simp
  refine AX.pcond rfl (fun h => by simp at h) (fun _ => AX.skip ?_)
  simp
  refine AX.seq (AX.seq (AX.reg ?_))
  simp [weftlaw03_CrcBursts.r3]
  refine AX.pcond rfl (fun hlt => AX.seq (AX.reg ?_)) (fun hge => AX.skip ?_)
  · simp [weftlaw03_CrcBursts.r4]
    refine AX.ret ?_
    simp
  simp at hge
  simp
  refine AX.seq (AX.reg ?_)
  simp [weftlaw03_CrcBursts.r5]
  refine AC.fix (crc_Seal_ok _ (by omega) H) ?_
  rw [show s ++ sum3 (crcL 11994318 s) = sealB s from rfl]
  generalize hx : sealB s = x
  have hxl : x.length = s.length + 3 := by rw [← hx]; simp
  simp
  refine AX.seq (AX.seq (AX.reg ?_))
  have e1 : IntKind.i64.wrap ((s.length : Int) + 3) = ((s.length + 3 : Nat) : Int) := by rw [wrap_i64 (by omega) (by omega)]; omega
  simp [weftlaw03_CrcBursts.r6, e1, hxl]
  refine AX.pcond rfl (fun h => by simp at h) (fun _ => AX.skip ?_)
  simp
  refine AX.seq (AX.reg ?_)
  have e2 := tmod_nat b 16777216
  simp at e2
  simp [weftlaw03_CrcBursts.r8, e2]
  obtain ⟨B, hB, eB⟩ : ∃ B : Nat, B < 16777216 ∧ B = if b % 16777216 = 0 then 1 else b % 16777216 := ⟨_, by split <;> omega, rfl⟩
  refine AX.seq (AX.join (F1 := [(1, .i .i64 a), (2, .i .u32 B), (7, .sl (some (H.next, 0, s.length + 3)) (s.length + 3) 1)]) (H1 := H.add (Blk.cells (bcells x) (s.length + 3))) ?_ ?_)
  · refine AX.seq (AX.reg ?_)
    simp [weftlaw03_CrcBursts.r9]
    refine AX.pcond rfl (fun h => AX.reg ?_) (fun h => AX.skip ?_)
    · simp at h
      have : b % 16777216 = 0 := by omega
      simp [weftlaw03_CrcBursts.r10, eB, this, bcells]
    · simp at h
      have : ¬ b % 16777216 = 0 := by omega
      simp [eB, this, bcells]
  refine AX.seq (AX.reg ?_)
  obtain ⟨A, eA⟩ : ∃ A : Nat, IntKind.u64.wrap a = (A : Int) := ⟨(IntKind.u64.wrap a).toNat, by rw [wrap_u64_mod]; omega⟩
  have hA : A < 18446744073709551616 := by rw [wrap_u64_mod] at eA; omega
  have e3 : IntKind.i64.wrap (8 * ((s.length + 3 : Nat) : Int)) = ((8 * (s.length + 3) : Nat) : Int) := by rw [wrap_i64 (by omega) (by omega)]; omega
  have e4 : IntKind.u64.wrap ((8 * (s.length + 3) : Nat) : Int) = ((8 * (s.length + 3) : Nat) : Int) := wrap_u64 (by omega) (by omega)
  have e5 := tmod_nat A (8 * (s.length + 3))
  have hF : A % (8 * (s.length + 3)) < 8 * (s.length + 3) := Nat.mod_lt _ (by omega)
  generalize A % (8 * (s.length + 3)) = first at *
  have e6 : IntKind.i64.wrap (first : Int) = first := wrap_i64 (by omega) (by omega)
  simp at e3 e4 e5
  have e7 : ¬ (8 * ((s.length : Int) + 3) = 0) := by omega
  simp [weftlaw03_CrcBursts.r11, eA, e3, e4, e5, e6, e7]
  refine AX.seq (AX.reg ?_)
  simp [weftlaw03_CrcBursts.r12]
  refine AX.seq (AX.seq (AX.reg ?_))
  simp [weftlaw03_CrcBursts.r13]
  refine AX.pblock (AX.loop (BInv x B first (s.length + 3) H.next) 24 ⟨_, _, .refl _ _, 0, x, false, by omega, by omega, Turned.zero x B first, by simp, by simp⟩ ?_)
  rintro m F H' ⟨k, l, t, hk, rfl, T, hg, rfl⟩
  have hll : l.length = s.length + 3 := by rw [T.len, hxl]
  simp only [weftlaw03_CrcBursts.l0]
  obtain ⟨p, hp⟩ : ∃ p : Nat, p = first + k := ⟨_, rfl⟩
  have f1 : IntKind.i64.wrap ((first : Int) + k) = (p : Int) := by rw [wrap_i64 (by omega) (by omega)]; omega
  have done : ∀ Q : Post, AX Try.prog 86 ((ACode.post [9, 12] (ACode.region weftlaw03_CrcBursts.r19)).seq ((ACode.post [6] (ACode.region weftlaw03_CrcBursts.r20)).seq ACode.ret)) (Am.Ends (fun r x => r = V.b true) [ARes.t 6])
      [(7, .sl (some (H.next, 0, s.length + 3)) (s.length + 3) 1), (9, .b t)] H' := fun _ => by
    refine AX.seq (AX.reg ?_)
    have hbo := bytesOf_bcells l
    simp [weftlaw03_CrcBursts.r19, hg, hll]
    rw [show List.take (s.length + 3) (bcells l) = bcells l from List.take_of_length_le (by simp [hll])]
    simp [hbo]
    refine AC.fix (crc_Open_ok _ (by omega) H') ?_
    have hT : (openB l).2 = !t := by rw [← hx] at T; exact T.end hk
    simp [hT]
    refine AX.seq (AX.reg ?_)
    simp [weftlaw03_CrcBursts.r20]
    refine AX.ret ?_
    simp
  refine AX.seq (AX.seq (AX.reg ?_))
  by_cases hk2 : k < 24
  case neg =>
    simp [weftlaw03_CrcBursts.r14, hk2]
    refine AX.pcond rfl (fun h => by simp at h) (fun _ => AX.exit ?_)
    simp
    exact done (fun _ _ _ => True)
  simp [weftlaw03_CrcBursts.r14, hk2, f1, e3]
  refine AX.pcond rfl (fun hin => AX.skip ?_) (fun _ => AX.exit ?_)
  rotate_left
  · simp
    exact done (fun _ _ _ => True)
  simp at hin
  have hin' : p < 8 * (s.length + 3) := by omega
  simp
  have g1 : IntKind.i64.wrap ((k : Int) + 1) = ((k + 1 : Nat) : Int) := by rw [wrap_i64 (by omega) (by omega)]; omega
  have g2 := fdiv_nat B (2 ^ (min k 32))
  have g3 := bAnd_u32 (a := B / 2 ^ (min k 32)) (b := 1) (Nat.lt_of_le_of_lt (Nat.div_le_self _ _) (by omega)) (by omega)
  have g4 := bitAt B k hB hk2
  simp at g2 g3
  refine AX.seq (AX.pblock (AX.seq (AX.reg ?_)))
  simp [weftlaw03_CrcBursts.r15, g2, g3]
  refine AX.pcond rfl (fun h => AX.seq (AX.drw ?_)) (fun h => AX.skip ?_)
  rotate_left
  · simp at h
    have hbit : B.testBit k = false := by
      cases hh : B.testBit k with
      | false => rfl
      | true =>
        exfalso
        rw [hh, Nat.and_one_is_mod] at g4
        have := g4.mpr rfl
        have : ((B / 2 ^ min k 32 % 2 : Nat) : Int) = 1 := by rw [this]; rfl
        simp at this
        exact h this
    simp
    refine AX.reg ?_
    simp [weftlaw03_CrcBursts.r18, g1]
    exact ⟨24 - (k + 1), by omega, _, _, .refl _ _, k + 1, l, t, by omega, rfl, T.stay hbit, hg, rfl⟩
  simp at h
  have hbit : B.testBit k = true := by
    rw [← g4, Nat.and_one_is_mod]
    have : ((B / 2 ^ min k 32 % 2 : Nat) : Int) = 1 := by simpa using h
    omega
  clear done
  obtain ⟨j, hj⟩ : ∃ j : Nat, j = p / 8 := ⟨_, rfl⟩
  obtain ⟨r, hr⟩ : ∃ r : Nat, r = p % 8 := ⟨_, rfl⟩
  have q1 : (p : Int).tdiv 8 = (j : Int) := by rw [hj]; exact tdiv_nat p 8
  have q2 : (p : Int).tmod 8 = (r : Int) := by rw [hr]; exact tmod_nat p 8
  have q3 : IntKind.i64.wrap (j : Int) = j := wrap_i64 (by omega) (by omega)
  obtain ⟨M, hM⟩ : ∃ M : Nat, M = 128 / 2 ^ r := ⟨_, rfl⟩
  have hM8 : M < 256 := by rw [hM]; exact Nat.lt_of_le_of_lt (Nat.div_le_self _ _) (by omega)
  have q4 : Int.fdiv 128 (2 ^ (min r 8)) = (M : Int) := by
    have := fdiv_nat 128 (2 ^ (min r 8))
    rw [show min r 8 = r by omega] at this ⊢
    rw [hM]
    simpa using this
  have hjl : j < l.length := by omega
  obtain ⟨c0, hc0⟩ : ∃ c0 : UInt8, c0 = l.getD j 0 := ⟨_, rfl⟩
  have hx8 : c0.toNat ^^^ M < 256 := Nat.xor_lt_two_pow (n := 8) c0.toNat_lt hM8
  obtain ⟨c, hc⟩ : ∃ c : UInt8, c.toNat = c0.toNat ^^^ M := ⟨UInt8.ofNat (c0.toNat ^^^ M), by rw [UInt8.toNat_ofNat']; exact Nat.mod_eq_of_lt hx8⟩
  have q5 := bcells_get hjl
  rw [← hc0] at q5
  have q6 := bXor_u8 (a := c0.toNat) (b := M) c0.toNat_lt hM8
  rw [← hc] at q6
  have q7 : (j : Int) < (s.length : Int) + 3 := by omega
  have q8 : j + 1 ≤ s.length + 3 := by omega
  have q9 : List.take 1 (List.drop j (bcells l)) = [.i .u8 c0.toNat] := by
    rw [List.drop_eq_getElem_cons (by simpa using hjl), List.take_succ_cons, List.take_zero]
    have := (List.getElem?_eq_some_iff.1 q5).2
    rw [this]
  have q0 : ¬ ((r : Int) < 0) := by omega
  simp only [weftlaw03_CrcBursts.r16]
  simp [f1, q1, q2, q3, q4, q6, q7, q8, q9, q0, hg, hll, bcells_set]
  refine ⟨by decide, ?_⟩
  refine AX.reg ?_
  simp [weftlaw03_CrcBursts.r17]
  refine AX.reg ?_
  simp [weftlaw03_CrcBursts.r18, g1]
  have T' := T.flip hbit (by omega) (c := c) (by rw [hc, hc0, hM, hr, hj, hp])
  rw [← hp, ← hj] at T'
  exact ⟨24 - (k + 1), by omega, _, _, .refl _ _, k + 1, l.set j c, true, by omega, rfl, T', by simp, by simp⟩

theorem CrcBursts_all (us : List V) (h : Args [.str, .int .i64, .int .u32] us) : AC Try.prog 6 us Hp.none (fun r _ => r = .b true) := by
  obtain ⟨u0, us', rfl, hu0, u1, us'', rfl, hu1, u2, us3, rfl, hu2, rfl⟩ := h
  obtain ⟨s, hs, ls⟩ := isT_str hu0
  injection hs with hs; subst hs
  obtain ⟨a, ha, _⟩ := isT_int hu1
  injection ha with ha; subst ha
  obtain ⟨b, hb, lb⟩ := isT_int hu2
  injection hb with hb; subst hb
  simp [inInt, IntKind.min, IntKind.max, IntKind.signed] at lb
  have e : b = ((b.toNat : Nat) : Int) := by omega
  rw [e]
  exact CrcBursts_ok s ls a b.toNat (by omega) _

end Go.Proofs.Ytihipphpfbnknaa
