/- The sum of twenty-four bits, in plain numbers. -/
import Derived.Test.YtihipphpfbnknaaAm19
namespace Go.Proofs.Ytihipphpfbnknaa
open Am

def crc1 (v : Nat) : Nat := if (v * 2) &&& 16777216 ≠ 0 then (v * 2) ^^^ 25578747 else v * 2
def crcN : Nat → Nat → Nat
  | 0, v => v
  | k + 1, v => crcN k (crc1 v)
def crcB (v : Nat) (b : UInt8) : Nat := crcN 8 (v ^^^ (b.toNat * 65536))
def crcL (v : Nat) (l : List UInt8) : Nat := l.foldl crcB v

theorem and_bit (w : Nat) : (w &&& 16777216 ≠ 0) ↔ w.testBit 24 = true := by
  have h : (16777216 : Nat) = 2 ^ 24 := by decide
  rw [h]
  constructor
  · intro hne
    cases hb : w.testBit 24 with
    | true => rfl
    | false =>
      exfalso
      apply hne
      apply Nat.eq_of_testBit_eq
      intro i
      rw [Nat.testBit_and, Nat.testBit_two_pow, Nat.zero_testBit]
      by_cases hi : 24 = i
      · subst hi; simp [hb]
      · simp [hi]
  · intro hb h0
    have : (w &&& 2 ^ 24).testBit 24 = true := by rw [Nat.testBit_and, hb, Nat.testBit_two_pow]; simp
    rw [h0] at this
    simp at this
theorem testBit_div (w : Nat) : w.testBit 24 = decide (w / 16777216 % 2 = 1) := by
  have h : (16777216 : Nat) = 2 ^ 24 := by decide
  rw [Nat.testBit_eq_decide_div_mod_eq, h]

theorem crc1_lt {v : Nat} (h : v < 16777216) : crc1 v < 16777216 := by
  unfold crc1
  split
  · rename_i hb
    rw [and_bit] at hb
    have h1 : v * 2 < 2 ^ 25 := by omega
    have h2 : v * 2 ^^^ 25578747 < 2 ^ 25 := Nat.xor_lt_two_pow h1 (by decide)
    have h3 : (v * 2 ^^^ 25578747).testBit 24 = false := by
      rw [Nat.testBit_xor, hb]; decide
    rw [testBit_div] at h3
    simp at h3
    omega
  · rename_i hb
    have : ¬ ((v * 2).testBit 24 = true) := fun h => hb ((and_bit _).2 h)
    rw [testBit_div] at this
    simp at this
    omega
theorem crcN_lt : ∀ (k : Nat) {v : Nat}, v < 16777216 → crcN k v < 16777216
  | 0, _, h => h
  | k + 1, _, h => crcN_lt k (crc1_lt h)
theorem byte_lt {v : Nat} (h : v < 16777216) (b : UInt8) : v ^^^ (b.toNat * 65536) < 16777216 := by
  have := b.toNat_lt
  exact Nat.xor_lt_two_pow (n := 24) h (by omega)
theorem crcB_lt {v : Nat} (h : v < 16777216) (b : UInt8) : crcB v b < 16777216 := crcN_lt 8 (byte_lt h b)
theorem crcL_lt : ∀ (l : List UInt8) {v : Nat}, v < 16777216 → crcL v l < 16777216
  | [], _, h => h
  | b :: l, _, h => crcL_lt l (crcB_lt h b)
theorem crcL_take (v : Nat) (l : List UInt8) (i : Nat) (h : i < l.length) : crcL v (l.take (i + 1)) = crcB (crcL v (l.take i)) l[i] := by
  unfold crcL
  rw [List.take_succ_eq_append_getElem h, List.foldl_append]
  rfl
theorem crcN_last (k : Nat) (v : Nat) : crcN (k + 1) v = crc1 (crcN k v) := by
  induction k generalizing v with
  | zero => rfl
  | succ k ih => rw [crcN, ih]; rfl

/-- The sum, as it stands behind a text. -/
def sum3 (v : Nat) : List UInt8 := [UInt8.ofNat (v / 65536), UInt8.ofNat (v / 256), UInt8.ofNat v]
theorem u8_div (v k : Nat) : UInt8.ofNat (IntKind.u8.wrap ((v : Int).fdiv (k : Int))).toNat = UInt8.ofNat (v / k) := by
  rw [wrap_u8_mod, Int.fdiv_eq_ediv_of_nonneg _ (by omega)]
  have : ((v : Int) / (k : Int) % 256).toNat = v / k % 256 := by
    rw [← Int.natCast_ediv]; omega
  rw [this]
  apply UInt8.toNat_inj.1
  simp
theorem u8_all (v : Nat) : UInt8.ofNat (IntKind.u8.wrap (v : Int)).toNat = UInt8.ofNat v := by
  have := u8_div v 1
  simpa using this

end Go.Proofs.Ytihipphpfbnknaa
