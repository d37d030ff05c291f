/- What the sum sees: bits turned close together. -/
import Derived.Test.YtihipphpfbnknaaCrcMath
namespace Go.Proofs.Ytihipphpfbnknaa
set_option linter.unusedVariables false

theorem crc1_bit (v : Nat) : crc1 v = if (v * 2).testBit 24 = true then v * 2 ^^^ 25578747 else v * 2 := by
  unfold crc1
  by_cases h : (v * 2).testBit 24 = true
  · rw [if_pos ((and_bit _).2 h), if_pos h]
  · rw [if_neg (fun k => h ((and_bit _).1 k)), if_neg h]
theorem two_mul_xor (a b : Nat) : (a ^^^ b) * 2 = a * 2 ^^^ b * 2 := by
  have := Nat.shiftLeft_xor_distrib (a := a) (b := b) (i := 1)
  simpa [Nat.shiftLeft_eq] using this
theorem crc1_xor (a b : Nat) : crc1 (a ^^^ b) = crc1 a ^^^ crc1 b := by
  rw [crc1_bit, crc1_bit a, crc1_bit b, two_mul_xor, Nat.testBit_xor]
  cases (a * 2).testBit 24 <;> cases (b * 2).testBit 24 <;> simp
  · ac_rfl
  · ac_rfl
  · rw [show a * 2 ^^^ 25578747 ^^^ (b * 2 ^^^ 25578747) = a * 2 ^^^ b * 2 ^^^ (25578747 ^^^ 25578747) by ac_rfl, Nat.xor_self, Nat.xor_zero]
theorem crc1_zero : crc1 0 = 0 := by decide
theorem crcN_zero : ∀ k, crcN k 0 = 0
  | 0 => rfl
  | k + 1 => by rw [crcN, crc1_zero, crcN_zero k]

/-- Going back: from an even one. -/
theorem crc1_back {y z : Nat} (hy : y < 16777216) (hz : z < 16777216) (he : z % 2 = 0) (h : crc1 y = z) : y = z / 2 := by
  rw [crc1_bit] at h
  split at h
  · rename_i hb
    exfalso
    have h0 : (y * 2 ^^^ 25578747).testBit 0 = z.testBit 0 := by rw [h]
    rw [Nat.testBit_xor] at h0
    simp [Nat.testBit_zero, he] at h0
  · omega

def bitV (c : Bool) : Nat := if c then 8388608 else 0
def bitsL (v : Nat) (cs : List Bool) : Nat := cs.foldl (fun v c => crc1 (v ^^^ bitV c)) v
theorem bitsL_cons (v : Nat) (c : Bool) (cs : List Bool) : bitsL v (c :: cs) = bitsL (crc1 (v ^^^ bitV c)) cs := rfl
theorem bitsL_append (v : Nat) (cs ds : List Bool) : bitsL v (cs ++ ds) = bitsL (bitsL v cs) ds := by simp [bitsL]
theorem bitV_lt (c : Bool) : bitV c < 16777216 := by cases c <;> decide
theorem bitV_xor (c d : Bool) : bitV (c ^^ d) = bitV c ^^^ bitV d := by cases c <;> cases d <;> decide
theorem xor_lt24 {a b : Nat} (ha : a < 16777216) (hb : b < 16777216) : a ^^^ b < 16777216 := Nat.xor_lt_two_pow (n := 24) ha hb
theorem bitsL_lt : ∀ (cs : List Bool) {v : Nat}, v < 16777216 → bitsL v cs < 16777216
  | [], _, h => h
  | c :: cs, v, h => bitsL_lt cs (crc1_lt (xor_lt24 h (bitV_lt c)))
theorem bitsL_xor : ∀ (cs ds : List Bool) (u v : Nat), cs.length = ds.length → bitsL (u ^^^ v) (List.zipWith (fun a b => a ^^ b) cs ds) = bitsL u cs ^^^ bitsL v ds
  | [], [], u, v, _ => rfl
  | c :: cs, d :: ds, u, v, h => by
    rw [List.zipWith_cons_cons, bitsL_cons, bitsL_cons, bitsL_cons, ← bitsL_xor cs ds _ _ (by simpa using h), ← crc1_xor, bitV_xor]
    congr 2
    ac_rfl
  | [], _ :: _, _, _, h => by simp at h
  | _ :: _, [], _, _, h => by simp at h

/-- The number whose bits are these, the first on top. -/
def valB : List Bool → Nat
  | [] => 0
  | c :: cs => valB cs / 2 + bitV c
theorem valB_lt : ∀ cs, valB cs < 16777216
  | [] => by decide
  | c :: cs => by
    have := valB_lt cs
    have : bitV c ≤ 8388608 := by cases c <;> decide
    unfold valB; omega
theorem valB_dvd : ∀ cs : List Bool, cs.length ≤ 24 → 2 ^ (24 - cs.length) ∣ valB cs
  | [], _ => ⟨0, rfl⟩
  | c :: cs, h => by
    have h' : cs.length ≤ 23 := by simpa using h
    obtain ⟨q, hq⟩ := valB_dvd cs (by omega)
    have e : 24 - cs.length = (23 - cs.length) + 1 := by omega
    rw [e, Nat.pow_succ] at hq
    have h2 : valB cs / 2 = 2 ^ (23 - cs.length) * q := by
      rw [hq, show 2 ^ (23 - cs.length) * 2 * q = 2 * (2 ^ (23 - cs.length) * q) by ac_rfl, Nat.mul_div_cancel_left _ (by decide)]
    unfold valB
    rw [h2, List.length_cons, show 24 - (cs.length + 1) = 23 - cs.length by omega]
    refine Nat.dvd_add ⟨q, rfl⟩ ?_
    cases c with
    | false => exact ⟨0, rfl⟩
    | true =>
      refine ⟨2 ^ cs.length, ?_⟩
      rw [← Nat.pow_add, show 23 - cs.length + cs.length = 23 by omega]
      decide
theorem valB_even {cs : List Bool} (h : cs.length ≤ 23) : valB cs % 2 = 0 := by
  obtain ⟨q, hq⟩ := valB_dvd cs (by omega)
  rw [show 24 - cs.length = (23 - cs.length) + 1 by omega, Nat.pow_succ] at hq
  rw [hq, show 2 ^ (23 - cs.length) * 2 * q = 2 * (2 ^ (23 - cs.length) * q) by ac_rfl]
  omega
theorem half_xor_bit {w : Nat} (hw : w < 8388608) (c : Bool) : w ^^^ bitV c = w + bitV c := by
  cases c with
  | false => simp [bitV]
  | true =>
    have h : bitV true = 2 ^ 23 * 1 := by decide
    have := Nat.two_pow_add_eq_or_of_lt (i := 23) (b := w) (by simpa using hw) 1
    rw [h, Nat.add_comm, this, Nat.xor_comm]
    apply Nat.eq_of_testBit_eq
    intro i
    rw [Nat.testBit_xor, Nat.testBit_or, Nat.mul_one, Nat.testBit_two_pow]
    by_cases hi : 23 = i
    · subst hi
      have : w.testBit 23 = false := Nat.testBit_lt_two_pow (by simpa using hw)
      simp [this]
    · simp [hi]

theorem bitsL_back : ∀ (cs : List Bool) {v : Nat}, cs.length ≤ 24 → v < 16777216 → bitsL v cs = 0 → v = valB cs
  | [], v, _, _, h => h
  | c :: cs, v, hl, hv, h => by
    have hl' : cs.length ≤ 23 := by simpa using hl
    rw [bitsL_cons] at h
    have hx := xor_lt24 hv (bitV_lt c)
    have h1 := bitsL_back cs (by omega) (crc1_lt hx) h
    have h2 := crc1_back hx (valB_lt cs) (valB_even hl') h1
    have h3 : v = valB cs / 2 ^^^ bitV c := by rw [← h2, Nat.xor_assoc, Nat.xor_self, Nat.xor_zero]
    rw [h3, half_xor_bit (by have := valB_lt cs; omega)]
    rfl
theorem valB_zero : ∀ cs : List Bool, cs.length ≤ 24 → valB cs = 0 → ∀ c ∈ cs, c = false
  | [], _, _ => by simp
  | c :: cs, hl, h => by
    have hl' : cs.length ≤ 23 := by simpa using hl
    unfold valB at h
    have he := valB_even hl'
    have h1 : valB cs = 0 := by omega
    have h2 : bitV c = 0 := by omega
    intro d hd
    rcases List.mem_cons.1 hd with rfl | hd
    · cases d with
      | false => rfl
      | true => exact absurd h2 (by decide)
    · exact valB_zero cs (by omega) h1 d hd
theorem bitsL_zeros : ∀ (cs : List Bool) {v : Nat}, v < 16777216 → (∀ c ∈ cs, c = false) → bitsL v cs = 0 → v = 0
  | [], v, _, _, h => h
  | c :: cs, v, hv, hc, h => by
    have : c = false := hc c (by simp)
    subst this
    rw [bitsL_cons] at h
    have hx : v ^^^ bitV false = v := by simp [bitV]
    rw [hx] at h
    have h1 := bitsL_zeros cs (crc1_lt hv) (fun d hd => hc d (by simp [hd])) h
    have := crc1_back hv (by decide) (by decide) h1
    simpa using this
theorem bitsL_zero : ∀ (cs : List Bool), (∀ c ∈ cs, c = false) → bitsL 0 cs = 0
  | [], _ => rfl
  | c :: cs, hc => by
    have : c = false := hc c (by simp)
    subst this
    rw [bitsL_cons]
    have : crc1 (0 ^^^ bitV false) = 0 := by decide
    rw [this]
    exact bitsL_zero cs (fun d hd => hc d (by simp [hd]))
/-- What is turned within twenty-four is seen. -/
theorem burst (cs : List Bool) (first : Nat) (hb : ∀ i, cs[i]? = some true → first ≤ i ∧ i < first + 24) (h : bitsL 0 cs = 0) : ∀ c ∈ cs, c = false := by
  have e : cs = cs.take first ++ ((cs.drop first).take 24 ++ (cs.drop first).drop 24) := by rw [List.take_append_drop, List.take_append_drop]
  have h1 : ∀ c ∈ cs.take first, c = false := fun c hc => by
    obtain ⟨i, hi⟩ := List.mem_iff_getElem?.1 hc
    rw [List.getElem?_take] at hi
    split at hi
    · cases c with
      | false => rfl
      | true => have := hb i hi; omega
    · cases hi
  have h3 : ∀ c ∈ (cs.drop first).drop 24, c = false := fun c hc => by
    obtain ⟨i, hi⟩ := List.mem_iff_getElem?.1 hc
    rw [List.getElem?_drop, List.getElem?_drop] at hi
    cases c with
    | false => rfl
    | true => have := hb _ hi; omega
  rw [e, bitsL_append, bitsL_zero _ h1, bitsL_append] at h
  have h4 := bitsL_zeros _ (bitsL_lt _ (by decide)) h3 h
  have h5 := bitsL_back _ (by simp; omega) (by decide) h4
  have h2 := valB_zero _ (by simp; omega) h5.symm
  intro c hc
  rw [e] at hc
  rcases List.mem_append.1 hc with hc | hc
  · exact h1 c hc
  · rcases List.mem_append.1 hc with hc | hc
    · exact h2 c hc
    · exact h3 c hc

/-- A byte's bits, the highest first. -/
def bits8 (b : UInt8) : List Bool := [b.toNat.testBit 7, b.toNat.testBit 6, b.toNat.testBit 5, b.toNat.testBit 4, b.toNat.testBit 3, b.toNat.testBit 2, b.toNat.testBit 1, b.toNat.testBit 0]
def bitsOf (l : List UInt8) : List Bool := l.flatMap bits8
theorem crcN_valB : ∀ (cs : List Bool) (v : Nat), cs.length ≤ 24 → crcN cs.length (v ^^^ valB cs) = bitsL v cs
  | [], v, _ => by simp [crcN, bitsL, valB]
  | c :: cs, v, hl => by
    have hl' : cs.length ≤ 23 := by simpa using hl
    have hlt := valB_lt cs
    have hh : valB cs / 2 < 8388608 := by omega
    have e1 : crc1 (valB cs / 2) = valB cs := by
      rw [crc1_bit, if_neg]
      · have := valB_even hl'; omega
      · rw [testBit_div]; simp; omega
    rw [bitsL_cons, List.length_cons, crcN, ← crcN_valB cs _ (by omega)]
    congr 1
    have ev : valB (c :: cs) = valB cs / 2 + bitV c := rfl
    rw [ev, ← half_xor_bit hh, show v ^^^ (valB cs / 2 ^^^ bitV c) = (v ^^^ bitV c) ^^^ valB cs / 2 by ac_rfl, crc1_xor, e1]
theorem valB_bits8_fin : ∀ n : Fin 256, valB [n.val.testBit 7, n.val.testBit 6, n.val.testBit 5, n.val.testBit 4, n.val.testBit 3, n.val.testBit 2, n.val.testBit 1, n.val.testBit 0] = n.val * 65536 := by decide +kernel
theorem valB_bits8 (b : UInt8) : valB (bits8 b) = b.toNat * 65536 := valB_bits8_fin ⟨b.toNat, b.toNat_lt⟩
theorem crcB_bits (v : Nat) (b : UInt8) : crcB v b = bitsL v (bits8 b) := by
  rw [← crcN_valB (bits8 b) v (by simp [bits8]), valB_bits8]
  rfl
theorem crcL_bits : ∀ (l : List UInt8) (v : Nat), crcL v l = bitsL v (bitsOf l)
  | [], _ => rfl
  | b :: l, v => by
    have : crcL v (b :: l) = crcL (crcB v b) l := rfl
    have e : bitsOf (b :: l) = bits8 b ++ bitsOf l := rfl
    rw [this, crcL_bits l, crcB_bits, e, bitsL_append]

/-! ### a sealed text comes to nothing -/
theorem crcN_shift : ∀ (k w : Nat), w * 2 ^ k < 16777216 → crcN k w = w * 2 ^ k
  | 0, w, _ => by simp [crcN]
  | k + 1, w, h => by
    have h1 : w * 2 ^ (k + 1) = w * 2 * 2 ^ k := by rw [Nat.pow_succ]; ac_rfl
    rw [h1] at h
    have h2 : w * 2 < 16777216 := Nat.lt_of_le_of_lt (Nat.le_mul_of_pos_right _ (Nat.two_pow_pos k)) h
    have e : crc1 w = w * 2 := by
      rw [crc1_bit, if_neg]
      rw [testBit_div]; simp; omega
    rw [crcN, e, crcN_shift k _ h, h1]
theorem xor_high {v : Nat} : v ^^^ (v / 65536 * 65536) = v % 65536 := by
  apply Nat.eq_of_testBit_eq
  intro i
  have h : (65536 : Nat) = 2 ^ 16 := by decide
  rw [Nat.testBit_xor, h, Nat.testBit_mod_two_pow, Nat.testBit_mul_two_pow, Nat.testBit_div_two_pow]
  by_cases hi : 16 ≤ i
  · simp [hi, show i - 16 + 16 = i by omega, show ¬ i < 16 by omega]
  · simp [hi, show i < 16 by omega]
theorem crcB_top {v : Nat} (hv : v < 16777216) : crcB v (UInt8.ofNat (v / 65536)) = v % 65536 * 256 := by
  unfold crcB
  have : (UInt8.ofNat (v / 65536)).toNat = v / 65536 := by simp; omega
  rw [this, xor_high, crcN_shift]
  omega
theorem crcL_sum3 {v : Nat} (hv : v < 16777216) : crcL v (sum3 v) = 0 := by
  have e1 : crcL v (sum3 v) = crcB (crcB (crcB v (UInt8.ofNat (v / 65536))) (UInt8.ofNat (v / 256))) (UInt8.ofNat v) := rfl
  rw [e1, crcB_top hv]
  have e2 : UInt8.ofNat (v / 256) = UInt8.ofNat (v % 65536 * 256 / 65536) := by
    apply UInt8.toNat_inj.1; simp; omega
  rw [e2, crcB_top (by omega)]
  have e3 : UInt8.ofNat v = UInt8.ofNat (v % 65536 * 256 % 65536 * 256 / 65536) := by
    apply UInt8.toNat_inj.1; simp; omega
  rw [e3, crcB_top (by omega)]
  omega
/-! ### one bit turned -/
def getB (l : List UInt8) (k : Nat) : Bool := (l.getD (k / 8) 0).toNat.testBit (7 - k % 8)
theorem bitsOf_getB : ∀ l : List UInt8, bitsOf l = (List.range (8 * l.length)).map (getB l)
  | [] => rfl
  | b :: l => by
    have e : bitsOf (b :: l) = bits8 b ++ bitsOf l := rfl
    rw [e, bitsOf_getB l, List.length_cons, show 8 * (l.length + 1) = 8 + 8 * l.length by omega, List.range_add, List.map_append, List.map_map]
    congr 1
    apply List.map_congr_left
    intro i _
    simp only [Function.comp, getB]
    rw [show (8 + i) / 8 = i / 8 + 1 by omega, show (8 + i) % 8 = i % 8 by omega]
    simp
/-- Two that differ within twenty-four places, and that both come to nothing, are one. -/
theorem burst_seen {x l : List UInt8} (hlen : l.length = x.length) (first v0 : Nat) (hx : crcL v0 x = 0) (hl : crcL v0 l = 0)
    (hb : ∀ i, i < 8 * x.length → getB l i ≠ getB x i → first ≤ i ∧ i < first + 24) : ∀ i, i < 8 * x.length → getB l i = getB x i := by
  rw [crcL_bits] at hx hl
  have h := bitsL_xor (bitsOf l) (bitsOf x) v0 v0 (by rw [bitsOf_getB, bitsOf_getB, hlen]; simp)
  rw [hx, hl, Nat.xor_self, Nat.xor_self, bitsOf_getB, bitsOf_getB, hlen] at h
  have e : List.zipWith (fun a b => a ^^ b) ((List.range (8 * x.length)).map (getB l)) ((List.range (8 * x.length)).map (getB x)) = (List.range (8 * x.length)).map fun i => getB l i ^^ getB x i := by
    apply List.ext_getElem
    · simp
    · intro i h1 h2; simp
  rw [e] at h
  have := burst _ first (fun i hi => by
    have hlt : i < 8 * x.length := by
      have := (List.getElem?_eq_some_iff.1 hi).1
      simpa using this
    rw [List.getElem?_map, List.getElem?_range hlt] at hi
    simp at hi
    exact hb i hlt (fun e => by rw [e] at hi; simp at hi)) h
  intro i hi
  have := this (getB l i ^^ getB x i) (List.mem_map.2 ⟨i, by simpa using hi, rfl⟩)
  revert this
  cases getB l i <;> cases getB x i <;> simp

theorem mask_fin : ∀ q r : Fin 8, (128 / 2 ^ q.val).testBit (7 - r.val) = decide (r = q) := by decide
theorem getB_flip (l : List UInt8) (i : Nat) (hi : i < 8 * l.length) (c : UInt8) (hc : c.toNat = (l.getD (i / 8) 0).toNat ^^^ 128 / 2 ^ (i % 8)) (k : Nat) : getB (l.set (i / 8) c) k = (getB l k ^^ decide (k = i)) := by
  unfold getB
  by_cases h : i / 8 = k / 8
  · rw [← h]
    have h1 : (l.set (i / 8) c).getD (i / 8) 0 = c := by
      rw [List.getD_eq_getElem?_getD, List.getElem?_set_self (by omega)]; rfl
    rw [h1, hc, Nat.testBit_xor]
    congr 1
    have := mask_fin ⟨i % 8, by omega⟩ ⟨k % 8, by omega⟩
    simp only at this
    rw [this]
    apply decide_eq_decide.2
    simp only [Fin.mk.injEq]
    omega
  · have h1 : (l.set (i / 8) c).getD (k / 8) 0 = l.getD (k / 8) 0 := by
      rw [List.getD_eq_getElem?_getD, List.getElem?_set_ne h, ← List.getD_eq_getElem?_getD]
    rw [h1]
    have : decide (k = i) = false := by simp; omega
    rw [this]; simp

end Go.Proofs.Ytihipphpfbnknaa
