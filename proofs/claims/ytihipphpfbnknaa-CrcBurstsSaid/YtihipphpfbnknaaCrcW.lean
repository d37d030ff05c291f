/- The walks of the crc package and of its reference. -/
import Derived.Test.YtihipphpfbnknaaCode
import Derived.Test.YtihipphpfbnknaaCrcMath
import Derived.Test.YtihipphpfbnknaaAm20
namespace Go.Proofs.Ytihipphpfbnknaa
open Am C
set_option linter.unusedSimpArgs false

theorem crc_Value_ok (id : Nat) (v : Nat) (m : Nat) (hm : m ≤ 1) (H : Hp) (hv : v < 16777216) (hg : H.get id = some (.cells [.i .u32 ((v ^^^ 11994318 : Nat) : Int)] m)) :
    AC Try.prog n_crc_Sum_Value [.p (some (id, 0, 1))] H (fun r H' => r = .i .u32 v ∧ H' = H) := by
  refine AC.code crc_Sum_Value.at crc_Sum_Value.ok ?_
  refine AX.of _ ?_
  have h1 : v ^^^ 11994318 < 16777216 := Nat.xor_lt_two_pow (n := 24) hv (by decide)
  have h2 := bXor_u32 (a := v ^^^ 11994318) (b := 11994318) (by omega) (by omega)
  rw [Nat.xor_assoc, Nat.xor_self, Nat.xor_zero] at h2
  simp [crc_Sum_Value, crc_Sum_Value.r0, crc_Sum_Value.r1, hg, hm]
  exact h2

theorem crc_Write_ok (id : Nat) (v : Nat) (m : Nat) (hm : m ≤ 1) (H : Hp) (hv : v < 16777216) (bs : List UInt8) (hb : bs.length ≤ 140737488351232) (hg : H.get id = some (.cells [.i .u32 ((v ^^^ 11994318 : Nat) : Int)] m)) :
    AC Try.prog n_crc_Sum_Write [.p (some (id, 0, 1)), .s bs] H (fun r H' => r = .tup [] ∧ H' = H.upd id (.cells [.i .u32 ((crcL v bs ^^^ 11994318 : Nat) : Int)] 1)) := by
  refine AC.code crc_Sum_Write.at crc_Sum_Write.ok ?_
  simp only [crc_Sum_Write]
  refine AX.seq (AX.reg ?_)
  simp [crc_Sum_Write.r0]
  refine AC.fix (crc_Value_ok id v m hm H hv hg) ?_
  refine AX.seq (AX.seq (AX.reg ?_))
  simp [crc_Sum_Write.r1]
  refine AX.pblock (AX.loop (fun k F H' => ∃ i : Nat, i ≤ bs.length ∧ k = bs.length - i ∧ H' = H ∧
    F = [(0, .p (some (id, 0, 1))), (1, .s bs), (4, .i .u32 (crcL v (bs.take i))), (9, .i .i64 bs.length), (10, .i .i64 i)]) bs.length ⟨_, _, .refl _ _, 0, by omega, by omega, rfl, by simp [crcL]⟩ ?_)
  rintro k F H' ⟨i, hi, rfl, rfl, rfl⟩
  have hw := crcL_lt (bs.take i) hv
  simp only [crc_Sum_Write.l0]
  refine AX.seq (AX.reg ?_)
  simp [crc_Sum_Write.r2]
  refine AX.seq (AX.pcond rfl (fun hlt => AX.skip ?_) (fun hge => AX.exit ?_))
  · simp at hlt
    simp
    refine AX.seq (AX.pblock (AX.seq (AX.reg ?_)))
    simp [crc_Sum_Write.r3]
    refine AX.seq (AX.reg ?_)
    have hb1 := bs[i].toNat_lt
    have e1 : IntKind.u32.wrap ((bs[i].toNat : Int)) = ((bs[i].toNat : Nat) : Int) := wrap_u32 (by omega) (by omega)
    have e2 : IntKind.u32.wrap ((bs[i].toNat : Int) * 65536) = ((bs[i].toNat * 65536 : Nat) : Int) := by rw [wrap_u32 (by omega) (by omega)]; simp
    have e3 := bXor_u32 (a := crcL v (bs.take i)) (b := bs[i].toNat * 65536) (by omega) (by omega)
    simp at e3
    simp [crc_Sum_Write.r4, hlt, e1, e2, e3]
    have hx := byte_lt hw bs[i]
    refine AX.seq (AX.reg ?_)
    simp [crc_Sum_Write.r5]
    refine AX.pblock (AX.loop (fun k F H'' => ∃ j : Nat, j ≤ 8 ∧ k = 8 - j ∧ H'' = H' ∧
      F = [(0, .p (some (id, 0, 1))), (1, .s bs), (4, .i .u32 (crcN j (crcL v (bs.take i) ^^^ bs[i].toNat * 65536))), (9, .i .i64 bs.length), (10, .i .i64 i), (20, .i .i64 j)]) 8 ⟨_, _, .refl _ _, 0, by omega, by omega, rfl, by simp [crcN]⟩ ?_)
    rintro k F H'' ⟨j, hj, rfl, rfl, rfl⟩
    have hn := crcN_lt j hx
    simp only [crc_Sum_Write.l1]
    refine AX.seq (AX.reg ?_)
    simp [crc_Sum_Write.r6]
    refine AX.seq (AX.pcond rfl (fun hlt => AX.skip ?_) (fun hge => AX.exit ?_))
    · simp at hlt
      simp
      refine AX.seq (AX.pblock (AX.seq (AX.reg ?_)))
      generalize hu : crcN j (crcL v (bs.take i) ^^^ bs[i].toNat * 65536) = u at *
      have e4 : IntKind.u32.wrap ((u : Int) * 2) = ((u * 2 : Nat) : Int) := by rw [wrap_u32 (by omega) (by omega)]; simp
      have e5 := bAnd_u32 (a := u * 2) (b := 16777216) (by omega) (by omega)
      have e6 := bXor_u32 (a := u * 2) (b := 25578747) (by omega) (by omega)
      simp at e5 e6
      simp [crc_Sum_Write.r7, e4]
      refine AX.seq (AX.reg ?_)
      simp [crc_Sum_Write.r8, e5]
      have e7 : IntKind.i64.wrap ((j : Int) + 1) = ((j + 1 : Nat) : Int) := by rw [wrap_i64 (by omega) (by omega)]; simp
      have hnext : crcN (j + 1) (crcL v (bs.take i) ^^^ bs[i].toNat * 65536) = crc1 u := by rw [crcN_last, hu]
      refine AX.pcond rfl (fun hbit => AX.reg ?_) (fun hbit => AX.skip ?_)
      · simp at hbit
        have hbit' : u * 2 &&& 16777216 ≠ 0 := hbit
        simp [crc_Sum_Write.r9, e6]
        refine AX.reg ?_
        simp [crc_Sum_Write.r10, e7]
        exact ⟨8 - (j + 1), by omega, _, _, .refl _ _, j + 1, by omega, rfl, rfl, by simp [hnext, crc1, hbit']⟩
      · simp at hbit
        simp
        refine AX.reg ?_
        simp [crc_Sum_Write.r10, e7]
        exact ⟨8 - (j + 1), by omega, _, _, .refl _ _, j + 1, by omega, rfl, rfl, by simp [hnext, crc1, hbit]⟩
    · simp at hge
      have hj8 : j = 8 := by omega
      subst hj8
      simp
      refine AX.reg ?_
      have e8 : IntKind.i64.wrap ((i : Int) + 1) = ((i + 1 : Nat) : Int) := by rw [wrap_i64 (by omega) (by omega)]; simp
      simp [crc_Sum_Write.r11, e8]
      exact ⟨bs.length - (i + 1), by omega, _, _, .refl _ _, i + 1, by omega, rfl, rfl, by simp [crcL_take v bs i hlt, crcB]⟩
  · simp at hge
    have hi' : i = bs.length := by omega
    subst hi'
    simp
    refine AX.reg ?_
    have e3 := bXor_u32 (a := crcL v bs) (b := 11994318) (by rw [List.take_length] at hw; omega) (by omega)
    simp at e3
    simp [crc_Sum_Write.r12, hg, e3, Am.Ends]

theorem crc_Of_ok (bs : List UInt8) (hb : bs.length ≤ 140737488351232) (H : Hp) : AC Try.prog n_crc_Of [.s bs] H (fun r H' => r = .i .u32 (crcL 11994318 bs) ∧ H' = H) := by
  refine AC.codeC crc_Of.at crc_Of.ok (by simp) fun hl => ?_
  simp only [crc_Of]
  refine AX.seq (AX.reg ?_)
  simp [crc_Of.r0]
  refine AX.seq (AX.reg ?_)
  simp [crc_Of.r1]
  refine AX.seq (AX.reg ?_)
  simp [crc_Of.r2]
  refine AC.fix (crc_Write_ok H.next 11994318 1 (by omega) _ (by omega) bs hb (by simp)) ?_
  refine AX.seq (AX.reg ?_)
  simp [crc_Of.r3]
  refine AC.fix (crc_Value_ok H.next (crcL 11994318 bs) 1 (by omega) _ (crcL_lt bs (by omega)) (by simp)) ?_
  try simp
  refine AX.ret ?_
  simp
  intro id blk hg
  have := hl id blk hg
  simp [show id ≠ H.next by omega, hg]

theorem ref_Of_ok (bs : List UInt8) (hb : bs.length ≤ 140737488351232) (H : Hp) : AC Try.prog n_weftref03_Of [.s bs] H (fun r H' => r = .i .u32 (crcL 11994318 bs) ∧ H' = H) := by
  refine AC.code weftref03_Of.at weftref03_Of.ok ?_
  simp only [weftref03_Of]
  refine AX.seq (AX.reg ?_)
  simp [weftref03_Of.r0]
  refine AX.seq (AX.reg ?_)
  simp [weftref03_Of.r1]
  refine AX.seq (AX.seq (AX.reg ?_))
  simp [weftref03_Of.r2]
  refine AX.pblock (AX.loop (fun k F H' => ∃ i : Nat, i ≤ bs.length ∧ k = bs.length - i ∧ H = H' ∧
    F = [(0, .s bs), (3, .i .u32 (crcL 11994318 (bs.take i))), (4, .i .i64 i)]) bs.length ⟨_, _, .refl _ _, 0, by omega, by omega, rfl, by simp [crcL]⟩ ?_)
  rintro k F H' ⟨i, hi, rfl, rfl, rfl⟩
  have hw := crcL_lt (bs.take i) (v := 11994318) (by omega)
  simp only [weftref03_Of.l0]
  refine AX.seq (AX.seq (AX.reg ?_))
  simp [weftref03_Of.r3]
  refine AX.pcond rfl (fun hlt => AX.skip ?_) (fun hge => AX.exit ?_)
  · simp at hlt
    simp
    refine AX.seq (AX.pblock (AX.seq (AX.reg ?_)))
    have hb1 := bs[i].toNat_lt
    have e1 : IntKind.u32.wrap ((bs[i].toNat : Int)) = ((bs[i].toNat : Nat) : Int) := wrap_u32 (by omega) (by omega)
    have e2 : IntKind.u32.wrap ((bs[i].toNat : Int) * 65536) = ((bs[i].toNat * 65536 : Nat) : Int) := by rw [wrap_u32 (by omega) (by omega)]; simp
    have e3 := bXor_u32 (a := crcL 11994318 (bs.take i)) (b := bs[i].toNat * 65536) (by omega) (by omega)
    simp at e3
    simp [weftref03_Of.r4, hlt, e1, e2, e3]
    have hx := byte_lt hw bs[i]
    refine AX.seq (AX.reg ?_)
    simp [weftref03_Of.r5]
    refine AX.pblock (AX.loop (fun k F H'' => ∃ j : Nat, j ≤ 8 ∧ k = 8 - j ∧ H = H'' ∧
      F = [(0, .s bs), (3, .i .u32 (crcN j (crcL 11994318 (bs.take i) ^^^ bs[i].toNat * 65536))), (4, .i .i64 i), (5, .i .i64 j)]) 8 ⟨_, _, .refl _ _, 0, by omega, by omega, rfl, by simp [crcN]⟩ ?_)
    rintro k F H'' ⟨j, hj, rfl, rfl, rfl⟩
    have hn := crcN_lt j hx
    simp only [weftref03_Of.l1]
    refine AX.seq (AX.seq (AX.reg ?_))
    simp [weftref03_Of.r6]
    refine AX.pcond rfl (fun hlt => AX.skip ?_) (fun hge => AX.exit ?_)
    · simp at hlt
      simp
      refine AX.seq (AX.pblock (AX.seq (AX.reg ?_)))
      generalize hu : crcN j (crcL 11994318 (bs.take i) ^^^ bs[i].toNat * 65536) = u at *
      have e4 : IntKind.u32.wrap ((u : Int) * 2) = ((u * 2 : Nat) : Int) := by rw [wrap_u32 (by omega) (by omega)]; simp
      have e5 := bAnd_u32 (a := u * 2 / 16777216) (b := 1) (by omega) (by omega)
      have e6 := bXor_u32 (a := u * 2) (b := 25578747) (by omega) (by omega)
      have e9 : ((u : Int) * 2).fdiv 16777216 = ((u * 2 / 16777216 : Nat) : Int) := by
        rw [Int.fdiv_eq_ediv_of_nonneg _ (by omega)]; simp
      simp at e5 e6 e9
      simp [weftref03_Of.r7, e4]
      refine AX.seq (AX.reg ?_)
      simp [weftref03_Of.r8, e9, e5]
      have e7 : IntKind.i64.wrap ((j : Int) + 1) = ((j + 1 : Nat) : Int) := by rw [wrap_i64 (by omega) (by omega)]; simp
      have hnext : crcN (j + 1) (crcL 11994318 (bs.take i) ^^^ bs[i].toNat * 65536) = crc1 u := by rw [crcN_last, hu]
      have hbit : (u * 2 &&& 16777216 ≠ 0) ↔ u * 2 / 16777216 = 1 := by
        rw [and_bit, testBit_div]
        simp; omega
      refine AX.pcond rfl (fun hb2 => AX.reg ?_) (fun hb2 => AX.skip ?_)
      · simp at hb2
        have hbit' : u * 2 &&& 16777216 ≠ 0 := hbit.2 (by omega)
        simp [weftref03_Of.r9, e6]
        refine AX.reg ?_
        simp [weftref03_Of.r10, e7]
        exact ⟨8 - (j + 1), by omega, _, _, .refl _ _, j + 1, by omega, rfl, rfl, by simp [hnext, crc1, hbit']⟩
      · simp at hb2
        have hbit' : ¬ (u * 2 &&& 16777216 ≠ 0) := fun h => by have := hbit.1 h; omega
        simp
        refine AX.reg ?_
        simp [weftref03_Of.r10, e7]
        exact ⟨8 - (j + 1), by omega, _, _, .refl _ _, j + 1, by omega, rfl, rfl, by simp [hnext, crc1, hbit']⟩
    · simp at hge
      have hj8 : j = 8 := by omega
      subst hj8
      simp
      refine AX.reg ?_
      have e8 : IntKind.i64.wrap ((i : Int) + 1) = ((i + 1 : Nat) : Int) := by rw [wrap_i64 (by omega) (by omega)]; simp
      simp [weftref03_Of.r11, e8]
      exact ⟨bs.length - (i + 1), by omega, _, _, .refl _ _, i + 1, by omega, rfl, rfl, by simp [crcL_take 11994318 bs i hlt, crcB]⟩
  · simp at hge
    have hi' : i = bs.length := by omega
    subst hi'
    simp
    refine AX.seq (AX.reg ?_)
    simp [weftref03_Of.r12]
    refine AX.ret ?_
    simp

theorem crc_Seal_ok (bs : List UInt8) (hb : bs.length ≤ 140737488351232) (H : Hp) : AC Try.prog n_crc_Seal [.s bs] H (fun r H' => r = .s (bs ++ sum3 (crcL 11994318 bs)) ∧ H' = H) := by
  refine AC.codeC crc_Seal.at crc_Seal.ok (by simp) fun hl => ?_
  simp only [crc_Seal]
  refine AX.seq (AX.reg ?_)
  simp [crc_Seal.r0]
  refine AX.seq (AX.reg ?_)
  simp [crc_Seal.r1]
  refine AC.fix (crc_Of_ok bs hb H) ?_
  try simp
  refine AX.seq (AX.reg ?_)
  have e1 := u8_div (crcL 11994318 bs) 65536
  have e2 := u8_div (crcL 11994318 bs) 256
  have e3 := u8_all (crcL 11994318 bs)
  simp at e1 e2 e3
  simp [crc_Seal.r2, repl, e1, e2, e3, sum3, show bs.length + 3 ≤ 9223372036854775807 by omega]
  refine AX.ret ?_
  simp [sum3]
  intro id blk hg
  have := hl id blk hg
  simp [show id ≠ H.next by omega, hg]

end Go.Proofs.Ytihipphpfbnknaa
