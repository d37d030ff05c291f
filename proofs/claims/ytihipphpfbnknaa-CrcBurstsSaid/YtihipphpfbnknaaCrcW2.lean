/- The walks of sealing and opening, and of three laws of crc. -/
import Derived.Test.YtihipphpfbnknaaCrcW
namespace Go.Proofs.Ytihipphpfbnknaa
open Am C
set_option linter.unusedSimpArgs false

theorem ref_Seal_ok (bs : List UInt8) (hb : bs.length ≤ 140737488351232) (H : Hp) : AC Try.prog n_weftref03_Seal [.s bs] H (fun r H' => r = .s (bs ++ sum3 (crcL 11994318 bs)) ∧ H' = H) := by
  refine AC.codeC weftref03_Seal.at weftref03_Seal.ok (by simp) fun hl => ?_
  simp only [weftref03_Seal]
  refine AX.seq (AX.reg ?_)
  simp [weftref03_Seal.r0]
  refine AX.seq (AX.reg ?_)
  simp [weftref03_Seal.r1]
  refine AC.fix (ref_Of_ok bs hb H) ?_
  try simp
  refine AX.seq (AX.reg ?_)
  have e1 := u8_div (crcL 11994318 bs) 65536
  have e2 := u8_div (crcL 11994318 bs) 256
  have e3 := u8_all (crcL 11994318 bs)
  simp at e1 e2 e3
  simp [weftref03_Seal.r2, repl, e1, e2, e3, sum3, show bs.length + 3 ≤ 9223372036854775807 by omega]
  refine AX.ret ?_
  simp [sum3]
  intro id blk hg
  have := hl id blk hg
  simp [show id ≠ H.next by omega, hg]

def sealB (bs : List UInt8) : List UInt8 := bs ++ sum3 (crcL 11994318 bs)
@[simp] theorem sealB_length (bs : List UInt8) : (sealB bs).length = bs.length + 3 := by simp [sealB, sum3]
def openB (bs : List UInt8) : List UInt8 × Bool :=
  if bs.length < 3 then ([], false) else if sealB (bs.take (bs.length - 3)) = bs then (bs.take (bs.length - 3), true) else ([], false)

theorem crc_Open_ok (bs : List UInt8) (hb : bs.length ≤ 140737488351232) (H : Hp) : AC Try.prog n_crc_Open [.s bs] H (fun r H' => r = .tup [.s (openB bs).1, .b (openB bs).2] ∧ H' = H) := by
  refine AC.code crc_Open.at crc_Open.ok ?_
  simp only [crc_Open]
  refine AX.seq (AX.reg ?_)
  simp [crc_Open.r0]
  refine AX.seq (AX.seq (AX.reg ?_))
  simp [crc_Open.r1]
  refine AX.pcond rfl (fun hlt => AX.seq (AX.reg ?_)) (fun hge => AX.skip ?_)
  · simp at hlt
    simp [crc_Open.r2]
    refine AX.ret ?_
    simp [openB, hlt]
  · simp at hge
    simp
    refine AX.seq (AX.reg ?_)
    have e1 : IntKind.i64.wrap ((bs.length : Int) - 3) = ((bs.length - 3 : Nat) : Int) := by rw [wrap_i64 (by omega) (by omega)]; omega
    simp [crc_Open.r3, e1]
    refine AX.seq (AX.seq (AX.reg ?_))
    simp [crc_Open.r4]
    refine AC.fix (crc_Seal_ok (bs.take (bs.length - 3)) (by simp; omega) H) ?_
    simp
    refine AX.pcond rfl (fun hne => AX.seq (AX.reg ?_)) (fun heq => AX.skip ?_)
    · simp at hne
      simp [crc_Open.r5]
      refine AX.ret ?_
      simp [openB, sealB, hne]
    · simp at heq
      simp
      refine AX.seq (AX.reg ?_)
      simp [crc_Open.r6]
      refine AX.ret ?_
      simp [openB, sealB, heq, show ¬ bs.length < 3 by omega]

theorem ref_Open_ok (bs : List UInt8) (hb : bs.length ≤ 140737488351232) (H : Hp) : AC Try.prog n_weftref03_Open [.s bs] H (fun r H' => r = .tup [.s (openB bs).1, .b (openB bs).2] ∧ H' = H) := by
  refine AC.code weftref03_Open.at weftref03_Open.ok ?_
  simp only [weftref03_Open]
  refine AX.seq (AX.reg ?_)
  simp [weftref03_Open.r0]
  have e1 : 3 ≤ bs.length → IntKind.i64.wrap ((bs.length : Int) - 3) = ((bs.length - 3 : Nat) : Int) := fun h => by rw [wrap_i64 (by omega) (by omega)]; omega
  refine AX.seq (AX.seq (AX.reg ?_))
  by_cases hlt : bs.length < 3
  · simp [weftref03_Open.r1, hlt]
    refine AX.pcond rfl (fun _ => AX.seq (AX.reg ?_)) (fun h => by simp at h)
    simp [weftref03_Open.r2]
    refine AX.ret ?_
    simp [openB, hlt]
  · have e1 : IntKind.i64.wrap ((bs.length : Int) - 3) = ((bs.length - 3 : Nat) : Int) := by rw [wrap_i64 (by omega) (by omega)]; omega
    simp [weftref03_Open.r1, hlt, e1]
    refine AC.fix (ref_Seal_ok (bs.take (bs.length - 3)) (by simp; omega) H) ?_
    simp
    refine AX.pcond rfl (fun hne => AX.seq (AX.reg ?_)) (fun heq => AX.skip ?_)
    · simp at hne
      simp [weftref03_Open.r2]
      refine AX.ret ?_
      simp [openB, sealB, hne]
    · simp at heq
      simp
      refine AX.seq (AX.reg ?_)
      simp [weftref03_Open.r3, e1]
      refine AX.ret ?_
      simp [openB, sealB, heq, show ¬ bs.length < 3 by omega]

theorem crc_works_fact : crcL 11994318 [49, 50, 51, 52, 53, 54, 55, 56, 57] = 2215682 := by kernel_rfl

theorem crc_works_ok (H : Hp) : AC Try.prog n_weftlaw03_works [] H (fun r H' => r = .b true ∧ H' = H) := by
  refine AC.code weftlaw03_works.at weftlaw03_works.ok ?_
  simp only [weftlaw03_works]
  refine AX.seq (AX.reg ?_)
  simp [weftlaw03_works.r0]
  refine AX.seq (AX.reg ?_)
  simp [weftlaw03_works.r1]
  refine AC.fix (crc_Of_ok _ (by simp) H) ?_
  simp [crc_works_fact]
  refine AC.fix (crc_Seal_ok [] (by simp) H) ?_
  simp [sum3]
  refine AX.ret ?_
  simp

/-- The law CrcSums. -/
theorem CrcSums_ok (bs : List UInt8) (hb : bs.length ≤ 9223372036854775807) (H : Hp) : AC Try.prog n_weftlaw03_CrcSums [.s bs] H (fun r _ => r = .b true) := by
  refine AC.code weftlaw03_CrcSums.at weftlaw03_CrcSums.ok ?_
  simp only [weftlaw03_CrcSums]
  refine AX.seq (AX.reg ?_)
  simp [weftlaw03_CrcSums.r0]
  refine AX.seq (AX.reg ?_)
  by_cases hlt : 30000 < bs.length
  · simp [weftlaw03_CrcSums.r1, hlt]
    refine AX.ret ?_
    simp
  · simp [weftlaw03_CrcSums.r1, hlt]
    refine AC.fix (crc_Of_ok _ (by omega) H) ?_
    simp
    refine AC.fix (ref_Of_ok _ (by omega) H) ?_
    simp
    refine AC.fix (crc_Seal_ok _ (by omega) H) ?_
    simp
    refine AC.fix (ref_Seal_ok _ (by omega) H) ?_
    simp
    refine AX.ret ?_
    simp

/-- The law CrcOpens. -/
theorem CrcOpens_ok (bs : List UInt8) (hb : bs.length ≤ 9223372036854775807) (H : Hp) : AC Try.prog n_weftlaw03_CrcOpens [.s bs] H (fun r _ => r = .b true) := by
  refine AC.code weftlaw03_CrcOpens.at weftlaw03_CrcOpens.ok ?_
  simp only [weftlaw03_CrcOpens]
  refine AX.seq (AX.reg ?_)
  simp [weftlaw03_CrcOpens.r0]
  refine AX.seq (AX.seq (AX.reg ?_))
  simp [weftlaw03_CrcOpens.r1]
  refine AX.pcond rfl (fun hlt => AX.seq (AX.reg ?_)) (fun hge => AX.skip ?_)
  · simp [weftlaw03_CrcOpens.r2]
    refine AX.ret ?_
    simp
  · simp at hge
    simp
    refine AX.seq (AX.reg ?_)
    simp [weftlaw03_CrcOpens.r3]
    refine AC.fix (crc_Open_ok _ (by omega) H) ?_
    simp
    refine AX.seq (AX.reg ?_)
    simp [weftlaw03_CrcOpens.r4]
    refine AC.fix (ref_Open_ok _ (by omega) H) ?_
    simp
    refine AX.seq (AX.reg ?_)
    simp [weftlaw03_CrcOpens.r5]
    refine AX.ret ?_
    simp

end Go.Proofs.Ytihipphpfbnknaa
