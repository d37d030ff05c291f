/- The walk of CrcPieces. -/
import Derived.Test.YtihipphpfbnknaaCrcW2
namespace Go.Proofs.Ytihipphpfbnknaa
open Am C
set_option linter.unusedSimpArgs false

def upTo (l : List (List UInt8)) (i : Nat) : List UInt8 := (l.take i).flatten
@[simp] theorem upTo_zero (l : List (List UInt8)) : upTo l 0 = [] := rfl

/-- The law CrcPieces. -/
theorem CrcPieces_ok (l : List (List UInt8)) (hb : l.length ≤ 9223372036854775807) (H : Hp) : AC Try.prog n_weftlaw03_CrcPieces [.fs (l.map fun x => [.s x])] H (fun r _ => r = .b true) := by
  refine AC.codeL weftlaw03_CrcPieces.at weftlaw03_CrcPieces.ok fun hl => ?_
  simp only [weftlaw03_CrcPieces]
  refine AX.seq (AX.reg ?_)
  simp [weftlaw03_CrcPieces.r0]
  refine AX.seq (AX.seq (AX.reg ?_))
  simp [weftlaw03_CrcPieces.r1]
  refine AC.fix (crc_works_ok H) ?_
  simp
  refine AX.pcond rfl (fun h => by simp at h) (fun _ => AX.skip ?_)
  simp
  refine AX.seq (AX.reg ?_)
  simp [weftlaw03_CrcPieces.r3]
  refine AX.seq (AX.reg ?_)
  simp [weftlaw03_CrcPieces.r4]
  refine AX.seq (AX.seq (AX.reg ?_))
  simp [weftlaw03_CrcPieces.r5]
  refine AX.pblock (AX.loop (fun k F H' => ∃ i : Nat, i ≤ l.length ∧ k = l.length - i ∧ i ≤ 40 ∧ (upTo l i).length ≤ i * 300 ∧
    H'.get H.next = some (.cells [.i .u32 ((crcL 11994318 (upTo l i) ^^^ 11994318 : Nat) : Int)] 1) ∧
    F = [(0, .fs (l.map fun x => [.s x])), (3, .p (some (H.next, 0, 1))), (4, .s (upTo l i)), (5, .i .i64 i)]) l.length ⟨_, _, .refl _ _, 0, by omega, by omega, by omega, by simp, by simp [crcL], by simp⟩ ?_)
  rintro k F H' ⟨i, hi, rfl, h40, hfl, hg, rfl⟩
  simp only [weftlaw03_CrcPieces.l0]
  refine AX.seq (AX.seq (AX.reg ?_))
  have hcl : crcL 11994318 (upTo l i) < 16777216 := crcL_lt _ (by omega)
  by_cases hin : i < l.length ∧ i < 40
  case neg =>
    have e : (if i < l.length then V.b (decide (i < 40)) else V.b false) = V.b false := by
      split
      · simp; omega
      · rfl
    by_cases hin1 : i < l.length
    · simp [weftlaw03_CrcPieces.r6, hin1, show ¬ i < 40 by omega]
      refine AX.pcond rfl (fun h => by simp at h) (fun _ => AX.exit ?_)
      simp
      refine AX.seq (AX.reg ?_)
      simp [weftlaw03_CrcPieces.r14]
      refine AX.ret ?_
      simp
    · simp [weftlaw03_CrcPieces.r6, hin1]
      refine AX.pcond rfl (fun h => by simp at h) (fun _ => AX.exit ?_)
      simp
      refine AX.seq (AX.reg ?_)
      simp [weftlaw03_CrcPieces.r14]
      refine AX.ret ?_
      simp
  obtain ⟨hin1, hin2⟩ := hin
  have e40 : (i : Int) < 40 := by omega
  simp [weftlaw03_CrcPieces.r6, hin1, hin2]
  refine AX.pcond rfl (fun _ => AX.skip ?_) (fun h => by simp at h)
  simp
  refine AX.seq (AX.pblock (AX.seq (AX.seq (AX.reg ?_))))
  simp [weftlaw03_CrcPieces.r7, hin1]
  refine AX.pcond rfl (fun _ => AX.seq (AX.reg ?_)) (fun h => AX.skip ?_)
  · simp [weftlaw03_CrcPieces.r8]
    refine AX.ret ?_
    simp
  simp at h
  simp
  refine AX.seq (AX.reg ?_)
  simp [weftlaw03_CrcPieces.r9, hin1]
  refine AC.fix (crc_Write_ok H.next (crcL 11994318 (upTo l i)) 1 (by omega) _ hcl l[i] (by omega) hg) ?_
  simp
  refine AX.seq (AX.reg ?_)
  simp [weftlaw03_CrcPieces.r10, hin1]
  have hfl2 : upTo l (i + 1) = upTo l i ++ l[i] := by unfold upTo; rw [List.take_succ_eq_append_getElem hin1, List.flatten_append]; simp
  have hcl2 : crcL (crcL 11994318 (upTo l i)) l[i] = crcL 11994318 (upTo l (i + 1)) := by rw [hfl2]; simp [crcL]
  have hle : (upTo l (i + 1)).length ≤ (i + 1) * 300 := by rw [hfl2, List.length_append]; omega
  have hcl3 : crcL 11994318 (upTo l (i + 1)) < 16777216 := crcL_lt _ (by omega)
  rw [hcl2, ← hfl2]
  refine ⟨by omega, ?_⟩
  refine AX.seq (AX.reg ?_)
  simp [weftlaw03_CrcPieces.r11]
  refine AC.fix (crc_Value_ok H.next (crcL 11994318 (upTo l (i + 1))) 1 (by omega) _ hcl3 (by simp)) ?_
  simp
  refine AC.fix (ref_Of_ok _ (by omega) _) ?_
  simp
  refine AX.pcond rfl (fun h => by simp at h) (fun _ => AX.skip ?_)
  simp
  refine AX.reg ?_
  have e7 : IntKind.i64.wrap ((i : Int) + 1) = ((i + 1 : Nat) : Int) := by rw [wrap_i64 (by omega) (by omega)]; simp
  simp [weftlaw03_CrcPieces.r13, e7]
  exact ⟨l.length - (i + 1), by omega, _, _, .refl _ _, i + 1, by omega, rfl, by omega, by omega, by simp, by simp⟩

end Go.Proofs.Ytihipphpfbnknaa
