/- The walks of the forest package and of its reference, more. -/
import Derived.Test.YtihipphpfbnknaaForW
namespace Go.Proofs.Ytihipphpfbnknaa
open Am C
set_option linter.unusedSimpArgs false
set_option linter.unusedVariables false

theorem i64_succ {i : Nat} (h : i ≤ 9223372036854775000) : IntKind.i64.wrap ((i : Int) + 1) = ((i + 1 : Nat) : Int) := by rw [wrap_i64 (by omega) (by omega)]; omega

theorem Find_nil (H : Hp) (k : Int) : AC Try.prog n_forest_Forest_Find [.p none, .i .i64 k] H (fun v H' => v = .i .i64 (-1) ∧ H' = H) := by
  refine AC.code forest_Forest_Find.at forest_Forest_Find.ok ?_
  simp only [forest_Forest_Find]
  refine AX.seq (AX.reg ?_)
  simp [forest_Forest_Find.r0]
  refine AX.seq (AX.seq (AX.reg ?_))
  simp [forest_Forest_Find.r1]
  refine AC.fix (member_nil H k) ?_
  simp
  refine AX.pcond rfl (fun _ => AX.seq (AX.reg ?_)) (fun hb => by simp at hb)
  simp [forest_Forest_Find.r2]
  refine AX.ret ?_
  simp

theorem Parts_ok {H : Hp} {f u r n : Nat} {up ring : List Nat} {parts : Nat} (h : FH H f u r n up ring parts) :
    AC Try.prog n_forest_Forest_Parts [.p (some (f, 0, 3))] H (fun v H' => v = .i .i64 parts ∧ H' = H) := by
  refine AC.code forest_Forest_Parts.at forest_Forest_Parts.ok ?_
  simp only [forest_Forest_Parts]
  refine AX.seq (AX.reg ?_)
  simp [forest_Forest_Parts.r0]
  refine AX.seq (AX.seq (AX.reg ?_))
  simp [forest_Forest_Parts.r1]
  refine AX.pcond rfl (fun hb => by simp at hb) (fun _ => AX.skip ?_)
  simp
  refine AX.seq (AX.reg ?_)
  simp [forest_Forest_Parts.r3, h.gf]
  refine AX.ret ?_
  simp
theorem Parts_nil (H : Hp) : AC Try.prog n_forest_Forest_Parts [.p none] H (fun v H' => v = .i .i64 0 ∧ H' = H) := by
  refine AC.code forest_Forest_Parts.at forest_Forest_Parts.ok ?_
  simp only [forest_Forest_Parts]
  refine AX.seq (AX.reg ?_)
  simp [forest_Forest_Parts.r0]
  refine AX.seq (AX.seq (AX.reg ?_))
  simp [forest_Forest_Parts.r1]
  refine AX.pcond rfl (fun _ => AX.seq (AX.reg ?_)) (fun hb => by simp at hb)
  simp [forest_Forest_Parts.r2]
  refine AX.ret ?_
  simp

/-! ### the reference -/
theorem rFind_ok {H : Hp} {id n : Nat} {rep : List Nat} (hg : H.get id = some (.cells (nc rep) n)) (hn : rep.length = n) (k : Int) :
    AC Try.prog n_weftref06_Forest_Find [.sl (some (id, 0, n)) n 1, .i .i64 k] H (fun v H' => v = .i .i64 (findV rep k) ∧ H' = H) := by
  refine AC.code weftref06_Forest_Find.at weftref06_Forest_Find.ok ?_
  simp only [weftref06_Forest_Find]
  refine AX.seq (AX.reg ?_)
  simp [weftref06_Forest_Find.r0]
  refine AX.seq (AX.seq (AX.reg ?_))
  by_cases h0 : k < 0
  · simp [weftref06_Forest_Find.r1, h0]
    refine AX.pcond rfl (fun _ => AX.seq (AX.reg ?_)) (fun hb => by simp at hb)
    simp [weftref06_Forest_Find.r2]
    refine AX.ret ?_
    simp [findV, show ¬ 0 ≤ k by omega]
  obtain ⟨i, rfl⟩ : ∃ i : Nat, k = i := ⟨k.toNat, by omega⟩
  simp [weftref06_Forest_Find.r1]
  refine AX.pcond rfl (fun hb => AX.seq (AX.reg ?_)) (fun hb => AX.skip ?_)
  · simp at hb
    simp [weftref06_Forest_Find.r2]
    refine AX.ret ?_
    simp [findV, hn, show ¬ i < n by omega]
  simp at hb
  have q1 := nc_take (l := rep) (i := i) (by omega)
  rw [show rep.getD i 0 = gt rep i from rfl] at q1
  simp
  refine AX.seq (AX.reg ?_)
  simp [weftref06_Forest_Find.r3, hb, hg, hn, q1, Nat.add_one_le_iff]
  refine AX.ret ?_
  simp [findV, hn, hb]

def RNewInv (H : Hp) (n : Nat) (m : Nat) (F : Fr) (H' : Hp) : Prop :=
  ∃ (i : Nat) (l : List Nat), i ≤ n ∧ m = n - i ∧ l = (List.range i) ++ List.replicate (n - i) 0 ∧ H' = H.add (.cells (nc l) n) ∧ F = [(0, .i .i64 n), (3, .sl (some (H.next, 0, n)) n 1), (4, .i .i64 i)]
theorem range_rep_set (n i : Nat) (h : i < n) : (List.range i ++ List.replicate (n - i) 0).set i i = List.range (i + 1) ++ List.replicate (n - (i + 1)) 0 := by
  rw [List.set_append_right _ _ (by simp)]
  obtain ⟨k, hk⟩ : ∃ k, n - i = k + 1 := ⟨n - i - 1, by omega⟩
  rw [hk, List.replicate_succ, List.range_succ, show n - (i + 1) = k by omega]
  simp

def clampN (k : Int) : Nat := min (max k 0).toNat 100000
theorem rNew_ok (H : Hp) (k : Int) : AC Try.prog n_weftref06_New [.i .i64 k] H (fun v H' => v = .sl (some (H.next, 0, clampN k)) (clampN k) 1 ∧ H' = H.add (.cells (nc (List.range (clampN k))) (clampN k))) := by
  refine AC.code weftref06_New.at weftref06_New.ok ?_
  simp only [weftref06_New]
  refine AX.seq (AX.reg ?_)
  simp [weftref06_New.r0]
  refine AX.seq (AX.reg ?_)
  obtain ⟨n, hn⟩ : ∃ n, n = clampN k := ⟨_, rfl⟩
  have e1 : min (max k 0) 100000 = (n : Int) := by rw [hn]; unfold clampN; omega
  have h5 : n ≤ 100000 := by rw [hn]; unfold clampN; omega
  rw [← hn]
  simp [weftref06_New.r1, e1]
  refine AX.seq (AX.reg ?_)
  have e2 : (n : Int) * 8 ≤ 140737488355328 := by omega
  simp [weftref06_New.r2, roomB, e2, nc_repl]
  refine AX.seq (AX.seq (AX.reg ?_))
  simp [weftref06_New.r3]
  refine AX.pblock (AX.loop (RNewInv H n) n ⟨_, _, .refl _ _, 0, List.replicate n 0, by omega, by omega, by simp, rfl, rfl⟩ ?_)
  rintro m F H' ⟨i, l, hi, rfl, hl, rfl, rfl⟩
  have hll : l.length = n := by rw [hl]; simp; omega
  simp only [weftref06_New.l0]
  refine AX.seq (AX.seq (AX.reg ?_))
  simp [weftref06_New.r4]
  refine AX.pcond rfl (fun hb => AX.skip ?_) (fun hb => AX.exit ?_)
  case refine_2 =>
    simp at hb
    have : i = n := by omega
    subst this
    simp at hl
    subst hl
    simp
    refine AX.seq (AX.reg ?_)
    simp [weftref06_New.r7]
    refine AX.ret ?_
    simp
  simp at hb
  simp
  refine AX.seq (AX.pblock (AX.reg ?_))
  simp [weftref06_New.r5, hb, hll, Nat.add_one_le_iff, nc_set]
  refine AX.reg ?_
  simp [weftref06_New.r6, i64_succ (show i ≤ 9223372036854775000 by omega)]
  refine ⟨n - (i + 1), by omega, _, _, .refl _ _, i + 1, l.set i i, by omega, rfl, by rw [hl, range_rep_set n i hb], ?_, by simp⟩
  simp [Hp.upd, Hp.add]
  funext k
  split <;> rfl

end Go.Proofs.Ytihipphpfbnknaa
