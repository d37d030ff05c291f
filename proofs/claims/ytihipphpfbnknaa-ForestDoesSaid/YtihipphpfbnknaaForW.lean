/- The walks of the forest package and of its reference. -/
import Derived.Test.YtihipphpfbnknaaCode6
import Derived.Test.YtihipphpfbnknaaForMath
import Derived.Test.YtihipphpfbnknaaAm20
namespace Go.Proofs.Ytihipphpfbnknaa
open Am C
set_option linter.unusedSimpArgs false
set_option linter.unusedVariables false

/-- A forest stands in the heap. -/
structure FH (H : Hp) (f u r n : Nat) (up ring : List Nat) (parts : Nat) : Prop where
  gf : H.get f = some (.cells [.sl (some (u, 0, n)) n 1, .sl (some (r, 0, n)) n 1, .i .i64 parts] 3)
  gu : H.get u = some (.cells (nc up) n)
  gr : H.get r = some (.cells (nc ring) n)
  fu : f ≠ u
  fr : f ≠ r
  ur : u ≠ r
  n5 : n ≤ 100000
  pn : parts ≤ n

def member (rep : List Nat) (k : Int) : Bool := decide (0 ≤ k ∧ k < rep.length)
def findV (rep : List Nat) (k : Int) : Int := if 0 ≤ k ∧ k < rep.length then (gt rep k.toNat : Int) else -1

theorem member_ok {H : Hp} {f u r n : Nat} {up ring : List Nat} {parts : Nat} (h : FH H f u r n up ring parts) (k : Int) :
    AC Try.prog n_forest_Forest_member [.p (some (f, 0, 3)), .i .i64 k] H (fun v H' => v = .b (decide (0 ≤ k ∧ k < n)) ∧ H' = H) := by
  refine AC.code forest_Forest_member.at forest_Forest_member.ok ?_
  simp only [forest_Forest_member]
  refine AX.seq (AX.reg ?_)
  simp [forest_Forest_member.r0]
  refine AX.seq (AX.reg ?_)
  by_cases hk : 0 ≤ k
  · simp [forest_Forest_member.r1, hk, h.gf]
    refine AX.ret ?_
    simp
  · simp [forest_Forest_member.r1, hk]
    refine AX.ret ?_
    simp [hk]
theorem member_nil (H : Hp) (k : Int) : AC Try.prog n_forest_Forest_member [.p none, .i .i64 k] H (fun v H' => v = .b false ∧ H' = H) := by
  refine AC.code forest_Forest_member.at forest_Forest_member.ok ?_
  simp only [forest_Forest_member]
  refine AX.seq (AX.reg ?_)
  simp [forest_Forest_member.r0]
  refine AX.seq (AX.reg ?_)
  simp [forest_Forest_member.r1]
  refine AX.ret ?_
  simp

def upF (n : Nat) (up : List Nat) (k : Int) : List Nat := if 0 ≤ k ∧ k < n then (halve n up k.toNat).1 else up
def FindInv (n : Nat) (up ring rep : List Nat) (H : Hp) (f u i0 : Nat) (m : Nat) (F : Fr) (H' : Hp) : Prop :=
  ∃ (up' : List Nat) (i : Nat), FInv n up' ring rep ∧ i < n ∧ i ≤ m ∧ halve m up' i = halve n up i0 ∧ gt rep i = gt rep i0 ∧ H' = H.upd u (.cells (nc up') n) ∧ F = [(0, .p (some (f, 0, 3))), (1, .i .i64 i)]

theorem Find_ok {H : Hp} {f u r n : Nat} {up ring rep : List Nat} {parts : Nat} (h : FH H f u r n up ring parts) (I : FInv n up ring rep) (k : Int) :
    AC Try.prog n_forest_Forest_Find [.p (some (f, 0, 3)), .i .i64 k] H (fun v H' => v = .i .i64 (findV rep k) ∧ H' = H.upd u (.cells (nc (upF n up k)) n)) := by
  refine AC.code forest_Forest_Find.at forest_Forest_Find.ok ?_
  simp only [forest_Forest_Find]
  refine AX.seq (AX.reg ?_)
  simp [forest_Forest_Find.r0]
  refine AX.seq (AX.seq (AX.reg ?_))
  simp [forest_Forest_Find.r1]
  refine AC.fix (member_ok h k) ?_
  simp
  by_cases hk : 0 ≤ k ∧ k < n
  case neg =>
    refine AX.pcond rfl (fun _ => AX.seq (AX.reg ?_)) (fun hb => by simp at hb; omega)
    simp [forest_Forest_Find.r2]
    refine AX.ret ?_
    simp [findV, upF, hk, I.lp, Hp.upd_self h.gu]
  refine AX.pcond rfl (fun hb => by simp at hb; omega) (fun _ => AX.skip ?_)
  simp
  obtain ⟨i0, rfl⟩ : ∃ i0 : Nat, k = i0 := ⟨k.toNat, by omega⟩
  have hi0 : i0 < n := by omega
  refine AX.seq (AX.pblock (AX.loop (FindInv n up ring rep H f u i0) n ⟨_, _, .refl _ _, up, i0, I, hi0, by omega, rfl, rfl, (Hp.upd_self h.gu).symm, rfl⟩ ?_))
  rintro m F H' ⟨up', i, I', hi, him, hh, hrep, rfl, rfl⟩
  have hlu : up'.length = n := I'.lu
  have hil : i < up'.length := by omega
  have hui := I'.up_le i hi
  have q1 := nc_take hil
  have q2 := nc_take (l := up') (i := gt up' i) (by omega)
  rw [show up'.getD i 0 = gt up' i from rfl] at q1
  rw [show up'.getD (gt up' i) 0 = gt up' (gt up' i) from rfl] at q2
  have q3 : (gt up' i : Int) < n := by omega
  have q4 : (i : Int) < n := by omega
  simp only [forest_Forest_Find.l0]
  refine AX.seq (AX.seq (AX.reg ?_))
  simp [forest_Forest_Find.r3, h.gf, h.fu, q1, q4, hi, hlu, Nat.add_one_le_iff]
  refine AX.pcond rfl (fun hb => AX.skip ?_) (fun hb => AX.exit ?_)
  case refine_2 =>
    simp at hb
    simp
    refine AX.seq (AX.reg ?_)
    simp [forest_Forest_Find.r6]
    refine AX.ret ?_
    have e1 : halve m up' i = (up', i) := by
      cases m with
      | zero => rfl
      | succ m => unfold halve; rw [if_pos hb]
    have e2 : (halve n up i0).1 = up' := by rw [← hh, e1]
    have e3 := I'.up_fix i hi hb
    simp [findV, upF, hi0, I.lp, e2, ← hrep, e3]
  simp at hb
  obtain ⟨I2, hlt, hr2⟩ := I'.halve1 hi hb
  obtain ⟨m', rfl⟩ : ∃ m', m = m' + 1 := ⟨m - 1, by omega⟩
  simp
  refine AX.pblock (AX.seq (AX.drw ?_))
  have q6 : gt up' i < n := by omega
  simp [forest_Forest_Find.r4, h.gf, h.fu, q1, q2, q3, q4, q6, hi, hlu, Nat.add_one_le_iff, nc_set]
  refine AX.reg ?_
  have q7 := nc_take (l := up'.set i (gt up' (gt up' i))) (i := i) (by simp; omega)
  rw [show (up'.set i (gt up' (gt up' i))).getD i 0 = gt (up'.set i (gt up' (gt up' i))) i from rfl, gt_set _ _ _ _ hil, if_pos rfl] at q7
  simp [forest_Forest_Find.r5, h.gf, h.fu, q7, q4, hi, Nat.add_one_le_iff]
  refine ⟨m', by omega, _, _, .refl _ _, up'.set i (gt up' (gt up' i)), gt up' (gt up' i), I2, by omega, by omega, ?_, by rw [hr2, hrep], by simp [hlu], rfl⟩
  rw [← hh, halve, if_neg hb]
end Go.Proofs.Ytihipphpfbnknaa
