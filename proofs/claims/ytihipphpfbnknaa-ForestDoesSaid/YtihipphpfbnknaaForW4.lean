/- The walks of the forest package and of its reference, more. -/
import Derived.Test.YtihipphpfbnknaaForW3
namespace Go.Proofs.Ytihipphpfbnknaa
open Am C
set_option linter.unusedSimpArgs false
set_option linter.unusedVariables false

/-- A slice of numbers that a value holds. -/
def SlH (H : Hp) (v : V) (l : List Nat) : Prop := ∃ a s, v = .sl a l.length s ∧ (l ≠ [] → ∃ id m, a = some (id, 0, l.length) ∧ s = 1 ∧ H.get id = some (.cells (nc l) m) ∧ m ≤ l.length)

def SameInv (H : Hp) (va vb : V) (l : List Nat) (m : Nat) (F : Fr) (H' : Hp) : Prop := ∃ i : Nat, i ≤ l.length ∧ m = l.length - i ∧ H' = H ∧ F = [(0, va), (1, vb), (5, .i .i64 i)]
theorem SameInts_ok {H : Hp} {va vb : V} {l : List Nat} (ha : SlH H va l) (hb : SlH H vb l) (h5 : l.length ≤ 100000) :
    AC Try.prog n_weftref06_SameInts [va, vb] H (fun v H' => v = .b true ∧ H' = H) := by
  refine AC.code weftref06_SameInts.at weftref06_SameInts.ok ?_
  obtain ⟨a, sa, rfl, pa⟩ := ha
  obtain ⟨b, sb, rfl, pb⟩ := hb
  simp only [weftref06_SameInts]
  refine AX.seq (AX.reg ?_)
  simp [weftref06_SameInts.r0]
  refine AX.seq (AX.seq (AX.reg ?_))
  simp [weftref06_SameInts.r1]
  refine AX.pcond rfl (fun hb => by simp at hb) (fun _ => AX.skip ?_)
  simp
  refine AX.seq (AX.seq (AX.reg ?_))
  simp [weftref06_SameInts.r3]
  refine AX.pblock (AX.loop (SameInv H (.sl a l.length sa) (.sl b l.length sb) l) l.length ⟨_, _, .refl _ _, 0, by omega, by omega, rfl, rfl⟩ ?_)
  rintro m F H' ⟨i, hi, rfl, rfl, rfl⟩
  simp only [weftref06_SameInts.l0]
  refine AX.seq (AX.seq (AX.reg ?_))
  by_cases hlt : i < l.length
  case neg =>
    simp [weftref06_SameInts.r4, hlt]
    refine AX.pcond rfl (fun hb => by simp at hb) (fun _ => AX.exit ?_)
    simp
    refine AX.seq (AX.reg ?_)
    simp [weftref06_SameInts.r8]
    refine AX.ret ?_
    simp
  simp [weftref06_SameInts.r4, hlt]
  refine AX.pcond rfl (fun _ => AX.skip ?_) (fun hb => by simp at hb)
  have hne : l ≠ [] := by intro e; subst e; simp at hlt
  obtain ⟨ia, ma, rfl, rfl, ga, la⟩ := pa hne
  obtain ⟨ib, mb, rfl, rfl, gb, lb⟩ := pb hne
  have q1 := nc_take (l := l) (i := i) hlt
  simp
  refine AX.seq (AX.pblock (AX.seq (AX.drw ?_)))
  simp [weftref06_SameInts.r5, hlt, ga, gb, la, lb, q1, Nat.add_one_le_iff]
  refine AX.pcond rfl (fun hb => by simp at hb) (fun _ => AX.skip ?_)
  simp
  refine AX.reg ?_
  simp [weftref06_SameInts.r7, i64_succ (show i ≤ 9223372036854775000 by omega)]
  exact ⟨l.length - (i + 1), by omega, _, _, .refl _ _, i + 1, by omega, rfl, rfl, by simp⟩

/-! ### members -/
def memb (rep : List Nat) (x : Int) (i : Nat) : List Nat := (List.range i).filter fun j => decide ((gt rep j : Int) = x)
theorem memb_succ (rep : List Nat) (x : Int) (i : Nat) : memb rep x (i + 1) = if (gt rep i : Int) = x then memb rep x i ++ [i] else memb rep x i := by
  unfold memb
  rw [List.range_succ, List.filter_append]
  by_cases h : (gt rep i : Int) = x <;> simp [h]
theorem memb_le (rep : List Nat) (x : Int) (i : Nat) : (memb rep x i).length ≤ i := by
  unfold memb
  exact Nat.le_trans (List.length_filter_le _ _) (by simp)
/-- A list that grows behind nothing. -/
def accV (H : Hp) (l : List Nat) : V := if l = [] then .sl none 0 0 else .sl (some (H.next, 0, l.length)) l.length 1
def accH (H : Hp) (l : List Nat) : Hp := if l = [] then H else H.add (.cells (nc l) 1)
theorem acc_app (H : Hp) (l : List Nat) (i : Nat) (hl : l.length ≤ 100000) : sAppend (accH H l) 1 8 (accV H l) (.fs [[.i .i64 (i : Int)]]) = some (accV H (l ++ [i]), accH H (l ++ [i])) := by
  have e : ((l.length : Int) + 1).toNat = l.length + 1 := by omega
  cases l with
  | nil => simp [sAppend, accH, accV, slCells, roomB, nc]
  | cons a l =>
    have h1 : (a :: l).length + 1 ≤ 100001 := by omega
    have h2 : ((a :: l).length + 1) * 8 ≤ 140737488355328 := by omega
    have e1 : accH H (a :: l) = H.add (.cells (nc (a :: l)) 1) := by simp [accH]
    have e2 : accV H (a :: l) = .sl (some (H.next, 0, (a :: l).length)) (a :: l).length 1 := by simp [accV]
    have e3 : accH H (a :: l ++ [i]) = H.add (.cells (nc (a :: l ++ [i])) 1) := by simp [accH]
    have e4 : accV H (a :: l ++ [i]) = .sl (some (H.next, 0, (a :: l).length + 1)) ((a :: l).length + 1) 1 := by simp [accV]
    rw [e1, e2, e3, e4]
    have e5 : ∀ b, (H.add b).get H.next = some b := fun b => by simp
    generalize a :: l = k at *
    simp [sAppend, slCells, e5, roomB, h2, isCell, upd_add, nc_append]
theorem acc_sl (H : Hp) (l : List Nat) : SlH (accH H l) (accV H l) l := by
  unfold accH accV
  by_cases h : l = []
  · subst h; exact ⟨none, 0, rfl, fun h => absurd rfl h⟩
  · rw [if_neg h, if_neg h]
    refine ⟨_, _, rfl, fun _ => ⟨H.next, 1, rfl, rfl, by simp, ?_⟩⟩
    cases l with
    | nil => exact absurd rfl h
    | cons => simp
theorem accH_get {H : Hp} {l : List Nat} {id : Nat} {b : Blk} (hl : id < H.next) (h : H.get id = some b) : (accH H l).get id = some b := by
  unfold accH; split
  · exact h
  · simp [show id ≠ H.next by omega, h]

def RMemInv (H : Hp) (id n : Nat) (rep : List Nat) (k : Int) (m : Nat) (F : Fr) (H' : Hp) : Prop :=
  ∃ (i : Nat), i ≤ n ∧ m = n - i ∧ H' = accH H (memb rep (findV rep k) i) ∧ F = [(0, .sl (some (id, 0, n)) n 1), (1, .i .i64 k), (5, accV H (memb rep (findV rep k) i)), (6, .i .i64 i)]
theorem rMembers_ok {H : Hp} {id n : Nat} {rep : List Nat} (hlt : id < H.next) (hg : H.get id = some (.cells (nc rep) n)) (hn : rep.length = n) (h5 : n ≤ 100000) (k : Int) :
    AC Try.prog n_weftref06_Forest_Members [.sl (some (id, 0, n)) n 1, .i .i64 k] H (fun v H' => v = accV H (memb rep (findV rep k) n) ∧ H' = accH H (memb rep (findV rep k) n)) := by
  refine AC.code weftref06_Forest_Members.at weftref06_Forest_Members.ok ?_
  simp only [weftref06_Forest_Members]
  refine AX.seq (AX.reg ?_)
  simp [weftref06_Forest_Members.r0]
  refine AX.seq (AX.reg ?_)
  simp [weftref06_Forest_Members.r1]
  refine AX.seq (AX.seq (AX.reg ?_))
  simp [weftref06_Forest_Members.r2]
  refine AX.pblock (AX.loop (RMemInv H id n rep k) n ⟨_, _, .refl _ _, 0, by omega, by omega, rfl, rfl⟩ ?_)
  rintro m F H' ⟨i, hi, rfl, rfl, rfl⟩
  simp only [weftref06_Forest_Members.l0]
  refine AX.seq (AX.seq (AX.reg ?_))
  simp [weftref06_Forest_Members.r3]
  refine AX.pcond rfl (fun hb => AX.skip ?_) (fun hb => AX.exit ?_)
  case refine_2 =>
    simp at hb
    have : i = n := by omega
    subst this
    simp
    refine AX.seq (AX.reg ?_)
    simp [weftref06_Forest_Members.r7]
    refine AX.ret ?_
    simp
  simp at hb
  have q1 := nc_take (l := rep) (i := i) (by omega)
  rw [show rep.getD i 0 = gt rep i from rfl] at q1
  have hs := memb_succ rep (findV rep k) i
  have hle := memb_le rep (findV rep k) i
  generalize hcur : memb rep (findV rep k) i = cur at *
  have hgc : (accH H cur).get id = some (.cells (nc rep) n) := accH_get hlt hg
  simp
  refine AX.seq (AX.pblock (AX.seq (AX.drw ?_)))
  simp [weftref06_Forest_Members.r4, hgc, hb, q1, Nat.add_one_le_iff]
  refine callD_rd _ (rFind_ok hgc hn k) ?_
  simp
  refine AX.pcond rfl (fun hc => AX.reg ?_) (fun hc => AX.skip ?_)
  · simp at hc
    rw [if_pos hc] at hs
    simp [weftref06_Forest_Members.r5, repl, -sAppend, acc_app H cur i (by omega)]
    refine AX.reg ?_
    simp [weftref06_Forest_Members.r6, i64_succ (show i ≤ 9223372036854775000 by omega)]
    exact ⟨n - (i + 1), by omega, _, _, .refl _ _, i + 1, by omega, rfl, by rw [hs], by simp [hs]⟩
  · simp at hc
    rw [if_neg hc] at hs
    simp
    refine AX.reg ?_
    simp [weftref06_Forest_Members.r6, i64_succ (show i ≤ 9223372036854775000 by omega)]
    exact ⟨n - (i + 1), by omega, _, _, .refl _ _, i + 1, by omega, rfl, by rw [hs], by simp [hs]⟩
end Go.Proofs.Ytihipphpfbnknaa
