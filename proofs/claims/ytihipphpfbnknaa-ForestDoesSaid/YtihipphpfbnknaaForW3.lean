/- The walks of the forest package and of its reference, more. -/
import Derived.Test.YtihipphpfbnknaaForW2
namespace Go.Proofs.Ytihipphpfbnknaa
open Am C
set_option linter.unusedSimpArgs false
set_option linter.unusedVariables false

theorem upd_add (H : Hp) (a b : Blk) : (H.add a).upd H.next b = H.add b := by
  simp [Hp.upd, Hp.add]
  funext k
  split <;> rfl

def cntTo (rep : List Nat) (i : Nat) : Nat := ((List.range i).filter fun j => gt rep j == j).length
theorem cntTo_succ (rep : List Nat) (i : Nat) : cntTo rep (i + 1) = if gt rep i = i then cntTo rep i + 1 else cntTo rep i := by
  unfold cntTo
  rw [List.range_succ, List.filter_append]
  by_cases h : gt rep i = i <;> simp [h]
theorem cntTo_le (rep : List Nat) (i : Nat) : cntTo rep i ≤ i := by
  unfold cntTo
  exact Nat.le_trans (List.length_filter_le _ _) (by simp)
def RPartsInv (H : Hp) (id n : Nat) (rep : List Nat) (m : Nat) (F : Fr) (H' : Hp) : Prop :=
  ∃ (i : Nat), i ≤ n ∧ m = n - i ∧ H' = H ∧ F = [(0, .sl (some (id, 0, n)) n 1), (3, .i .i64 (cntTo rep i : Nat)), (4, .i .i64 i)]
theorem rParts_ok {H : Hp} {id n : Nat} {rep : List Nat} (hg : H.get id = some (.cells (nc rep) n)) (hn : rep.length = n) (h5 : n ≤ 100000) :
    AC Try.prog n_weftref06_Forest_Parts [.sl (some (id, 0, n)) n 1] H (fun v H' => v = .i .i64 (cnt rep) ∧ H' = H) := by
  refine AC.code weftref06_Forest_Parts.at weftref06_Forest_Parts.ok ?_
  simp only [weftref06_Forest_Parts]
  refine AX.seq (AX.reg ?_)
  simp [weftref06_Forest_Parts.r0]
  refine AX.seq (AX.reg ?_)
  simp [weftref06_Forest_Parts.r1]
  refine AX.seq (AX.seq (AX.reg ?_))
  simp [weftref06_Forest_Parts.r2]
  refine AX.pblock (AX.loop (RPartsInv H id n rep) n ⟨_, _, .refl _ _, 0, by omega, by omega, rfl, rfl⟩ ?_)
  rintro m F H' ⟨i, hi, rfl, rfl, rfl⟩
  simp only [weftref06_Forest_Parts.l0]
  refine AX.seq (AX.seq (AX.reg ?_))
  simp [weftref06_Forest_Parts.r3]
  refine AX.pcond rfl (fun hb => AX.skip ?_) (fun hb => AX.exit ?_)
  case refine_2 =>
    simp at hb
    have : i = n := by omega
    subst this
    simp
    refine AX.seq (AX.reg ?_)
    simp [weftref06_Forest_Parts.r7]
    refine AX.ret ?_
    simp [cnt, cntTo, hn]
  simp at hb
  have q1 := nc_take (l := rep) (i := i) (by omega)
  rw [show rep.getD i 0 = gt rep i from rfl] at q1
  have hc := cntTo_le rep i
  have hs := cntTo_succ rep i
  simp
  refine AX.seq (AX.pblock (AX.seq (AX.reg ?_)))
  simp [weftref06_Forest_Parts.r4, hg, hb, q1, Nat.add_one_le_iff]
  refine AX.pcond rfl (fun hc => AX.reg ?_) (fun hc => AX.skip ?_)
  · simp at hc
    rw [if_pos hc] at hs
    simp [weftref06_Forest_Parts.r5, i64_succ (show cntTo rep i ≤ 9223372036854775000 by omega)]
    refine AX.reg ?_
    simp [weftref06_Forest_Parts.r6, i64_succ (show i ≤ 9223372036854775000 by omega)]
    exact ⟨n - (i + 1), by omega, _, _, .refl _ _, i + 1, by omega, rfl, rfl, by simp [hs]⟩
  · simp at hc
    rw [if_neg hc] at hs
    simp
    refine AX.reg ?_
    simp [weftref06_Forest_Parts.r6, i64_succ (show i ≤ 9223372036854775000 by omega)]
    exact ⟨n - (i + 1), by omega, _, _, .refl _ _, i + 1, by omega, rfl, rfl, by simp [hs]⟩

theorem findV_in {rep : List Nat} {k : Int} (h : ¬ findV rep k < 0) : 0 ≤ k ∧ k < rep.length ∧ findV rep k = (gt rep k.toNat : Nat) := by
  unfold findV at h ⊢
  split
  · rename_i h'; exact ⟨h'.1, h'.2, rfl⟩
  · rename_i h'; rw [if_neg h'] at h; omega

/-- What joining answers, and comes to. -/
def joins (rep : List Nat) (a b : Int) : Bool := decide (¬ (findV rep a < 0 ∨ findV rep b < 0 ∨ findV rep a = findV rep b))
def joinV (rep : List Nat) (a b : Int) : List Nat := if joins rep a b then joinR (findV rep a).toNat (findV rep b).toNat rep else rep

def RJoinInv (H : Hp) (id n : Nat) (rep : List Nat) (x y : Nat) (m : Nat) (F : Fr) (H' : Hp) : Prop :=
  ∃ (i : Nat), i ≤ n ∧ m = n - i ∧ H' = H.upd id (.cells (nc ((joinR x y rep).take i ++ rep.drop i)) n) ∧ F = [(0, .sl (some (id, 0, n)) n 1), (7, .i .i64 x), (8, .i .i64 y), (9, .i .i64 i)]
theorem joinR_length (x y : Nat) (rep : List Nat) : (joinR x y rep).length = rep.length := by simp [joinR]
theorem take_drop_gt (a b : List Nat) (i : Nat) (h : a.length = b.length) (hi : i < b.length) : gt (a.take i ++ b.drop i) i = gt b i := by
  unfold gt
  rw [List.getD_eq_getElem?_getD, List.getD_eq_getElem?_getD, List.getElem?_append_right (by simp; omega)]
  simp [show min i a.length = i by omega]
theorem take_drop_set (a b : List Nat) (i : Nat) (h : a.length = b.length) (hi : i < b.length) : (a.take i ++ b.drop i).set i (gt a i) = a.take (i + 1) ++ b.drop (i + 1) := by
  rw [List.set_append_right _ _ (by simp; omega)]
  have e : i - (a.take i).length = 0 := by simp; omega
  have e2 : gt a i = a[i]'(by omega) := by simp [gt, List.getD_eq_getElem?_getD, List.getElem?_eq_getElem (show i < a.length by omega)]
  rw [e, List.drop_eq_getElem_cons hi, List.set_cons_zero, List.take_succ_eq_append_getElem (by omega), List.append_assoc, List.singleton_append, e2]
theorem take_drop_same (a b : List Nat) (i : Nat) (h : a.length = b.length) (hi : i < b.length) (e : gt a i = gt b i) : a.take i ++ b.drop i = a.take (i + 1) ++ b.drop (i + 1) := by
  rw [← take_drop_set a b i h hi, e]
  have : gt b i = gt (a.take i ++ b.drop i) i := (take_drop_gt a b i h hi).symm
  rw [this]
  apply List.ext_getElem?
  intro j
  rw [List.getElem?_set]
  split
  · rename_i hj
    subst hj
    have hl : i < (a.take i ++ b.drop i).length := by simp; omega
    rw [if_pos hl]
    exact (gt_get hl)
  · rfl

theorem rJoin_ok {H : Hp} {id n : Nat} {rep : List Nat} (hg : H.get id = some (.cells (nc rep) n)) (hn : rep.length = n) (h5 : n ≤ 100000) (a b : Int) :
    AC Try.prog n_weftref06_Forest_Join [.sl (some (id, 0, n)) n 1, .i .i64 a, .i .i64 b] H (fun v H' => v = .b (joins rep a b) ∧ H' = H.upd id (.cells (nc (joinV rep a b)) n)) := by
  refine AC.code weftref06_Forest_Join.at weftref06_Forest_Join.ok ?_
  simp only [weftref06_Forest_Join]
  refine AX.seq (AX.reg ?_)
  simp [weftref06_Forest_Join.r0]
  refine AX.seq (AX.reg ?_)
  simp [weftref06_Forest_Join.r1]
  refine AC.fix (rFind_ok hg hn a) ?_
  simp
  refine AC.fix (rFind_ok hg hn b) ?_
  simp
  by_cases hj : findV rep a < 0 ∨ findV rep b < 0 ∨ findV rep a = findV rep b
  · have hj1 : joins rep a b = false := by simp [joins, hj]
    have key : AX Try.prog 53 (.post [0, 7, 8, 26] (.region weftref06_Forest_Join.r2)) (Post.then (fun F H' => F = [(0, .sl (some (id, 0, n)) n 1), (7, .i .i64 (findV rep a)), (8, .i .i64 (findV rep b)), (26, .b true)] ∧ H' = H) (fun _ _ _ => False)) [(0, .sl (some (id, 0, n)) n 1), (7, .i .i64 (findV rep a)), (8, .i .i64 (findV rep b))] H := by
      refine AX.reg ?_
      by_cases h1 : findV rep a < 0
      · simp [weftref06_Forest_Join.r2, h1]
      · by_cases h2 : findV rep b < 0
        · simp [weftref06_Forest_Join.r2, h1, h2]
        · have h3 : findV rep a = findV rep b := by omega
          simp [weftref06_Forest_Join.r2, h1, h2, h3]
    refine AX.seq (AX.seq (key.mono ?_))
    rintro x F H' hx
    cases x <;> simp [Post.then] at hx ⊢
    obtain ⟨rfl, rfl⟩ := hx
    refine AX.pcond rfl (fun _ => AX.seq (AX.reg ?_)) (fun hb => by simp at hb)
    simp [weftref06_Forest_Join.r3]
    refine AX.ret ?_
    simp [hj1, joinV, Hp.upd_self hg]
  have hj1 : joins rep a b = true := by simp [joins, hj]
  have h1 : ¬ findV rep a < 0 := by omega
  have h2 : ¬ findV rep b < 0 := by omega
  have h3 : ¬ findV rep a = findV rep b := by omega
  refine AX.seq (AX.seq (AX.reg ?_))
  simp [weftref06_Forest_Join.r2, h1, h2, h3]
  refine AX.pcond rfl (fun hb => by simp [h3] at hb) (fun _ => AX.skip ?_)
  simp
  obtain ⟨x, hx⟩ : ∃ x : Nat, findV rep a = x := ⟨(findV rep a).toNat, by omega⟩
  obtain ⟨y, hy⟩ : ∃ y : Nat, findV rep b = y := ⟨(findV rep b).toNat, by omega⟩
  rw [hx, hy]
  have hjv : joinV rep a b = joinR x y rep := by simp [joinV, hj1, hx, hy]
  rw [hjv]
  refine AX.seq (AX.seq (AX.reg ?_))
  simp [weftref06_Forest_Join.r4]
  refine AX.pblock (AX.loop (RJoinInv H id n rep x y) n ⟨_, _, .refl _ _, 0, by omega, by omega, by simp [Hp.upd_self hg], rfl⟩ ?_)
  rintro m F H' ⟨i, hi, rfl, rfl, rfl⟩
  have hjl := joinR_length x y rep
  simp only [weftref06_Forest_Join.l0]
  refine AX.seq (AX.seq (AX.reg ?_))
  simp [weftref06_Forest_Join.r5]
  refine AX.pcond rfl (fun hb => AX.skip ?_) (fun hb => AX.exit ?_)
  case refine_2 =>
    simp at hb
    have : i = n := by omega
    subst this
    simp
    refine AX.seq (AX.reg ?_)
    simp [weftref06_Forest_Join.r9]
    refine AX.ret ?_
    rw [List.take_of_length_le (by omega), List.drop_of_length_le (by omega)]
    simp [hj1]
  simp at hb
  simp
  have hin : i < rep.length := by omega
  have hcl : ((joinR x y rep).take i ++ rep.drop i).length = n := by simp [hjl]; omega
  have hgt := take_drop_gt (joinR x y rep) rep i hjl hin
  have hset := take_drop_set (joinR x y rep) rep i hjl hin
  have hsame := take_drop_same (joinR x y rep) rep i hjl hin
  have hgj := gt_joinR (x := x) (y := y) hin
  generalize hc : (joinR x y rep).take i ++ rep.drop i = cur at *
  have q1 := nc_take (l := cur) (i := i) (by omega)
  rw [show cur.getD i 0 = gt rep i from hgt] at q1
  have fin : ∀ nxt, nxt = (joinR x y rep).take (i + 1) ++ rep.drop (i + 1) → AX Try.prog 53 (.post [0, 7, 8, 9] (.region weftref06_Forest_Join.r8)) (fun x' F' H' => x' = .normal ∧ F' = [(0, .sl (some (id, 0, n)) n 1), (7, .i .i64 x), (8, .i .i64 y), (9, .i .i64 (i + 1 : Nat))] ∧ H' = H.upd id (.cells (nc nxt) n))
      [(0, .sl (some (id, 0, n)) n 1), (7, .i .i64 x), (8, .i .i64 y), (9, .i .i64 i)] (H.upd id (.cells (nc nxt) n)) := fun nxt hnx => by
    refine AX.reg ?_
    simp [weftref06_Forest_Join.r8, i64_succ (show i ≤ 9223372036854775000 by omega)]
  obtain ⟨w, hw⟩ : ∃ w : Nat, w = min x y := ⟨_, rfl⟩
  have hw' : min (x : Int) (y : Int) = (w : Int) := by omega
  rw [← hw] at hgj
  refine AX.seq (AX.pblock (AX.seq (AX.reg ?_)))
  by_cases hcx : gt rep i = x ∨ gt rep i = y
  · rw [if_pos hcx] at hgj
    have q2 : (cur.set i w) = (joinR x y rep).take (i + 1) ++ rep.drop (i + 1) := by rw [← hset, hgj]
    by_cases hx1 : gt rep i = x
    · simp [weftref06_Forest_Join.r6, hb, hcl, q1, hx1, Nat.add_one_le_iff]
      refine AX.pcond rfl (fun _ => AX.reg ?_) (fun hb => by simp at hb)
      simp [weftref06_Forest_Join.r7, hb, hcl, hw', Nat.add_one_le_iff, nc_set]
      refine (fin _ q2).mono ?_
      rintro _ _ _ ⟨rfl, rfl, rfl⟩
      exact ⟨n - (i + 1), by omega, _, _, .refl _ _, i + 1, by omega, rfl, by rw [q2], rfl⟩
    · have hy1 : gt rep i = y := by omega
      have hyx : ¬ y = x := by omega
      simp [weftref06_Forest_Join.r6, hb, hcl, q1, hy1, hyx, Nat.add_one_le_iff]
      refine AX.pcond rfl (fun _ => AX.reg ?_) (fun hb => by simp at hb)
      simp [weftref06_Forest_Join.r7, hb, hcl, hw', Nat.add_one_le_iff, nc_set]
      refine (fin _ q2).mono ?_
      rintro _ _ _ ⟨rfl, rfl, rfl⟩
      exact ⟨n - (i + 1), by omega, _, _, .refl _ _, i + 1, by omega, rfl, by rw [q2], rfl⟩
  · rw [if_neg hcx] at hgj
    have hx1 : ¬ gt rep i = x := by omega
    have hy1 : ¬ gt rep i = y := by omega
    simp [weftref06_Forest_Join.r6, hb, hcl, q1, hx1, hy1, Nat.add_one_le_iff]
    refine AX.pcond rfl (fun hb => by simp [hy1] at hb) (fun _ => AX.skip ?_)
    simp
    refine (fin _ (hsame hgj)).mono ?_
    rintro _ _ _ ⟨rfl, rfl, rfl⟩
    exact ⟨n - (i + 1), by omega, _, _, .refl _ _, i + 1, by omega, rfl, by rw [hsame hgj], rfl⟩
end Go.Proofs.Ytihipphpfbnknaa
