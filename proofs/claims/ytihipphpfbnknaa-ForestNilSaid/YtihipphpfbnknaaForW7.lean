/- The laws ForestNil and ForestDoes. -/
import Derived.Test.YtihipphpfbnknaaForW6
import Derived.Test.YtihipphpfbnknaaAm23
namespace Go.Proofs.Ytihipphpfbnknaa
open Am C
set_option linter.unusedSimpArgs false
set_option linter.unusedVariables false

theorem newH_lt (H : Hp) (hl : ∀ id blk, H.get id = some blk → id < H.next) (n : Nat) (l : List Nat) : ∀ id blk, (newH H n l).get id = some blk → id < (newH H n l).next := fun id blk h => by
  have e : (newH H n l).next = H.next + 3 := rfl
  by_cases h1 : id = H.next + 1 + 1
  · omega
  · by_cases h2 : id = H.next + 1
    · omega
    · by_cases h3 : id = H.next
      · omega
      · simp [newH, h1, h2, h3] at h
        have := hl id blk h; omega
theorem New_fs (H : Hp) (hl : ∀ id blk, H.get id = some blk → id < H.next) (k : Int) : ∃ H', AC Try.prog n_forest_New [.i .i64 k] H (fun v X => v = .p (some (H.next + 2, 0, 3)) ∧ X = H') ∧ FS H' (H.next + 2) H.next (H.next + 1) (clampN k) (List.range (clampN k)) ∧ H'.next = H.next + 3 ∧ (∀ id, id < H.next → H'.get id = H.get id) ∧ ∀ id blk, H'.get id = some blk → id < H'.next := by
  refine ⟨_, New_ok H k, newH_FS H k, by simp [newH], fun id hi => ?_, newH_lt H hl _ _⟩
  simp [newH, show id ≠ H.next + 1 + 1 by omega, show id ≠ H.next + 1 by omega, show id ≠ H.next by omega]

theorem works_ok (H : Hp) : AC Try.prog n_weftlaw06_works [] H (fun v H' => v = .b true ∧ H' = H) := by
  refine AC.codeC weftlaw06_works.at weftlaw06_works.ok (by simp) fun hl => ?_
  simp only [weftlaw06_works]
  refine AX.seq (AX.reg ?_)
  simp [weftlaw06_works.r0]
  refine AX.seq (AX.reg ?_)
  simp [weftlaw06_works.r1]
  obtain ⟨H1, c1, f1, n1, g1, hl1⟩ := New_fs H hl 4
  rw [show clampN 4 = 4 by decide] at f1
  refine AC.fix c1 ?_
  simp
  refine AX.seq (AX.reg ?_)
  simp [weftlaw06_works.r2]
  obtain ⟨H2, c2, L2⟩ := Join_fs f1 3 1
  rw [show joins (List.range 4) 3 1 = true by decide] at c2
  refine AC.fix c2 ?_
  simp
  obtain ⟨H3, c3, L3⟩ := Join_fs L2.fs 1 2
  rw [show joins (joinV (List.range 4) 3 1) 1 2 = true by decide] at c3
  refine AC.fix c3 ?_
  simp
  obtain ⟨H4, c4, L4⟩ := Find_fs L3.fs 3
  rw [show findV (joinV (joinV (List.range 4) 3 1) 1 2) 3 = 1 by decide] at c4
  refine AC.fix c4 ?_
  simp
  have c5 := Parts_fs L4.fs
  rw [show cnt (joinV (joinV (List.range 4) 3 1) 1 2) = 2 by decide] at c5
  refine AC.fix c5 ?_
  simp
  obtain ⟨H6, v6, c6, L6, _, m6⟩ := Members_fs L4.fs 2
  obtain ⟨id, m, _, _, e6, _⟩ := m6 (by decide)
  rw [show memb (joinV (joinV (List.range 4) 3 1) 1 2) (findV (joinV (joinV (List.range 4) 3 1) 1 2) 2) 4 = [1, 2, 3] by decide] at e6
  refine AC.fix c6 ?_
  subst e6
  simp
  refine AX.ret ?_
  simp
  have := L2.lt; have := L3.lt; have := L4.lt; have := L6.lt
  refine ⟨by omega, fun id blk hg => ?_⟩
  have hi := hl id blk hg
  rw [L6.get id (by omega) (by omega) (by omega) (by omega), L4.get id (by omega) (by omega) (by omega) (by omega), L3.get id (by omega) (by omega) (by omega) (by omega), L2.get id (by omega) (by omega) (by omega) (by omega), g1 id hi]
  exact hg

theorem ForestNil_ok (a b : Int) (H : Hp) : AC Try.prog 8 [.i .i64 a, .i .i64 b] H (fun v H' => v = .b true) := by
  refine AC.code weftlaw06_ForestNil.at weftlaw06_ForestNil.ok ?_
  simp only [weftlaw06_ForestNil]
  refine AX.seq (AX.reg ?_)
  simp [weftlaw06_ForestNil.r0]
  refine AX.seq (AX.reg ?_)
  simp [weftlaw06_ForestNil.r1]
  refine AX.seq (AX.reg ?_)
  simp [weftlaw06_ForestNil.r2]
  refine AC.fix (Find_nil H a) ?_
  simp
  refine AC.fix (Join_nil H a b) ?_
  simp
  refine AC.fix (Members_nil H a) ?_
  simp
  refine AC.fix (Parts_nil H) ?_
  simp
  refine AC.fix (works_ok H) ?_
  simp
  refine AX.ret ?_
  simp

/-! ### ForestDoes -/
def encP (p : Int × Int) : List V := [.i .i64 p.1, .i .i64 p.2]
def DoesInv (l : List (Int × Int)) (ask : Int) (f u r q n : Nat) (m : Nat) (F : Fr) (H' : Hp) : Prop :=
  ∃ (i : Nat) (rep : List Nat), i ≤ l.length ∧ m = l.length - i ∧ FS H' f u r n rep ∧ H'.get q = some (.cells (nc rep) n) ∧ rep.length = n ∧ q < H'.next ∧
    F = [(1, .fs (l.map encP)), (2, .i .i64 ask), (7, .p (some (f, 0, 3))), (8, .sl (some (q, 0, n)) n 1), (9, .i .i64 i)]
theorem FS.len {H : Hp} {f u r n : Nat} {rep : List Nat} (h : FS H f u r n rep) : rep.length = n := by
  obtain ⟨⟨_, _, _, I⟩, _⟩ := h; exact I.lp
theorem FS.n5 {H : Hp} {f u r n : Nat} {rep : List Nat} (h : FS H f u r n rep) : n ≤ 100000 := by
  obtain ⟨⟨_, _, h, I⟩, _⟩ := h; exact h.n5
theorem rMembers_fs {H : Hp} {id n : Nat} {rep : List Nat} (hlt : id < H.next) (hg : H.get id = some (.cells (nc rep) n)) (hn : rep.length = n) (h5 : n ≤ 100000) (k : Int) :
    ∃ H' v, AC Try.prog n_weftref06_Forest_Members [.sl (some (id, 0, n)) n 1, .i .i64 k] H (fun v' X => v' = v ∧ X = H') ∧ H.next ≤ H'.next ∧ (∀ id, id < H.next → H'.get id = H.get id) ∧ SlH H' v (memb rep (findV rep k) n) := by
  refine ⟨_, _, rMembers_ok hlt hg hn h5 k, ?_, fun id hi => ?_, acc_sl _ _⟩
  · unfold accH; split <;> simp
  · unfold accH; split
    · rfl
    · simp [show id ≠ H.next by omega]
theorem memb_none {rep : List Nat} {x : Int} (h : x < 0) (n : Nat) : memb rep x n = [] := by
  unfold memb; rw [List.filter_eq_nil_iff]; intro a _; simp; omega
/-- What the two lists of members come to, side by side. -/
theorem both_fs {H : Hp} {f u r q n : Nat} {rep : List Nat} (h : FS H f u r n rep) (hq : H.get q = some (.cells (nc rep) n)) (hql : q < H.next) (hne : q ≠ f ∧ q ≠ u ∧ q ≠ r) (k : Int) :
    ∃ H1 H2 v1 v2, AC Try.prog n_forest_Forest_Members [.p (some (f, 0, 3)), .i .i64 k] H (fun v' X => v' = v1 ∧ X = H1) ∧ AC Try.prog n_weftref06_Forest_Members [.sl (some (q, 0, n)) n 1, .i .i64 k] H1 (fun v' X => v' = v2 ∧ X = H2) ∧
      AC Try.prog n_weftref06_SameInts [v1, v2] H2 (fun v H' => v = .b true ∧ H' = H2) ∧ FS H2 f u r n rep ∧ H2.get q = some (.cells (nc rep) n) ∧ q < H2.next ∧ H.next ≤ H2.next := by
  obtain ⟨H1, v1, c1, L1, z1, m1⟩ := Members_fs h k
  have hq1 : H1.get q = some (.cells (nc rep) n) := by rw [L1.get q hql hne.1 hne.2.1 hne.2.2]; exact hq
  have hql1 : q < H1.next := Nat.lt_of_lt_of_le hql L1.lt
  obtain ⟨H2, v2, c2, n2, g2, s2⟩ := rMembers_fs hql1 hq1 h.len h.n5 k
  have l1 := L1.fs.lt
  have hle : (memb rep (findV rep k) n).length ≤ 100000 := Nat.le_trans (memb_le _ _ _) h.n5
  have s1 : SlH H2 v1 (memb rep (findV rep k) n) := by
    by_cases hf : findV rep k < 0
    · rw [z1 hf, memb_none hf]; exact ⟨none, 0, rfl, fun e => absurd rfl e⟩
    · obtain ⟨id, m, a1, a2, a3, a4, a5⟩ := m1 hf
      rw [a3]
      exact ⟨_, _, rfl, fun _ => ⟨id, m, rfl, rfl, by rw [g2 id a2]; exact a4, a5⟩⟩
  refine ⟨H1, H2, v1, v2, c1, c2, SameInts_ok s1 s2 hle, L1.fs.same n2 (g2 f l1.1) (g2 u l1.2.1) (g2 r l1.2.2), by rw [g2 q hql1]; exact hq1, by omega, Nat.le_trans L1.lt n2⟩

theorem ForestDoes_ok (n : Int) (hn : inInt .i64 n) (l : List (Int × Int)) (ask : Int) (H : Hp) : AC Try.prog 7 [.i .i64 n, .fs (l.map encP), .i .i64 ask] H (fun v H' => v = .b true) := by
  refine AC.codeL weftlaw06_ForestDoes.at weftlaw06_ForestDoes.ok fun hl => ?_
  simp only [weftlaw06_ForestDoes]
  refine AX.seq (AX.reg ?_)
  simp [weftlaw06_ForestDoes.r0]
  by_cases hg : (200 < n ∧ n ≤ 100000) ∨ 100 < l.length
  · refine AX.seq (AX.seq (AX.mono (Q := Post.then (fun F H' => F = [(0, .i .i64 n), (1, .fs (l.map encP)), (2, .i .i64 ask), (20, .b true)] ∧ H = H') fun _ _ _ => False) (AX.reg ?_) ?_))
    · by_cases h1 : 200 < n
      · by_cases h2 : n ≤ 100000
        · simp [weftlaw06_ForestDoes.r1, h1, h2]
        · simp [weftlaw06_ForestDoes.r1, h1, h2]
          omega
      · simp [weftlaw06_ForestDoes.r1, h1]
        omega
    · rintro x F H' hx
      cases x <;> simp [Post.then] at hx ⊢
      obtain ⟨rfl, rfl⟩ := hx
      refine AX.pcond rfl (fun _ => AX.seq (AX.reg ?_)) (fun hb => by simp at hb)
      simp [weftlaw06_ForestDoes.r2]
      refine AX.ret ?_
      simp
  refine AX.seq (AX.seq (AX.mono (Q := Post.then (fun F H' => F = [(0, .i .i64 n), (1, .fs (l.map encP)), (2, .i .i64 ask), (20, .b false)] ∧ H = H') fun _ _ _ => False) (AX.reg ?_) ?_))
  · by_cases h1 : 200 < n
    · by_cases h2 : n ≤ 100000
      · exact absurd (.inl ⟨h1, h2⟩) hg
      · simp [weftlaw06_ForestDoes.r1, h1, h2]
        omega
    · simp [weftlaw06_ForestDoes.r1, h1]
      omega
  rintro x F H' hx
  cases x <;> simp [Post.then] at hx ⊢
  obtain ⟨rfl, rfl⟩ := hx
  refine AX.pcond rfl (fun hb => by simp at hb) (fun _ => AX.skip ?_)
  simp
  have hlen : l.length ≤ 100 := by omega
  refine AX.seq (AX.reg ?_)
  simp [weftlaw06_ForestDoes.r3]
  obtain ⟨H1, c1, f1, n1, g1, hl1⟩ := New_fs H hl n
  refine AC.fix c1 ?_
  simp
  refine AX.seq (AX.reg ?_)
  simp [weftlaw06_ForestDoes.r4]
  refine AC.fix (rNew_ok H1 n) ?_
  simp
  refine AX.seq (AX.seq (AX.reg ?_))
  simp [weftlaw06_ForestDoes.r5]
  refine AX.pcond rfl (fun hb => by simp at hb) (fun _ => AX.skip ?_)
  simp
  generalize clampN n = k at *
  have f2 : FS (H1.add (.cells (nc (List.range k)) k)) (H.next + 2) H.next (H.next + 1) k (List.range k) := by
    have l1 := f1.lt
    refine f1.same (by simp) ?_ ?_ ?_
    · simp [show H.next + 2 ≠ H1.next by omega]
    · simp [show H.next ≠ H1.next by omega]
    · simp [show H.next + 1 ≠ H1.next by omega]
  refine AX.seq (AX.seq (AX.reg ?_))
  simp [weftlaw06_ForestDoes.r7]
  refine AX.pblock (AX.loop (DoesInv l ask (H.next + 2) H.next (H.next + 1) H1.next k) l.length ⟨_, _, .refl _ _, 0, List.range k, by omega, by omega, f2, by simp, by simp, by simp, by simp⟩ ?_)
  rintro m F H' ⟨i, rep, hi, rfl, hf, hq, hrl, hql, rfl⟩
  simp only [weftlaw06_ForestDoes.l0]
  refine AX.seq (AX.seq (AX.reg ?_))
  simp [weftlaw06_ForestDoes.r8]
  have hne : H1.next ≠ H.next + 2 ∧ H1.next ≠ H.next ∧ H1.next ≠ H.next + 1 := by omega
  refine AX.pcond rfl (fun hb => AX.skip ?_) (fun hb => AX.exit ?_)
  case refine_2 =>
    simp
    obtain ⟨H3, c3, L3⟩ := Find_fs hf ask
    have hq3 : H3.get H1.next = some (.cells (nc rep) k) := by rw [L3.get _ hql hne.1 hne.2.1 hne.2.2]; exact hq
    have hql3 := Nat.lt_of_lt_of_le hql L3.lt
    obtain ⟨H4, H5, v4, v5, c4, c5, c6, f5, q5, ql5, _⟩ := both_fs L3.fs hq3 hql3 hne ask
    refine AX.seq (AX.reg ?_)
    simp [weftlaw06_ForestDoes.r12]
    refine AC.fix c3 ?_
    simp
    refine AC.fix (rFind_ok hq3 hrl ask) ?_
    simp
    refine AC.fix c4 ?_
    simp
    refine AC.fix c5 ?_
    simp
    refine AC.fix c6 ?_
    simp
    refine AC.fix (Parts_fs f5) ?_
    simp
    refine AC.fix (rParts_ok q5 hrl f5.n5) ?_
    simp
    refine AX.ret ?_
    simp
  simp at hb
  simp
  obtain ⟨p, hp⟩ : ∃ p, p = l[i] := ⟨_, rfl⟩
  have hp1 : l[i]? = some p := by rw [hp]; exact List.getElem?_eq_getElem hb
  obtain ⟨a, b⟩ := p
  obtain ⟨H3, c3, L3⟩ := Join_fs hf a b
  have hq3 : H3.get H1.next = some (.cells (nc rep) k) := by rw [L3.get _ hql hne.1 hne.2.1 hne.2.2]; exact hq
  have hql3 := Nat.lt_of_lt_of_le hql L3.lt
  have c4 := rJoin_ok hq3 hrl hf.n5 a b
  have hrl4 : (joinV rep a b).length = k := L3.fs.len
  have f4 : FS (H3.upd H1.next (.cells (nc (joinV rep a b)) k)) (H.next + 2) H.next (H.next + 1) k (joinV rep a b) :=
    L3.fs.same (by simp) (by simp [Ne.symm hne.1]) (by simp [Ne.symm hne.2.1]) (by simp [Ne.symm hne.2.2])
  have hq4 : (H3.upd H1.next (.cells (nc (joinV rep a b)) k)).get H1.next = some (.cells (nc (joinV rep a b)) k) := by simp
  have hn4 : (H3.upd H1.next (.cells (nc (joinV rep a b)) k)).next = H3.next := rfl
  generalize H3.upd H1.next (.cells (nc (joinV rep a b)) k) = H4 at *
  have cP := Parts_fs f4
  have cP2 := rParts_ok hq4 hrl4 f4.n5
  obtain ⟨H5, c5, L5⟩ := Find_fs f4 a
  have hq5 : H5.get H1.next = some (.cells (nc (joinV rep a b)) k) := by rw [L5.get _ (by omega) hne.1 hne.2.1 hne.2.2]; exact hq4
  have c6 := rFind_ok hq5 hrl4 a
  have hl5 := L5.lt
  obtain ⟨H6, H7, v6, v7, c7, c8, c9, f7, q7, ql7, _⟩ := both_fs L5.fs hq5 (by omega) hne b
  refine AX.seq (AX.pblock (AX.seq (AX.drw ?_)))
  simp [weftlaw06_ForestDoes.r9, hb, hp.symm, encP]
  refine callD_eff _ _ c3 ?_
  simp [hb, hp.symm, encP]
  refine callD_eff _ _ c4 ?_
  simp [hb, hp.symm, encP]
  refine callD_rd _ cP ?_
  simp [hb, hp.symm, encP]
  refine callD_rd _ cP2 ?_
  simp [hb, hp.symm, encP]
  refine callD_eff _ _ c5 ?_
  simp [hb, hp.symm, encP]
  refine callD_rd _ c6 ?_
  simp [hb, hp.symm, encP]
  refine callD_eff _ _ c7 ?_
  simp [hb, hp.symm, encP]
  refine callD_eff _ _ c8 ?_
  simp [hb, hp.symm, encP]
  refine callD_rd _ c9 ?_
  simp [hb, hp.symm, encP]
  refine AX.pcond rfl (fun hb => by simp at hb) (fun _ => AX.skip ?_)
  simp
  refine AX.reg ?_
  simp [weftlaw06_ForestDoes.r11, i64_succ (show i ≤ 9223372036854775000 by omega)]
  exact ⟨l.length - (i + 1), by omega, _, _, .refl _ _, i + 1, joinV rep a b, by omega, rfl, f7, q7, hrl4, ql7, by simp⟩
end Go.Proofs.Ytihipphpfbnknaa
