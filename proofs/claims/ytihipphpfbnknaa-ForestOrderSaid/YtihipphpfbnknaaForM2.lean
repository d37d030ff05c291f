/- In whatever order pairs are joined, the parts are the same. -/
import Derived.Test.YtihipphpfbnknaaForW7
namespace Go.Proofs.Ytihipphpfbnknaa
open Am C
set_option linter.unusedSimpArgs false
set_option linter.unusedVariables false

def Valid (n : Nat) (p : Int × Int) : Prop := (0 ≤ p.1 ∧ p.1 < n) ∧ 0 ≤ p.2 ∧ p.2 < n
def Resp (n : Nat) (φ : Nat → Nat) (E : List (Int × Int)) : Prop := ∀ p ∈ E, Valid n p → φ p.1.toNat = φ p.2.toNat
/-- The parts that some pairs make, and no larger ones. -/
structure Tight (n : Nat) (rep : List Nat) (E : List (Int × Int)) : Prop where
  len : rep.length = n
  le : ∀ i, i < n → gt rep i ≤ i
  idem : ∀ i, i < n → gt rep (gt rep i) = gt rep i
  edge : Resp n (gt rep) E
  least : ∀ φ, Resp n φ E → ∀ i j, i < n → j < n → gt rep i = gt rep j → φ i = φ j

theorem FS.inv {H : Hp} {f u r n : Nat} {rep : List Nat} (h : FS H f u r n rep) : (∀ i, i < n → gt rep i ≤ i) ∧ ∀ i, i < n → gt rep (gt rep i) = gt rep i := by
  obtain ⟨⟨_, _, _, I⟩, _⟩ := h; exact ⟨I.rep_le, I.rep_rep⟩
theorem Tight.new (n : Nat) : Tight n (List.range n) [] where
  len := by simp
  le i hi := by rw [gt_range hi]; exact Nat.le_refl _
  idem i hi := by rw [gt_range hi, gt_range hi]
  edge p hp := by cases hp
  least φ _ i j hi hj h := by rw [gt_range hi, gt_range hj] at h; rw [h]

theorem findV_valid {n : Nat} {rep : List Nat} (hl : rep.length = n) {k : Int} : ¬ findV rep k < 0 ↔ 0 ≤ k ∧ k < n := by
  unfold findV
  rw [hl]
  split
  · rename_i h; exact ⟨fun _ => h, fun _ => by omega⟩
  · rename_i h; exact ⟨fun h' => by omega, fun h' => absurd h' h⟩
theorem Tight.join {n : Nat} {rep : List Nat} {E : List (Int × Int)} (T : Tight n rep E) (a b : Int) : Tight n (joinV rep a b) (E ++ [(a, b)]) := by
  unfold joinV
  by_cases hj : joins rep a b = true
  · rw [if_pos hj]
    obtain ⟨n1, n2, n3⟩ := joins_true hj
    obtain ⟨a1, a2, a3⟩ := findV_in n1
    obtain ⟨b1, b2, b3⟩ := findV_in n2
    rw [T.len] at a2 b2
    rw [a3, b3]
    simp only [Int.toNat_natCast]
    have hx := T.idem a.toNat (by omega)
    have hy := T.idem b.toNat (by omega)
    have hxl := T.le a.toNat (by omega)
    have hyl := T.le b.toNat (by omega)
    have gj : ∀ i, i < n → gt (joinR (gt rep a.toNat) (gt rep b.toNat) rep) i = if gt rep i = gt rep a.toNat ∨ gt rep i = gt rep b.toNat then min (gt rep a.toNat) (gt rep b.toNat) else gt rep i := fun i hi => gt_joinR (by rw [T.len]; exact hi)
    refine ⟨by rw [joinR_length]; exact T.len, fun i hi => ?_, fun i hi => ?_, fun p hp hv => ?_, fun φ hφ i j hi hj' h => ?_⟩
    · have := T.le i hi
      rw [gj i hi]; split <;> omega
    · have := T.le i hi
      rw [gj i hi]
      split
      · rcases Nat.le_total (gt rep a.toNat) (gt rep b.toNat) with q | q
        · rw [Nat.min_eq_left q, gj _ (by omega), if_pos (.inl hx), Nat.min_eq_left q]
        · rw [Nat.min_eq_right q, gj _ (by omega), if_pos (.inr hy), Nat.min_eq_right q]
      · rename_i hne
        rw [gj _ (by omega), T.idem i hi, if_neg hne]
    · have hv' := hv
      obtain ⟨v1, v2⟩ := hv'
      rw [gj _ (by omega), gj _ (by omega)]
      rcases List.mem_append.1 hp with hp | hp
      · rw [T.edge p hp hv]
      · simp at hp; subst hp
        simp
    · have hφ1 : Resp n φ E := fun p hp hv => hφ p (by simp [hp]) hv
      have hab : φ a.toNat = φ b.toNat := hφ (a, b) (by simp) ⟨⟨a1, a2⟩, b1, b2⟩
      have ha : ∀ i, i < n → gt rep i = gt rep a.toNat → φ i = φ a.toNat := fun i hi h => T.least φ hφ1 i _ hi (by omega) h
      have hb : ∀ i, i < n → gt rep i = gt rep b.toNat → φ i = φ b.toNat := fun i hi h => T.least φ hφ1 i _ hi (by omega) h
      rw [gj i hi, gj j hj'] at h
      by_cases c1 : gt rep i = gt rep a.toNat ∨ gt rep i = gt rep b.toNat
      · by_cases c2 : gt rep j = gt rep a.toNat ∨ gt rep j = gt rep b.toNat
        · have e1 : φ i = φ a.toNat := c1.elim (ha i hi) fun e => (hb i hi e).trans hab.symm
          have e2 : φ j = φ a.toNat := c2.elim (ha j hj') fun e => (hb j hj' e).trans hab.symm
          rw [e1, e2]
        · exfalso
          rw [if_pos c1, if_neg c2] at h
          rcases Nat.le_total (gt rep a.toNat) (gt rep b.toNat) with q | q
          · rw [Nat.min_eq_left q] at h; exact c2 (.inl h.symm)
          · rw [Nat.min_eq_right q] at h; exact c2 (.inr h.symm)
      · by_cases c2 : gt rep j = gt rep a.toNat ∨ gt rep j = gt rep b.toNat
        · exfalso
          rw [if_neg c1, if_pos c2] at h
          rcases Nat.le_total (gt rep a.toNat) (gt rep b.toNat) with q | q
          · rw [Nat.min_eq_left q] at h; exact c1 (.inl h)
          · rw [Nat.min_eq_right q] at h; exact c1 (.inr h)
        · rw [if_neg c1, if_neg c2] at h
          exact T.least φ hφ1 i j hi hj' h
  · rw [if_neg hj]
    refine ⟨T.len, T.le, T.idem, fun p hp hv => ?_, fun φ hφ i j hi hj h => T.least φ (fun p hp hv => hφ p (by simp [hp]) hv) i j hi hj h⟩
    rcases List.mem_append.1 hp with hp | hp
    · exact T.edge p hp hv
    · simp at hp; subst hp
      obtain ⟨v1, v2⟩ := hv
      have h1 := (findV_valid T.len (k := a)).2 v1
      have h2 := (findV_valid T.len (k := b)).2 v2
      simp [joins] at hj
      have h3 := hj (by omega) (by omega)
      obtain ⟨_, _, a3⟩ := findV_in h1
      obtain ⟨_, _, b3⟩ := findV_in h2
      rw [a3, b3] at h3
      exact Int.ofNat_inj.1 h3
theorem Tight.unique {n : Nat} {r1 r2 : List Nat} {E1 E2 : List (Int × Int)} (T1 : Tight n r1 E1) (T2 : Tight n r2 E2) (h12 : Resp n (gt r2) E1) (h21 : Resp n (gt r1) E2) : r1 = r2 := by
  have key : ∀ i, i < n → gt r1 i = gt r2 i := fun i hi => by
    have l1 := T1.le i hi
    have l2 := T2.le i hi
    have e1 := T1.least _ h12 (gt r1 i) i (by omega) hi (T1.idem i hi)
    have e2 := T2.least _ h21 (gt r2 i) i (by omega) hi (T2.idem i hi)
    have := T2.le (gt r1 i) (by omega)
    have := T1.le (gt r2 i) (by omega)
    omega
  apply List.ext_getElem
  · rw [T1.len, T2.len]
  · intro i h1 h2
    have := key i (by rw [T1.len] at h1; exact h1)
    simpa [gt, List.getD_eq_getElem?_getD, List.getElem?_eq_getElem h1, List.getElem?_eq_getElem h2] using this
theorem Resp.mem {n : Nat} {φ : Nat → Nat} {E E' : List (Int × Int)} (h : Resp n φ E) (k : ∀ p ∈ E', p ∈ E ∨ (p.2, p.1) ∈ E) : Resp n φ E' := fun p hp hv => by
  rcases k p hp with q | q
  · exact h p q hv
  · exact (h _ q ⟨hv.2, hv.1⟩).symm

theorem cnt_joinV {H : Hp} {f u r n : Nat} {rep : List Nat} (h : FS H f u r n rep) (a b : Int) : cnt (joinV rep a b) + (if joins rep a b then 1 else 0) = cnt rep := by
  obtain ⟨⟨_, _, h, I⟩, _⟩ := h
  unfold joinV
  by_cases hj : joins rep a b = true
  · rw [if_pos hj, if_pos hj]
    obtain ⟨n1, n2, n3⟩ := joins_true hj
    obtain ⟨a1, a2, a3⟩ := findV_in n1
    obtain ⟨b1, b2, b3⟩ := findV_in n2
    rw [I.lp] at a2 b2
    rw [a3, b3]
    simp only [Int.toNat_natCast]
    have xr := I.rep_le a.toNat (by omega)
    have yr := I.rep_le b.toNat (by omega)
    exact cnt_join I (x := gt rep a.toNat) (y := gt rep b.toNat) (by omega) (by omega) (I.rep_rep a.toNat (by omega)) (I.rep_rep b.toNat (by omega)) (by omega)
  · rw [if_neg hj, if_neg hj]; rfl
end Go.Proofs.Ytihipphpfbnknaa
