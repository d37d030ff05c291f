/- What the law QueryReach alone needs: Q05, QNum, QLL, QWar, QRPar, NamM. -/
import Derived.Test.YtggjaoibcfgofaaGreatDoorReach0
namespace Go.Proofs.YtggjaoibcfgofaaGreatDoor
open Am C
set_option linter.unusedSimpArgs false
set_option linter.unusedVariables false
def SortInv (l : List Str) (H : Hp) (m : Nat) (F : Fr) (H' : Hp) : Prop :=
  ∃ i, i ≤ l.length ∧ m = l.length - i ∧ H' = H ∧ F = [(0, ss l), (3, ss (sortedS (l.take i))), (4, .i .i64 i)]
theorem Sorted_ok (l : List Str) (hl : l.length ≤ 1000000) (H : Hp) : AC Tryz.prog n_weftref05_Sorted [ss l] H (fun v H' => v = ss (sortedS l) ∧ H' = H) := by
  refine AC.codeP weftref05_Sorted.at weftref05_Sorted.ok (free_ss _) fun hlt => ?_
  simp only [weftref05_Sorted]
  refine AX.seq (AX.reg ?_)
  simp [weftref05_Sorted.r0]
  refine AX.seq (AX.reg ?_)
  simp [weftref05_Sorted.r1]
  refine AX.seq (AX.seq (AX.reg ?_))
  simp [weftref05_Sorted.r2]
  refine AX.pblock (AX.loop (SortInv l H) l.length ⟨_, _, Wk.frz0 (frzF_cons (.refl _) (frzF_cons (.sl0 _) (frzF_cons (.refl _) frzF_nil))), 0, by omega, by omega, rfl, rfl⟩ ?_)
  rintro m F H' ⟨i, hi, rfl, rfl, rfl⟩
  simp only [weftref05_Sorted.l0]
  refine AX.seq (AX.seq (AX.reg ?_))
  simp [weftref05_Sorted.r3, ss]
  refine AX.pcond rfl (fun hb => AX.skip ?_) (fun hb => AX.exit ?_)
  case refine_2 =>
    simp at hb
    simp
    refine AX.seq (AX.reg ?_)
    simp [weftref05_Sorted.r6]
    refine AX.ret ?_
    simp
    rw [List.take_of_length_le hb]
    exact ⟨.refl _, .refl _⟩
  simp at hb
  simp
  refine AX.seq (AX.pblock (AX.reg ?_))
  simp [weftref05_Sorted.r4, hb]
  have hs := sortedS_take l i
  refine AC.fix (Into_ok (sortedS (l.take i)) l[i] (by omega) _) ?_
  simp
  refine AX.reg ?_
  simp [weftref05_Sorted.r5, succ_of_lt hb (show l.length ≤ 9223372036854775807 by omega)]
  refine ⟨l.length - (i + 1), by omega, _, _, .refl _ _, i + 1, by omega, rfl, rfl, ?_⟩
  have e : sortedS (l.take (i + 1)) = intoS (sortedS (l.take i)) l[i] := by
    rw [List.take_add_one, List.getElem?_eq_getElem hb, sortedS, List.foldl_append]; rfl
  simp [ss, e]
end Go.Proofs.YtggjaoibcfgofaaGreatDoor
namespace Go.Proofs.YtggjaoibcfgofaaGreatDoor
open Am C
set_option linter.unusedSimpArgs false
set_option linter.unusedVariables false
section
open Go Go.RowKit
end
theorem numV_pos {l : List Str} (hr : Rising l) {x : Str} (hx : x ∈ l) : numV l x = (posS l x : Nat) := by
  refine numV_at ((posS_mem hr x).1 hx) fun h => ?_
  obtain ⟨j, hj⟩ := List.mem_iff_getElem?.1 h
  rw [List.getElem?_take] at hj
  split at hj
  · rename_i hlt
    have := posS_lt hr x j x hj
    rw [decide_eq_true hlt] at this
    exact ltB_irr x this
  · cases hj
end Go.Proofs.YtggjaoibcfgofaaGreatDoor
namespace Go.Proofs.YtggjaoibcfgofaaGreatDoor
open Am C
set_option linter.unusedSimpArgs false
set_option linter.unusedVariables false
theorem bI_congr {f g : Nat → Bool} {n : Nat} (h : ∀ i, i < n → f i = g i) : bI f n = bI g n := List.map_congr_left fun k hk => by rw [h k (by simpa using hk)]
end Go.Proofs.YtggjaoibcfgofaaGreatDoor
namespace Go.Proofs.YtggjaoibcfgofaaGreatDoor
open Am C
set_option linter.unusedSimpArgs false
set_option linter.unusedVariables false
def bmV (n : Nat) (M : Nat → Nat → Bool) : V := .fs ((List.range n).map fun i => [.fs ((List.range n).map fun j => [.b (M i j)])])
@[simp] theorem free_bmV (n : Nat) (M : Nat → Nat → Bool) : free (bmV n M) := free_fs fun e he v hv => by
  obtain ⟨x, _, rfl⟩ := List.mem_map.1 he
  simp at hv; subst hv
  refine free_fs fun e he v hv => ?_
  obtain ⟨y, _, rfl⟩ := List.mem_map.1 he
  simp at hv; subst hv; exact free_b _
theorem member_ok (n k : Nat) (H : Hp) : AC Tryz.prog n_weftref07_member [.i .i64 (n : Nat), .i .i64 (k : Nat)] H (fun v H' => v = .b (decide (k < n)) ∧ H' = H) := by
  refine AC.code weftref07_member.at weftref07_member.ok ?_
  simp only [weftref07_member]
  refine AX.seq (AX.reg ?_)
  simp [weftref07_member.r0]
  refine AX.seq (AX.reg ?_)
  simp [weftref07_member.r1]
  refine AX.ret ?_
  simp
structure MAt (H X : Hp) (n : Nat) (r : Nat) (M : Nat → Nat → Bool) : Prop where
  ext : H.Ext X
  lt : ∀ k blk, X.get k = some blk → k < X.next
  ex : ∃ (vs : Nat → V) (a : Nat → Nat) (m : Nat), m ≤ n ∧ X.get H.next = some (.cells ((List.range n).map vs) m) ∧
    (∀ i, i < r → H.next < a i ∧ vs i = .sl (some (a i, 0, n)) n 1 ∧ ∃ mi, mi ≤ n ∧ X.get (a i) = some (.cells (bI (M i) n) mi)) ∧
    (∀ i j, i < r → j < r → a i = a j → i = j)
theorem MAt.rd {H X : Hp} {n r : Nat} {M : Nat → Nat → Bool} (A : MAt H X n r M) (hH : ∀ k blk, H.get k = some blk → k < H.next) : ∃ (vs : Nat → V) (a : Nat → Nat) (m : Nat), m ≤ n ∧ X.get H.next = some (.cells ((List.range n).map vs) m) ∧ (∀ i, i < r → vs i = .sl (some (a i, 0, n)) n 1 ∧ ∃ mi, mi ≤ n ∧ X.get (a i) = some (.cells (bI (M i) n) mi)) ∧
    ∀ i, i < r → ∀ f, MAt H (X.upd (a i) (.cells (bI f n) n)) n r (upd M i f) := by
  obtain ⟨vs, a, m, h1, h2, h3, h4⟩ := A.ex
  refine ⟨vs, a, m, h1, h2, fun i hi => (h3 i hi).2, fun i hi f => ?_⟩
  obtain ⟨q1, q2, mi, q3, q4⟩ := h3 i hi
  refine ⟨A.ext.upd hH (by omega) _, Hp.upd_lt A.lt (A.lt _ _ q4) _, vs, a, m, h1, by simp [show H.next ≠ a i by omega, h2], fun j hj => ?_, h4⟩
  obtain ⟨r1, r2, mj, r3, r4⟩ := h3 j hj
  by_cases e : j = i
  · subst e; exact ⟨r1, r2, n, Nat.le_refl _, by simp⟩
  · exact ⟨r1, r2, mj, r3, by simp [show a j ≠ a i from fun h => e (h4 j i hj hi h), upd_ne _ _ e, r4]⟩
theorem MAt.congr {H X : Hp} {n r : Nat} {M M' : Nat → Nat → Bool} (A : MAt H X n r M) (h : ∀ a b, a < r → b < n → M' a b = M a b) : MAt H X n r M' := by
  obtain ⟨vs, a, m, h1, h2, h3, h4⟩ := A.ex
  refine ⟨A.ext, A.lt, vs, a, m, h1, h2, fun i hi => ?_, h4⟩
  obtain ⟨q1, q2, mi, q3, q4⟩ := h3 i hi
  exact ⟨q1, q2, mi, q3, by rw [q4, bI_congr fun j hj => (h i j hi hj).symm]⟩
theorem MAt.frz {H X : Hp} {n : Nat} {M : Nat → Nat → Bool} (A : MAt H X n n M) : Frz X (fun id => H.next ≤ id) (.sl (some (H.next, 0, n)) n 1) (bmV n M) := by
  obtain ⟨vs, a, m, h1, h2, h3, h4⟩ := A.ex
  refine .sl H.next 0 n n 1 m _ _ (Nat.le_refl _) h2 h1 (by simp) (by simp) (fun e he => by obtain ⟨i, _, rfl⟩ := List.mem_map.1 he; rfl) (fun i j e v hi hj => ?_) (fun i j e v u hi hj hu => ?_)
  · simp only [List.getElem?_map, Option.map_eq_some_iff] at hi
    obtain ⟨x, hx, rfl⟩ := hi
    have := (List.getElem?_eq_some_iff.1 hx).1
    simp at this
    cases j with
    | zero => omega
    | succ j => simp at hj
  · simp only [List.getElem?_map, Option.map_eq_some_iff] at hi
    obtain ⟨x, hx, rfl⟩ := hi
    have hil := (List.getElem?_eq_some_iff.1 hx).1
    simp at hil
    have hxi : x = i := by
      rw [List.getElem?_range hil] at hx; injection hx with hx; exact hx.symm
    subst hxi
    cases j with
    | succ j => simp at hj
    | zero =>
      simp at hj; subst hj
      simp [hil] at hu; subst hu
      obtain ⟨q1, q2, mi, q3, q4⟩ := h3 x hil
      rw [q2]
      refine .sl (a x) 0 n n 1 mi _ _ (by omega) q4 q3 (by simp) (by simp) (fun e he => by obtain ⟨i, _, rfl⟩ := List.mem_map.1 he; rfl) (fun i j e v hi hj => ?_) (fun i j e v u hi hj hu => ?_)
      · simp only [List.getElem?_map, Option.map_eq_some_iff] at hi
        obtain ⟨y, hy, rfl⟩ := hi
        have := (List.getElem?_eq_some_iff.1 hy).1
        simp at this
        cases j with
        | zero => omega
        | succ j => simp at hj
      · simp only [List.getElem?_map, Option.map_eq_some_iff] at hi
        obtain ⟨y, hy, rfl⟩ := hi
        cases j with
        | succ j => simp at hj
        | zero =>
          simp at hj; subst hj
          simp [bI, hy] at hu
          subst hu; exact .refl _
def W0Inv (H : Hp) (n : Nat) (E : List (Nat × Nat)) (m : Nat) (F : Fr) (X : Hp) : Prop :=
  ∃ i, i ≤ n ∧ m = n - i ∧ MAt H X n i (fun a b => a == b) ∧ F = [(0, .i .i64 n), (1, neV E), (5, .sl (some (H.next, 0, n)) n 1), (6, .i .i64 i)]
def W1Inv (H : Hp) (n : Nat) (E : List (Nat × Nat)) (m : Nat) (F : Fr) (X : Hp) : Prop :=
  ∃ i, i ≤ E.length ∧ m = E.length - i ∧ MAt H X n n (warS (E.take i) 0) ∧ F = [(0, .i .i64 n), (1, neV E), (5, .sl (some (H.next, 0, n)) n 1), (7, .i .i64 i)]
def W2Inv (H : Hp) (n : Nat) (E : List (Nat × Nat)) (m : Nat) (F : Fr) (X : Hp) : Prop :=
  ∃ k, k ≤ n ∧ m = n - k ∧ MAt H X n n (warS E k) ∧ F = [(0, .i .i64 n), (5, .sl (some (H.next, 0, n)) n 1), (8, .i .i64 k)]
def wRow (E : List (Nat × Nat)) (k i : Nat) : Nat → Nat → Bool := fun a b => if a < i then warS E (k + 1) a b else warS E k a b
def W3Inv (H : Hp) (n : Nat) (E : List (Nat × Nat)) (k : Nat) (m : Nat) (F : Fr) (X : Hp) : Prop :=
  ∃ i, i ≤ n ∧ m = n - i ∧ MAt H X n n (wRow E k i) ∧ F = [(0, .i .i64 n), (5, .sl (some (H.next, 0, n)) n 1), (8, .i .i64 k), (9, .i .i64 i)]
def wCell (E : List (Nat × Nat)) (k i j : Nat) : Nat → Nat → Bool := fun a b => if a < i ∨ (a = i ∧ b < j) then warS E (k + 1) a b else warS E k a b
def W4Inv (H : Hp) (n : Nat) (E : List (Nat × Nat)) (k i : Nat) (m : Nat) (F : Fr) (X : Hp) : Prop :=
  ∃ j, j ≤ n ∧ m = n - j ∧ MAt H X n n (wCell E k i j) ∧ F = [(0, .i .i64 n), (5, .sl (some (H.next, 0, n)) n 1), (8, .i .i64 k), (9, .i .i64 i), (10, .i .i64 j)]
theorem edgB_snoc (l : List (Nat × Nat)) (e : Nat × Nat) (x y : Nat) : edgB (l ++ [e]) x y = (edgB l x y || (e.1 == x && e.2 == y)) := by simp [edgB]
theorem wCell_succ (E : List (Nat × Nat)) (k i j : Nat) : wCell E k i (j + 1) = upd (wCell E k i j) i (upd (wCell E k i j i) j (warS E (k + 1) i j)) := by
  funext a b
  by_cases ha : a = i
  · rw [ha, upd_same]
    by_cases hb : b = j
    · rw [hb, upd_same]; simp only [wCell]; rw [if_pos (.inr ⟨trivial, by omega⟩)]
    · rw [upd_ne _ _ hb]; simp only [wCell]
      by_cases h : b < j
      · rw [if_pos (.inr ⟨trivial, by omega⟩), if_pos (.inr ⟨trivial, h⟩)]
      · rw [if_neg (by omega), if_neg (by omega)]
  · rw [upd_ne _ _ ha]; simp only [wCell]
    by_cases h : a < i
    · rw [if_pos (.inl h), if_pos (.inl h)]
    · rw [if_neg (by omega), if_neg (by omega)]
theorem War_ok (n : Nat) (E : List (Nat × Nat)) (hn : n ≤ 20000) (hE : E.length ≤ 1000000) (hb : ∀ e ∈ E, e.1 < n ∧ e.2 < n) (H : Hp) :
    AC Tryz.prog n_weftref07_Reach [.i .i64 (n : Nat), neV E] H (fun v H' => v = bmV n (warS E n) ∧ H' = H) := by
  refine AC.codeP weftref07_Reach.at weftref07_Reach.ok (free_bmV _ _) fun hlt => ?_
  simp only [weftref07_Reach]
  refine AX.seq (AX.reg ?_)
  simp [weftref07_Reach.r0]
  refine AX.seq (AX.reg ?_)
  have hmx : max (n : Int) 0 = n := by omega
  simp [weftref07_Reach.r1, hmx]
  refine AX.seq (AX.reg ?_)
  simp [weftref07_Reach.r2, repl, roomB]
  refine ⟨by omega, ?_⟩
  rw [rep_rng]
  have A0 : MAt H (H.add (.cells ((List.range n).map fun _ => V.sl none 0 0) n)) n 0 (fun a b => a == b) := ⟨.add hlt _, Hp.add_lt hlt _, fun _ => .sl none 0 0, fun _ => 0, n, Nat.le_refl _, by simp, fun i hi => by omega, fun i j hi => by omega⟩
  generalize H.add _ = X0 at A0 ⊢
  refine AX.seq (AX.seq (AX.reg ?_))
  simp [weftref07_Reach.r3]
  refine AX.pblock (AX.loop (W0Inv H n E) n ⟨_, _, .refl _ _, 0, by omega, by omega, A0, rfl⟩ ?_)
  clear A0
  rintro m F X ⟨i, hi, rfl, A, rfl⟩
  simp only [weftref07_Reach.l0]
  refine AX.seq (AX.seq (AX.reg ?_))
  simp [weftref07_Reach.r4]
  refine AX.pcond rfl (fun hc => AX.skip ?_) (fun hc => AX.exit ?_)
  · simp at hc
    have hi1 : i + 1 ≤ n := hc
    obtain ⟨vs, a, mo, h1, h2, h3, h4⟩ := A.ex
    simp
    have hnx : H.next < X.next := A.lt _ _ h2
    refine AX.seq (AX.pblock (AX.seq (AX.reg ?_)))
    simp [weftref07_Reach.r5, repl, roomB, hc, hi1, h1, h2, show H.next ≠ X.next by omega]
    refine ⟨by omega, ?_⟩
    rw [set_rng, bI_false]
    have g1 : ((X.add (.cells (bI (fun _ => false) n) n)).upd H.next (.cells ((List.range n).map (upd vs i (.sl (some (X.next, 0, n)) n 1))) n)).get H.next = some (.cells ((List.range n).map (upd vs i (.sl (some (X.next, 0, n)) n 1))) n) := by simp
    have g2 : ((X.add (.cells (bI (fun _ => false) n) n)).upd H.next (.cells ((List.range n).map (upd vs i (.sl (some (X.next, 0, n)) n 1))) n)).get X.next = some (.cells (bI (fun _ => false) n) n) := by simp [show X.next ≠ H.next by omega]
    have g3 : ∀ k blk, k ≠ H.next → X.get k = some blk → ((X.add (.cells (bI (fun _ => false) n) n)).upd H.next (.cells ((List.range n).map (upd vs i (.sl (some (X.next, 0, n)) n 1))) n)).get k = some blk := fun k blk hk g => by
      have := A.lt k blk g
      simp [hk, show k ≠ X.next by omega, g]
    have g4 : ∀ k blk, ((X.add (.cells (bI (fun _ => false) n) n)).upd H.next (.cells ((List.range n).map (upd vs i (.sl (some (X.next, 0, n)) n 1))) n)).get k = some blk → k < X.next + 1 := by
      have := Hp.upd_lt (Hp.add_lt A.lt (.cells (bI (fun _ => false) n) n)) (k := H.next) (by simp; omega) (.cells ((List.range n).map (upd vs i (.sl (some (X.next, 0, n)) n 1))) n)
      simpa using this
    have g5 : ((X.add (.cells (bI (fun _ => false) n) n)).upd H.next (.cells ((List.range n).map (upd vs i (.sl (some (X.next, 0, n)) n 1))) n)).next = X.next + 1 := by simp
    generalize (X.add (.cells (bI (fun _ => false) n) n)).upd H.next _ = Y at g1 g2 g3 g4 g5 ⊢
    have hr := take1_rng (upd vs i (.sl (some (X.next, 0, n)) n 1)) hc
    rw [upd_same] at hr
    refine AX.reg ?_
    simp [weftref07_Reach.r6, hc, hi1, g1, hr, g2]
    refine AX.reg ?_
    simp [weftref07_Reach.r7, succ_of_lt hc (show n ≤ 9223372036854775807 by omega)]
    rw [bI_set]
    refine ⟨n - (i + 1), by omega, _, _, .refl _ _, i + 1, by omega, rfl, ⟨⟨by have := A.ext.1; simp [g5]; omega, fun k blk g => ?_⟩, Hp.upd_lt (by rw [g5]; exact g4) (by rw [g5]; omega) _, upd vs i (.sl (some (X.next, 0, n)) n 1), upd a i X.next, n, Nat.le_refl _, by simp [show H.next ≠ X.next by omega, g1], fun j hj => ?_, fun j k hj hk e => ?_⟩, rfl⟩
    · have := hlt k blk g
      have h := A.ext.2 k blk g
      have := A.lt k blk h
      simp only [Hp.get_upd]; rw [if_neg (by omega)]
      exact g3 k blk (by omega) h
    · by_cases e : j = i
      · subst e
        rw [upd_same, upd_same]
        refine ⟨hnx, rfl, n, Nat.le_refl _, ?_⟩
        simp only [Hp.get_upd, if_true]
        congr 2
        refine bI_congr fun b _ => ?_
        simp only [upd]
        by_cases hb : b = j
        · simp [hb]
        · simp [hb, Ne.symm hb]
      · obtain ⟨q1, q2, mi, q3, q4⟩ := h3 j (by omega)
        rw [upd_ne _ _ e, upd_ne _ _ e]
        have := A.lt _ _ q4
        refine ⟨q1, q2, mi, q3, ?_⟩
        simp only [Hp.get_upd]; rw [if_neg (by omega)]
        exact g3 _ _ (by omega) q4
    · have big : ∀ j, j < i → a j < X.next := fun j hj => by obtain ⟨_, _, mi, _, q4⟩ := h3 j hj; exact A.lt _ _ q4
      by_cases ej : j = i <;> by_cases ek : k = i
      · rw [ej, ek]
      · have := big k (by omega)
        subst ej; rw [upd_same, upd_ne _ _ ek] at e; omega
      · have := big j (by omega)
        subst ek; rw [upd_same, upd_ne _ _ ej] at e; omega
      · rw [upd_ne _ _ ej, upd_ne _ _ ek] at e
        exact h4 j k (by omega) (by omega) e
  simp at hc
  have e : i = n := by omega
  rw [e] at A
  clear e hc hi
  simp
  refine AX.seq (AX.seq (AX.reg ?_))
  simp [weftref07_Reach.r8]
  have hw0 : (fun a b : Nat => a == b) = warS (E.take 0) 0 := by funext a b; simp [warS, edgB]
  rw [hw0] at A
  refine AX.pblock (AX.loop (W1Inv H n E) E.length ⟨_, _, .refl _ _, 0, by omega, by omega, A, rfl⟩ ?_)
  clear A hw0
  rintro m F X ⟨i, hi, rfl, A, rfl⟩
  simp only [weftref07_Reach.l1]
  refine AX.seq (AX.seq (AX.reg ?_))
  simp [weftref07_Reach.r9, neV]
  refine AX.pcond rfl (fun hc => AX.skip ?_) (fun hc => AX.exit ?_)
  · simp at hc
    obtain ⟨h1, h2⟩ := hb _ (List.getElem_mem hc)
    have h11 : E[i].1 + 1 ≤ n := h1
    have h21 : E[i].2 + 1 ≤ n := h2
    obtain ⟨vs, a, mo, r1, r2, r3, r4⟩ := A.rd hlt
    obtain ⟨q1, mi, q2, q3⟩ := r3 _ h1
    have hr := take1_rng vs h1
    simp
    refine AX.seq (AX.pblock (AX.stp [(0, .i .i64 n), (1, neV E), (5, .sl (some (H.next, 0, n)) n 1), (7, .i .i64 i), (52, .b true)] ?_ ?_))
    · simp [weftref07_Reach.r10, neV, hc]
      refine AC.fix (member_ok _ _ _) ?_
      simp [h1, hc]
      refine AC.fix (member_ok _ _ _) ?_
      simp [h2]
    refine AX.pcond (t := true) rfl (fun _ => AX.drw ?_) (fun h => by simp at h)
    simp [weftref07_Reach.r11, neV, hc, h1, h2, h11, h21, r1, r2, hr, q1, q2, q3]
    rw [bI_set]
    refine AX.reg ?_
    simp [weftref07_Reach.r12, succ_of_lt hc (show E.length ≤ 9223372036854775807 by omega)]
    refine ⟨E.length - (i + 1), by omega, _, _, .refl _ _, i + 1, by omega, rfl, ?_, by simp [neV]⟩
    have htk : E.take (i + 1) = E.take i ++ [E[i]] := by rw [List.take_add_one, List.getElem?_eq_getElem hc]; rfl
    have hM : warS (E.take (i + 1)) 0 = upd (warS (E.take i) 0) E[i].1 (upd (warS (E.take i) 0 E[i].1) E[i].2 true) := by
      funext x y
      rw [htk]
      simp only [warS, edgB_snoc]
      by_cases hx : x = E[i].1
      · rw [hx, upd_same]
        by_cases hy : y = E[i].2
        · rw [hy, upd_same]; simp
        · rw [upd_ne _ _ hy]
          have : (E[i].2 == y) = false := by simpa using Ne.symm hy
          rw [this]; simp
      · rw [upd_ne _ _ hx]
        have : (E[i].1 == x) = false := by simpa using Ne.symm hx
        rw [this]; simp
    rw [hM]
    exact r4 _ h1 _
  simp at hc
  rw [List.take_of_length_le hc] at A
  clear hc hi
  simp
  refine AX.seq (AX.seq (AX.reg ?_))
  simp [weftref07_Reach.r13]
  refine AX.pblock (AX.loop (W2Inv H n E) n ⟨_, _, .refl _ _, 0, by omega, by omega, A, rfl⟩ ?_)
  clear A
  rintro m F X ⟨k, hk, rfl, A, rfl⟩
  simp only [weftref07_Reach.l2]
  refine AX.seq (AX.seq (AX.reg ?_))
  simp [weftref07_Reach.r14]
  refine AX.pcond rfl (fun hc => AX.skip ?_) (fun hc => AX.exit ?_)
  · simp at hc
    have hk1 : k + 1 ≤ n := hc
    simp
    refine AX.seq (AX.pblock (AX.seq (AX.reg ?_)))
    simp [weftref07_Reach.r15]
    refine AX.pblock (AX.loop (W3Inv H n E k) n ⟨_, _, .refl _ _, 0, by omega, by omega, A.congr fun a b _ _ => by simp [wRow], rfl⟩ ?_)
    clear A
    rintro m F X ⟨i, hi, rfl, A, rfl⟩
    simp only [weftref07_Reach.l3]
    refine AX.seq (AX.seq (AX.reg ?_))
    simp [weftref07_Reach.r16]
    refine AX.pcond rfl (fun hc2 => AX.skip ?_) (fun hc2 => AX.exit ?_)
    · simp at hc2
      have hi1 : i + 1 ≤ n := hc2
      have hC0 : wRow E k i = wCell E k i 0 := by
        funext a b; simp only [wRow, wCell, Nat.not_lt_zero, and_false, or_false]
      simp
      refine AX.seq (AX.pblock (AX.seq (AX.reg ?_)))
      simp [weftref07_Reach.r17]
      rw [hC0] at A
      refine AX.pblock (AX.loop (W4Inv H n E k i) n ⟨_, _, .refl _ _, 0, by omega, by omega, A, rfl⟩ ?_)
      clear A
      rintro m F X ⟨j, hj, rfl, A, rfl⟩
      simp only [weftref07_Reach.l4]
      obtain ⟨vs, a, mo, r1, r2, r3, r4⟩ := A.rd hlt
      obtain ⟨q1, mi, q2, q3⟩ := r3 _ hc2
      obtain ⟨s1, mk, s2, s3⟩ := r3 _ hc
      have hr := take1_rng vs hc2
      have hrk := take1_rng vs hc
      have hkk : warS E k k k = true := warS_refl E k k
      have hik : wCell E k i j i k = warS E k i k := by
        simp only [wCell]
        split
        · simp [warS, hkk]
        · rfl
      have nk := bI_at (wCell E k i j i) hc
      rw [hik] at nk
      refine AX.seq (AX.test (decide (j < n) && warS E k i k) [(0, .i .i64 n), (5, .sl (some (H.next, 0, n)) n 1), (8, .i .i64 k), (9, .i .i64 i), (10, .i .i64 j), (88, .b (decide (j < n) && warS E k i k))] ?_ rfl (fun h => AX.skip ?_) (fun h => AX.exit ?_))
      · by_cases hjn : j < n
        · simp [weftref07_Reach.r18, hjn, hc2, hi1, hc, hk1, r1, r2, hr, q1, q2, q3, nk]
        · simp [weftref07_Reach.r18, hjn]
      · simp at h
        obtain ⟨hjn, hikt⟩ := h
        have hj1 : j + 1 ≤ n := hjn
        have nij := bI_at (wCell E k i j i) hjn
        have nkj := bI_at (wCell E k i j k) hjn
        have hij : wCell E k i j i j = warS E k i j := by simp only [wCell]; rw [if_neg (by omega)]
        have hkj : wCell E k i j k j = warS E k k j := by
          simp only [wCell]
          split
          · simp [warS, hkk]
          · rfl
        rw [hij] at nij
        rw [hkj] at nkj
        simp
        have hval : warS E (k + 1) i j = (warS E k i j || warS E k k j) := by simp [warS, hikt]
        refine AX.seq (AX.pblock (AX.drw ?_))
        cases hx : warS E k i j with
        | true =>
          rw [hx] at nij hval
          simp [weftref07_Reach.r19, hjn, hj1, hc2, hi1, hc, hk1, r1, r2, hr, hrk, q1, q2, q3, s1, s2, s3, nij, nkj]
          rw [bI_set]
          refine AX.reg ?_
          simp [weftref07_Reach.r20, succ_of_lt hjn (show n ≤ 9223372036854775807 by omega)]
          refine ⟨n - (j + 1), by omega, _, _, .refl _ _, j + 1, by omega, rfl, ?_, rfl⟩
          rw [wCell_succ, hval]
          exact r4 i hc2 _
        | false =>
          rw [hx] at nij hval
          simp [weftref07_Reach.r19, hjn, hj1, hc2, hi1, hc, hk1, r1, r2, hr, hrk, q1, q2, q3, s1, s2, s3, nij, nkj]
          rw [bI_set]
          refine AX.reg ?_
          simp [weftref07_Reach.r20, succ_of_lt hjn (show n ≤ 9223372036854775807 by omega)]
          refine ⟨n - (j + 1), by omega, _, _, .refl _ _, j + 1, by omega, rfl, ?_, rfl⟩
          rw [wCell_succ, hval]
          exact r4 i hc2 _
      · simp
        refine AX.reg ?_
        simp [weftref07_Reach.r21, succ_of_lt hc2 (show n ≤ 9223372036854775807 by omega)]
        refine ⟨n - (i + 1), by omega, _, _, .refl _ _, i + 1, by omega, rfl, A.congr fun x y hx hy => ?_, rfl⟩
        simp only [wRow, wCell]
        by_cases h1 : x < i
        · rw [if_pos (by omega), if_pos (.inl h1)]
        · by_cases h2 : x = i
          · rw [if_pos (by omega), h2]
            by_cases h3 : y < j
            · rw [if_pos (.inr ⟨rfl, h3⟩)]
            · rw [if_neg (by omega)]
              have : warS E k i k = false := by
                cases hw : warS E k i k with
                | false => rfl
                | true => rw [hw] at h; simp at h; omega
              simp [warS, this]
          · rw [if_neg (by omega), if_neg (by omega)]
    simp at hc2
    have e : i = n := by omega
    rw [e] at A
    simp
    refine AX.reg ?_
    simp [weftref07_Reach.r22, succ_of_lt hc (show n ≤ 9223372036854775807 by omega)]
    refine ⟨n - (k + 1), by omega, _, _, .refl _ _, k + 1, by omega, rfl, A.congr fun x y hx hy => by simp only [wRow]; rw [if_pos hx], rfl⟩
  simp at hc
  have e : k = n := by omega
  rw [e] at A
  simp
  refine AX.seq (AX.reg ?_)
  simp [weftref07_Reach.r23]
  refine AX.ret ?_
  simp
  exact ⟨A.ext, A.frz⟩
end Go.Proofs.YtggjaoibcfgofaaGreatDoor
namespace Go.Proofs.YtggjaoibcfgofaaGreatDoor
open Am C
set_option linter.unusedSimpArgs false
set_option linter.unusedVariables false
def FrInv (n : Nat) (M : Nat → Nat → Bool) (D : Nat → Bool) (i id : Nat) (X : Hp) (m : Nat) (F : Fr) (Y : Hp) : Prop :=
  ∃ j, j ≤ n ∧ m = n - j ∧ (∀ x, x < j → M i x = true → M x i = false → D x = true) ∧ Y = X ∧ F = [(0, bmV n M), (1, .sl (some (id, 0, n)) n 1), (2, .i .i64 i), (7, .i .i64 j)]
theorem free07_ok (n : Nat) (M : Nat → Nat → Bool) (D : Nat → Bool) (i id md : Nat) (X : Hp) (hn : n ≤ 20000) (hi : i < n) (hm : md ≤ n) (hg : X.get id = some (.cells (bI D n) md)) :
    AC Tryz.prog n_weftref07_free [bmV n M, .sl (some (id, 0, n)) n 1, .i .i64 (i : Nat)] X (fun v X' => v = .b (freeB n M D i) ∧ X' = X) := by
  refine AC.code weftref07_free.at weftref07_free.ok ?_
  simp only [weftref07_free]
  refine AX.seq (AX.reg ?_)
  simp [weftref07_free.r0]
  refine AX.seq (AX.seq (AX.reg ?_))
  simp [weftref07_free.r1]
  refine AX.pblock (AX.loop (FrInv n M D i id X) n ⟨_, _, .refl _ _, 0, by omega, by omega, fun x hx => by omega, rfl, rfl⟩ ?_)
  rintro m F Y ⟨j, hj, rfl, hinv, rfl, rfl⟩
  simp only [weftref07_free.l0]
  refine AX.seq (AX.seq (AX.reg ?_))
  simp [weftref07_free.r2, bmV]
  refine AX.pcond rfl (fun hc => AX.skip ?_) (fun hc => AX.exit ?_)
  · simp at hc
    have hj1 : j + 1 ≤ n := hc
    have nd := bI_at D hc
    simp
    refine AX.seq (AX.pblock (AX.test (M i j && !M j i && !D j) [(0, bmV n M), (1, .sl (some (id, 0, n)) n 1), (2, .i .i64 i), (7, .i .i64 j), (37, .b (M i j && !M j i && !D j))] ?_ rfl (fun h => AX.seq (AX.reg ?_)) (fun h => AX.skip ?_)))
    · cases h1 : M i j <;> cases h2 : M j i <;> simp [weftref07_free.r3, hc, hj1, hi, h1, h2, bmV, hg, hm, nd]
    · simp [weftref07_free.r4]
      refine AX.ret ?_
      simp
      have : freeB n M D i ≠ true := fun hf => by
        rw [freeB_iff] at hf
        simp at h
        have := hf j hc h.1.1 h.1.2
        rw [h.2] at this; cases this
      simpa using this
    · simp
      refine AX.reg ?_
      simp [weftref07_free.r5, succ_of_lt hc (show n ≤ 9223372036854775807 by omega)]
      refine ⟨n - (j + 1), by omega, _, _, .refl _ _, j + 1, by omega, rfl, fun x hx h1 h2 => ?_, rfl, by simp [bmV]⟩
      by_cases e : x = j
      · subst e
        rw [h1, h2] at h
        simpa using h
      · exact hinv x (by omega) h1 h2
  simp at hc
  simp
  refine AX.seq (AX.reg ?_)
  simp [weftref07_free.r6]
  refine AX.ret ?_
  simp
  exact freeB_iff.2 fun x hx => hinv x (by omega)
structure PHp (H X : Hp) (n : Nat) (D : Nat → Bool) (out : List (List Nat)) (o : Option Nat) (v : V) : Prop where
  ext : H.Ext X
  lt : ∀ k blk, X.get k = some blk → k < X.next
  nx : H.next < X.next
  dn : ∃ m, m ≤ n ∧ X.get H.next = some (.cells (bI D n) m)
  out : Stk X 1 v o (out.map fun p => [ns p])
  o : ∀ k, o = some k → H.next < k
def RP0Inv (H : Hp) (n : Nat) (M : Nat → Nat → Bool) (m : Nat) (F : Fr) (X : Hp) : Prop :=
  ∃ t o v, t ≤ n ∧ m = n - t ∧ PHp H X n (inB' (rndS n M t)) (rndS n M t) o v ∧ F = [(5, bmV n M), (6, .sl (some (H.next, 0, n)) n 1), (7, v), (20, .i .i64 n), (21, .i .i64 t)]
def RP1Inv (H X : Hp) (n : Nat) (M : Nat → Nat → Bool) (t : Nat) (v : V) (m : Nat) (F : Fr) (Y : Hp) : Prop :=
  ∃ i, i ≤ n ∧ m = n - i ∧ (∀ x, x < i → (!inB' (rndS n M t) x && freeB n M (inB' (rndS n M t)) x) = false) ∧ Y = X ∧ F = [(5, bmV n M), (6, .sl (some (H.next, 0, n)) n 1), (7, v), (8, .i .i64 i), (20, .i .i64 n), (21, .i .i64 t)]
def clsTo (M : Nat → Nat → Bool) (i j : Nat) : List Nat := (List.range j).filter fun j => M i j && M j i
def RP2Inv (H : Hp) (n : Nat) (M : Nat → Nat → Bool) (t i : Nat) (o : Option Nat) (v : V) (m : Nat) (F : Fr) (Y : Hp) : Prop :=
  ∃ j oq w, j ≤ n ∧ m = n - j ∧ PHp H Y n (fun x => inB' (rndS n M t) x || (clsTo M i j).contains x) (rndS n M t) o v ∧ Stk Y 1 w oq (wE (clsTo M i j)) ∧ (∀ k, oq = some k → H.next < k ∧ o ≠ some k) ∧
    F = [(5, bmV n M), (6, .sl (some (H.next, 0, n)) n 1), (7, v), (8, .i .i64 i), (9, w), (10, .i .i64 j), (20, .i .i64 n), (21, .i .i64 t)]
theorem clsTo_len (M : Nat → Nat → Bool) (i j : Nat) : (clsTo M i j).length ≤ j := by
  have := List.length_filter_le (fun j => M i j && M j i) (List.range j)
  simpa [clsTo] using this
theorem RParts_ok (n : Nat) (E : List (Nat × Nat)) (hn : n ≤ 20000) (hE : E.length ≤ 1000000) (hb : ∀ e ∈ E, e.1 < n ∧ e.2 < n) (H : Hp) :
    AC Tryz.prog n_weftref07_Parts [.i .i64 (n : Nat), neV E] H (fun v H' => v = ppV (partsS n (warS E n)) ∧ H' = H) := by
  refine AC.codeP weftref07_Parts.at weftref07_Parts.ok (free_ppV _) fun hlt => ?_
  simp only [weftref07_Parts]
  refine AX.seq (AX.reg ?_)
  simp [weftref07_Parts.r0]
  refine AX.seq (AX.stp [(0, .i .i64 n), (1, neV E), (12, .b false)] ?_ ?_)
  · simp [weftref07_Parts.r1]
    exact hn
  refine AX.pcond (t := false) rfl (fun h => by simp at h) (fun _ => AX.skip ?_)
  simp
  refine AX.seq (AX.reg ?_)
  simp [weftref07_Parts.r3]
  refine AC.fix (War_ok n E hn hE hb H) ?_
  simp
  generalize warS E n = M
  refine AX.seq (AX.reg ?_)
  simp [weftref07_Parts.r4, bmV, repl, roomB]
  refine ⟨by omega, ?_⟩
  rw [bI_false]
  have R0 : PHp H (H.add (.cells (bI (fun _ => false) n) n)) n (inB' (rndS n M 0)) (rndS n M 0) none (.sl none 0 0) := ⟨.add hlt _, Hp.add_lt hlt _, by simp, ⟨n, Nat.le_refl _, by simp [bI, rndS, inB']⟩, ⟨by simp [rndS], 0, rfl⟩, fun k hk => (by cases hk)⟩
  generalize H.add _ = X0 at R0 ⊢
  refine AX.seq (AX.reg ?_)
  simp [weftref07_Parts.r5]
  refine AX.seq (AX.seq (AX.reg ?_))
  simp [weftref07_Parts.r6]
  refine AX.pblock (AX.loop (RP0Inv H n M) n ⟨_, _, .refl _ _, 0, none, _, by omega, by omega, R0, by simp [bmV]⟩ ?_)
  clear R0
  rintro m F X ⟨t, o, v, ht, rfl, R, rfl⟩
  simp only [weftref07_Parts.l0]
  refine AX.seq (AX.reg ?_)
  simp [weftref07_Parts.r7]
  refine AX.seq (AX.pcond rfl (fun hc => AX.skip ?_) (fun hc => AX.exit ?_))
  · simp at hc
    obtain ⟨md, pd, gd⟩ := R.dn
    simp
    refine AX.seq (AX.pblock (AX.seq (AX.reg ?_)))
    simp [weftref07_Parts.r8]
    refine AX.pblock (AX.loop (RP1Inv H X n M t v) n ⟨_, _, .refl _ _, 0, by omega, by omega, fun x hx => by omega, rfl, rfl⟩ ?_)
    rintro m F Y ⟨i, hi, rfl, hno, rfl, rfl⟩
    simp only [weftref07_Parts.l1]
    refine AX.seq (AX.seq (AX.reg ?_))
    simp [weftref07_Parts.r9, bmV]
    refine AX.pcond rfl (fun hc2 => AX.skip ?_) (fun hc2 => AX.exit ?_)
    · simp at hc2
      have hi1 : i + 1 ≤ n := hc2
      have nd := bI_at (inB' (rndS n M t)) hc2
      simp
      obtain ⟨tb, htb⟩ : ∃ tb, tb = (!inB' (rndS n M t) i && freeB n M (inB' (rndS n M t)) i) := ⟨_, rfl⟩
      refine AX.seq (AX.pblock (AX.test tb [(5, bmV n M), (6, .sl (some (H.next, 0, n)) n 1), (7, v), (8, .i .i64 i), (20, .i .i64 n), (21, .i .i64 t), (39, .b tb)] ?_ rfl (fun h => AX.seq (AX.reg ?_)) (fun h => AX.skip ?_)))
      · cases h1 : inB' (rndS n M t) i with
        | true => rw [h1] at nd; simp [weftref07_Parts.r10, hc2, hi1, gd, pd, nd, htb, h1, bmV]
        | false =>
          rw [h1] at nd
          simp [weftref07_Parts.r10, hc2, hi1, gd, pd, nd]
          refine AC.fix (free07_ok n M _ i H.next md Y hn hc2 pd gd) ?_
          simp [htb, h1, bmV]
      · rw [htb] at h
        simp at h
        obtain ⟨hd, hfr⟩ := h
        have hpick : pickS n M (inB' (rndS n M t)) = some i := by
          unfold pickS
          rw [List.find?_range_eq_some]
          exact ⟨by simp [hd, hfr], by simpa using hc2, fun x hx => by rw [hno x hx]; rfl⟩
        have hround : rndS n M (t + 1) = rndS n M t ++ [clsTo M i n] := by
          show roundS n M (rndS n M t) = _
          rw [roundS, hpick]; rfl
        simp [weftref07_Parts.r11]
        refine AX.seq (AX.seq (AX.reg ?_))
        simp [weftref07_Parts.r12]
        refine AX.pblock (AX.loop (RP2Inv H n M t i o v) n ⟨_, _, .refl _ _, 0, none, .sl none 0 0, by omega, by omega, by simpa [clsTo] using R, ⟨by simp [clsTo, wE], 0, rfl⟩, fun k hk => (by cases hk), rfl⟩ ?_)
        clear R gd pd nd
        rintro m F Z ⟨j, oq, w, hj, rfl, R, gp, hoq, rfl⟩
        simp only [weftref07_Parts.l2]
        refine AX.seq (AX.seq (AX.reg ?_))
        simp [weftref07_Parts.r13, bmV]
        refine AX.pcond rfl (fun hc3 => AX.skip ?_) (fun hc3 => AX.exit ?_)
        · simp at hc3
          have hj1 : j + 1 ≤ n := hc3
          have hcs : clsTo M i (j + 1) = if (M i j && M j i) = true then clsTo M i j ++ [j] else clsTo M i j := by
            simp only [clsTo, List.range_succ, List.filter_append]
            cases hM : (M i j && M j i) <;> simp [hM]
          simp
          refine AX.seq (AX.pblock (AX.test (M i j && M j i) [(5, bmV n M), (6, .sl (some (H.next, 0, n)) n 1), (7, v), (8, .i .i64 i), (9, w), (10, .i .i64 j), (20, .i .i64 n), (21, .i .i64 t), (61, .b (M i j && M j i))] ?_ rfl (fun h => AX.seq (AX.reg ?_)) (fun h => AX.skip ?_)))
          · cases h1 : M i j <;> simp [weftref07_Parts.r14, hc2, hi1, hc3, hj1, h1, bmV]
          · rw [if_pos h] at hcs
            obtain ⟨md, pd, gd⟩ := R.dn
            have hcl := clsTo_len M i j
            obtain ⟨w2, Z2, o2, e1, gp2, n2, l2, fr2, ho⟩ := gp.push (bytes := 8) R.lt (wE_len _) (by omega) (e := [.i .i64 (j : Nat)]) rfl rfl (by simp [wE, roomB]; omega)
            have ho2 : H.next < o2 ∧ o ≠ some o2 := by
              rcases ho with h | h
              · exact hoq _ h
              · have h1 := R.nx
                have h2 := R.out.next R.lt
                exact ⟨by omega, fun h3 => by have := h2 _ h3; omega⟩
            have gd2 := fr2 _ _ (fun h => by have := (hoq _ h).1; omega) gd
            simp [weftref07_Parts.r15, repl, -sAppend, e1]
            refine AX.reg ?_
            simp [weftref07_Parts.r16, gd2, pd, hc3, hj1]
            rw [bI_set]
            refine AX.reg ?_
            simp [weftref07_Parts.r17, succ_of_lt hc3 (show n ≤ 9223372036854775807 by omega)]
            refine ⟨n - (j + 1), by omega, _, _, .refl _ _, j + 1, some o2, w2, by omega, rfl, ⟨⟨by have := R.ext.1; simp; omega, fun k blk g => ?_⟩, Hp.upd_lt l2 (by have := R.nx; omega) _, by have := R.nx; simp; omega, ⟨n, Nat.le_refl _, ?_⟩, ?_, R.o⟩, ?_, fun k hk => by injection hk with hk; subst hk; exact ho2, by simp [bmV]⟩
            · have := hlt k blk g
              simp only [Hp.get_upd]; rw [if_neg (by omega)]
              exact fr2 k blk (fun h => by have := (hoq _ h).1; omega) (R.ext.2 k blk g)
            · simp only [Hp.get_upd, if_true]
              congr 2
              refine bI_congr fun x hx => ?_
              rw [hcs]
              simp only [upd]
              by_cases e : x = j
              · simp [e]
              · simp [e]
            · exact R.out.keep fun k blk hk g => by
                have := R.o k hk
                simp only [Hp.get_upd]; rw [if_neg (by omega)]
                exact fr2 k blk (fun h => (hoq _ h).2 hk) g
            · rw [hcs]
              have : wE (clsTo M i j ++ [j]) = wE (clsTo M i j) ++ [[.i .i64 (j : Nat)]] := by simp [wE]
              rw [this]
              exact gp2.keep fun k blk hk g => by
                injection hk with hk
                simp only [Hp.get_upd]; rw [if_neg (by omega)]; exact g
          · rw [h] at hcs
            simp at hcs
            simp
            refine AX.reg ?_
            simp [weftref07_Parts.r17, succ_of_lt hc3 (show n ≤ 9223372036854775807 by omega)]
            exact ⟨n - (j + 1), by omega, _, _, .refl _ _, j + 1, oq, w, by omega, rfl, by rw [hcs]; exact R, by rw [hcs]; exact gp, hoq, by simp [bmV]⟩
        simp at hc3
        have e : j = n := by omega
        rw [e] at R gp
        clear e hc3 hj
        simp
        have hfz := gp.frz (wE_len _) (fun k => oq = some k) (fun k hk => hk)
        refine AX.wk (Wk.freeze (fun k => oq = some k) (frzF_cons (.refl _) (frzF_cons (.refl _) (frzF_cons (.refl _) (frzF_cons hfz (frzF_cons (.refl _) (frzF_cons (.refl _) frzF_nil))))))) ?_
        rw [show V.fs (wE (clsTo M i n)) = ns (clsTo M i n) from rfl]
        have R2 : PHp H (Z.wo fun k => oq = some k) n (fun x => inB' (rndS n M t) x || (clsTo M i n).contains x) (rndS n M t) o v := by
          refine ⟨⟨R.ext.1, fun k blk g => ?_⟩, Hp.wo_lt R.lt _, R.nx, R.dn.imp fun m h => ⟨h.1, ?_⟩, R.out.keep fun k blk hk g => ?_, R.o⟩
          · have := hlt k blk g
            simp only [Hp.wo]; rw [if_neg (fun h => by have := (hoq _ h).1; omega)]; exact R.ext.2 k blk g
          · simp only [Hp.wo]; rw [if_neg (fun h => by have := (hoq _ h).1; omega)]; exact h.2
          · simp only [Hp.wo]; rw [if_neg (fun h => (hoq _ h).2 hk)]; exact g
        generalize (Z.wo fun k => oq = some k) = Z2 at R2 ⊢
        clear R gp hfz hoq
        have hrl := rndS_len n M t
        obtain ⟨v2, Z3, o2, e1, gs2, n2, l2, fr2, ho⟩ := R2.out.push (bytes := 24) R2.lt (fun e he => by obtain ⟨x, _, rfl⟩ := List.mem_map.1 he; rfl) (by omega) (e := [ns (clsTo M i n)]) rfl rfl (by simp [roomB]; omega)
        refine AX.seq (AX.reg ?_)
        have e1' : sAppend Z2 1 24 v (.fs [[.fs ((clsTo M i n).map fun n => [.i .i64 (n : Nat)])]]) = some (v2, Z3) := e1
        simp [weftref07_Parts.r18, repl, -sAppend, ns, e1']
        refine AX.exit ?_
        simp
        refine AX.reg ?_
        simp [weftref07_Parts.r20, succ_of_lt hc (show n ≤ 9223372036854775807 by omega)]
        refine ⟨n - (t + 1), by omega, _, _, .refl _ _, t + 1, some o2, v2, by omega, rfl, ⟨⟨by have := R2.ext.1; omega, fun k blk g => fr2 k blk (fun h => by have := R2.o _ h; have := hlt k blk g; omega) (R2.ext.2 k blk g)⟩, l2, by have := R2.nx; omega, R2.dn.imp fun m h => ⟨h.1, ?_⟩, ?_, fun k hk => ?_⟩, by simp [bmV]⟩
        · rw [fr2 _ _ (fun h => by have := R2.o _ h; omega) h.2, hround]
          congr 2
          refine bI_congr fun x hx => ?_
          simp [inB', Bool.or_comm]
        · rw [hround]
          have : (rndS n M t ++ [clsTo M i n]).map (fun p => [ns p]) = (rndS n M t).map (fun p => [ns p]) ++ [[ns (clsTo M i n)]] := by simp
          rw [this]
          exact gs2
        · injection hk with hk; subst hk
          rcases ho with h | h
          · exact R2.o _ h
          · have := R2.nx; omega
      · rw [htb] at h
        simp
        refine AX.reg ?_
        simp [weftref07_Parts.r19, succ_of_lt hc2 (show n ≤ 9223372036854775807 by omega)]
        refine ⟨n - (i + 1), by omega, _, _, .refl _ _, i + 1, by omega, rfl, fun x hx => ?_, rfl, by simp [bmV]⟩
        by_cases e : x = i
        · rw [e]; exact h
        · exact hno x (by omega)
    simp at hc2
    simp
    refine AX.reg ?_
    simp [weftref07_Parts.r20, succ_of_lt hc (show n ≤ 9223372036854775807 by omega)]
    have hround : rndS n M (t + 1) = rndS n M t := by
      show roundS n M (rndS n M t) = _
      have hp : pickS n M (inB' (rndS n M t)) = none := by
        unfold pickS
        rw [List.find?_eq_none]
        intro x hx
        rw [hno x (by simp at hx; omega)]; simp
      rw [roundS, hp]
    refine ⟨n - (t + 1), by omega, _, _, .refl _ _, t + 1, o, v, by omega, rfl, by rw [hround]; exact R, by simp [bmV]⟩
  simp at hc
  have e : t = n := by omega
  rw [e] at R
  simp
  refine AX.seq (AX.reg ?_)
  simp [weftref07_Parts.r21]
  refine AX.ret ?_
  simp
  refine ⟨R.ext, ?_⟩
  exact R.out.frz (fun e he => by obtain ⟨x, _, rfl⟩ := List.mem_map.1 he; rfl) (fun id => H.next ≤ id) (fun k hk => by have := R.o k hk; omega)
end Go.Proofs.YtggjaoibcfgofaaGreatDoor
namespace Go.Proofs.YtggjaoibcfgofaaGreatDoor
open Am
set_option linter.unusedSimpArgs false
set_option linter.unusedVariables false
theorem intoS_len_new {a : List Str} (ha : Rising a) {x : Str} (h : x ∉ a) : (intoS a x).length = a.length + 1 := by
  rw [intoS_pos ha, if_neg h]
  have := posS_le a x
  simp; omega
theorem rising_full {a b : List Str} (ha : Rising a) (hb : Rising b) (h : ∀ x ∈ a, x ∈ b) (hl : b.length ≤ a.length) : ∀ x ∈ b, x ∈ a := fun x hx => by
  refine Classical.byContradiction fun hn => ?_
  have h1 := rising_len (intoS_rising ha x) hb fun z hz => by
    rcases mem_intoS.1 hz with rfl | hz
    · exact hx
    · exact h z hz
  rw [intoS_len_new ha hn] at h1; omega
end Go.Proofs.YtggjaoibcfgofaaGreatDoor
