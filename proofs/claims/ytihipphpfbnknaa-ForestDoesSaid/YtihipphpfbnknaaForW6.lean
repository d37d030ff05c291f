/- The walk of forest.New. -/
import Derived.Test.YtihipphpfbnknaaForW5
namespace Go.Proofs.Ytihipphpfbnknaa
open Am C
set_option linter.unusedSimpArgs false
set_option linter.unusedVariables false

def newH (H : Hp) (n : Nat) (l : List Nat) : Hp := ((H.add (.cells (nc l) n)).add (.cells (nc l) n)).add (.cells [.sl (some (H.next, 0, n)) n 1, .sl (some (H.next + 1, 0, n)) n 1, .i .i64 n] 3)
def NewInv (H : Hp) (n : Nat) (m : Nat) (F : Fr) (H' : Hp) : Prop :=
  ∃ (i : Nat), i ≤ n ∧ m = n - i ∧ H' = newH H n (List.range i ++ List.replicate (n - i) 0) ∧ F = [(3, .p (some (H.next + 2, 0, 3))), (15, .i .i64 n), (16, .i .i64 i)]

theorem New_ok (H : Hp) (k : Int) : AC Try.prog n_forest_New [.i .i64 k] H (fun v H' => v = .p (some (H.next + 2, 0, 3)) ∧ H' = newH H (clampN k) (List.range (clampN k))) := by
  refine AC.code forest_New.at forest_New.ok ?_
  simp only [forest_New]
  refine AX.seq (AX.reg ?_)
  simp [forest_New.r0]
  refine AX.seq (AX.reg ?_)
  simp [forest_New.r1]
  have e : min (max k 0) 100000 = ((clampN k : Nat) : Int) := by unfold clampN; omega
  have hn : clampN k ≤ 100000 := by unfold clampN; omega
  generalize clampN k = n at *
  rw [e]
  refine AX.seq (AX.drwA ?_)
  have e8 : (n : Int) * 8 ≤ 140737488355328 := by omega
  have e8' : n * 8 ≤ 140737488355328 := by omega
  simp [forest_New.r2, roomB, e8, e8', repl, bare, isCell]
  rw [Hp.res_upd1 (H.add _) (H.next + 1) _ rfl]
  refine AX.seq (AX.seq (AX.reg ?_))
  simp [forest_New.r3]
  refine AX.pblock (AX.loop (NewInv H n) n ⟨_, _, .refl _ _, 0, by omega, by omega, by simp [newH, nc], rfl⟩ ?_)
  rintro m F H' ⟨i, hi, rfl, rfl, rfl⟩
  have hll : (List.range i ++ List.replicate (n - i) 0).length = n := by simp; omega
  simp only [forest_New.l0]
  refine AX.seq (AX.reg ?_)
  simp [forest_New.r4]
  refine AX.seq (AX.pcond rfl (fun hb => AX.skip ?_) (fun hb => AX.exit ?_))
  case refine_2 =>
    simp at hb
    have : i = n := by omega
    subst this
    simp
    refine AX.seq (AX.reg ?_)
    simp [forest_New.r8]
    refine AX.ret ?_
    simp
  simp at hb
  simp
  generalize hl : List.range i ++ List.replicate (n - i) 0 = l at *
  refine AX.seq (AX.pblock (AX.seq (AX.reg ?_)))
  simp [forest_New.r5]
  refine AX.drw ?_
  have d1 : H.next ≠ H.next + 1 + 1 := by omega
  have d2 : H.next + 1 ≠ H.next + 1 + 1 := by omega
  have d3 : H.next + 2 = H.next + 1 + 1 := rfl
  simp [forest_New.r6, newH, hb, hll, Nat.add_one_le_iff, nc_set, d1, d2]
  refine AX.reg ?_
  simp [forest_New.r7, i64_succ (show i ≤ 9223372036854775000 by omega)]
  refine ⟨n - (i + 1), by omega, _, _, .refl _ _, i + 1, by omega, rfl, ?_, by simp⟩
  rw [← range_rep_set n i hb, hl]
  refine Hp.ext' (fun j => ?_) rfl
  simp [newH]
  split
  · rename_i e; subst e; simp [d1, d2]
  · split
    · rename_i e; subst e; simp [d1]
    · rfl

/-- A forest of the program, as it lies, with the parts that it tells. -/
structure FS (H : Hp) (f u r n : Nat) (rep : List Nat) : Prop where
  ex : ∃ up ring, FH H f u r n up ring (cnt rep) ∧ FInv n up ring rep
  lt : f < H.next ∧ u < H.next ∧ r < H.next
theorem newH_FS (H : Hp) (k : Int) : FS (newH H (clampN k) (List.range (clampN k))) (H.next + 2) H.next (H.next + 1) (clampN k) (List.range (clampN k)) := by
  have hn : clampN k ≤ 100000 := by unfold clampN; omega
  generalize clampN k = n at *
  have d1 : H.next ≠ H.next + 1 + 1 := by omega
  have d2 : H.next + 1 ≠ H.next + 1 + 1 := by omega
  refine ⟨⟨List.range n, List.range n, ⟨?_, ?_, ?_, by omega, by omega, by omega, hn, by rw [cnt_new]; exact Nat.le_refl _⟩, .new n⟩, ?_⟩
  · simp [newH, cnt_new]
  · simp [newH, d1]
  · simp [newH, d2]
  · simp [newH]; omega
theorem FS.same {H H' : Hp} {f u r n : Nat} {rep : List Nat} (h : FS H f u r n rep) (hn : H.next ≤ H'.next) (h1 : H'.get f = H.get f) (h2 : H'.get u = H.get u) (h3 : H'.get r = H.get r) : FS H' f u r n rep := by
  obtain ⟨⟨up, ring, h, I⟩, l1, l2, l3⟩ := h
  exact ⟨⟨up, ring, ⟨h1 ▸ h.gf, h2 ▸ h.gu, h3 ▸ h.gr, h.fu, h.fr, h.ur, h.n5, h.pn⟩, I⟩, by omega, by omega, by omega⟩

/-- What a call of a forest's leaves: its own three blocks, and the rest as it was. -/
structure Left (H H' : Hp) (f u r n : Nat) (rep : List Nat) : Prop where
  fs : FS H' f u r n rep
  lt : H.next ≤ H'.next
  get : ∀ id, id < H.next → id ≠ f → id ≠ u → id ≠ r → H'.get id = H.get id

theorem Find_fs {H : Hp} {f u r n : Nat} {rep : List Nat} (h : FS H f u r n rep) (k : Int) : ∃ H', AC Try.prog n_forest_Forest_Find [.p (some (f, 0, 3)), .i .i64 k] H (fun v X => v = .i .i64 (findV rep k) ∧ X = H') ∧ Left H H' f u r n rep := by
  obtain ⟨⟨up, ring, h, I⟩, l⟩ := h
  refine ⟨_, Find_ok h I k, ⟨⟨_, _, h.upd _, upF_inv I k⟩, l⟩, Nat.le_refl _, fun id _ _ h2 _ => ?_⟩
  simp [h2]
theorem Join_fs {H : Hp} {f u r n : Nat} {rep : List Nat} (h : FS H f u r n rep) (a b : Int) : ∃ H', AC Try.prog n_forest_Forest_Join [.p (some (f, 0, 3)), .i .i64 a, .i .i64 b] H (fun v X => v = .b (joins rep a b) ∧ X = H') ∧ Left H H' f u r n (joinV rep a b) := by
  obtain ⟨⟨up, ring, h, I⟩, l⟩ := h
  have e := partsJ_cnt I a b
  refine ⟨_, Join_ok h I rfl a b, ⟨⟨_, _, e ▸ heapJ_FH h a b, heapJ_inv I a b⟩, l⟩, Nat.le_refl _, fun id _ h1 h2 h3 => heapJ_get h1 h2 h3⟩
theorem Parts_fs {H : Hp} {f u r n : Nat} {rep : List Nat} (h : FS H f u r n rep) : AC Try.prog n_forest_Forest_Parts [.p (some (f, 0, 3))] H (fun v X => v = .i .i64 (cnt rep : Nat) ∧ X = H) := by
  obtain ⟨⟨up, ring, h, I⟩, l⟩ := h
  exact Parts_ok h
theorem Members_fs {H : Hp} {f u r n : Nat} {rep : List Nat} (h : FS H f u r n rep) (k : Int) : ∃ H' v, AC Try.prog n_forest_Forest_Members [.p (some (f, 0, 3)), .i .i64 k] H (fun v' X => v' = v ∧ X = H') ∧ Left H H' f u r n rep ∧
    (findV rep k < 0 → v = .sl none 0 0) ∧ (¬ findV rep k < 0 → ∃ id m, H.next ≤ id ∧ id < H'.next ∧ v = .sl (some (id, 0, (memb rep (findV rep k) n).length)) (memb rep (findV rep k) n).length 1 ∧ H'.get id = some (.cells (nc (memb rep (findV rep k) n)) m) ∧ m ≤ (memb rep (findV rep k) n).length) := by
  obtain ⟨⟨up, ring, h, I⟩, l⟩ := h
  have hu := h.upd (upF n up k)
  have Iu := upF_inv I k
  refine ⟨_, _, Members_ok h I l k, ?_, fun hf => by simp [memV, hf], fun hf => ?_⟩
  · unfold memHeap
    split
    · exact ⟨⟨⟨_, _, hu, Iu⟩, l⟩, Nat.le_refl _, fun id _ _ h2 _ => by simp [h2]⟩
    · have g : ∀ id, id < H.next → id ≠ u → (((H.upd u (.cells (nc (upF n up k)) n)).add (.cells (bc ((List.range n).map fun j => decide ((gt rep j : Int) = findV rep k))) n)).add (.cells (nc (memb rep (findV rep k) n)) 0)).get id = H.get id := fun id hi hu => by
        simp [show id ≠ H.next + 1 by omega, show id ≠ H.next by omega, hu]
      refine ⟨FS.same (H := H.upd u (.cells (nc (upF n up k)) n)) ⟨⟨_, _, hu, Iu⟩, l⟩ (by simp; omega) ?_ ?_ ?_, by simp; omega, fun id hi _ h2 _ => g id hi h2⟩
      · have := l.1; simp [show f ≠ H.next + 1 by omega, show f ≠ H.next by omega]
      · have := l.2.1; simp [show u ≠ H.next + 1 by omega, show u ≠ H.next by omega]
      · have := l.2.2; simp [show r ≠ H.next + 1 by omega, show r ≠ H.next by omega]
  · refine ⟨H.next + 1, 0, by omega, by simp [memHeap, hf], by simp [memV, hf, listV], by simp [memHeap, hf], by omega⟩
theorem Members_nil (H : Hp) (k : Int) : AC Try.prog n_forest_Forest_Members [.p none, .i .i64 k] H (fun v H' => v = .sl none 0 0 ∧ H' = H) := by
  refine AC.code forest_Forest_Members.at forest_Forest_Members.ok ?_
  simp only [forest_Forest_Members]
  refine AX.seq (AX.reg ?_)
  simp [forest_Forest_Members.r0]
  refine AX.seq (AX.reg ?_)
  simp [forest_Forest_Members.r1]
  refine AC.fix (Find_nil H k) ?_
  simp
  refine AX.seq (AX.seq (AX.reg ?_))
  simp [forest_Forest_Members.r2]
  refine AX.pcond rfl (fun _ => AX.seq (AX.reg ?_)) (fun hb => by simp at hb)
  simp [forest_Forest_Members.r3]
  refine AX.ret ?_
  simp
end Go.Proofs.Ytihipphpfbnknaa
