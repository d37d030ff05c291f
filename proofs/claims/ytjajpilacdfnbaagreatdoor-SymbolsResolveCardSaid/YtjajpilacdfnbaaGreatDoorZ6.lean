/- What the law SymbolsResolve alone needs: RSo, ROneM, ROne, RNum. -/
import Derived.Test.YtjajpilacdfnbaaGreatDoorZ5
namespace Go.Proofs.YtjajpilacdfnbaaGreatDoor
open Am C
set_option linter.unusedSimpArgs false
set_option linter.unusedVariables false
def SoI0 (a b : Ob) (H : Hp) (m : Nat) (F : Fr) (X : Hp) : Prop :=
  ∃ k, k ≤ a.marks.length ∧ m = a.marks.length - k ∧ a.marks.take k = b.marks.take k ∧ X = H ∧ F = [(2, .fp (y49 a) 0), (3, .fp (y49 b) 0), (5, .i .i64 k)]
theorem yi7 (a b : Ob) (ha : a.marks.length ≤ 140737488355328) (hb : b.marks.length ≤ 140737488355328) (H : Hp) : AC Tryz.prog y76 [.agg (y49 a), .agg (y49 b)] H (fun v H' => v = .b (decide (a = b)) ∧ H' = H) := by
  refine AC.code y1b.at y1b.ok ?_
  simp only [y1b]
  refine AX.sr ?_
  simp [y1b.r0, y49]
  obtain ⟨w, hw⟩ : ∃ w : Bool, w = decide (a.name ≠ b.name ∨ a.kinds ≠ b.kinds ∨ a.marks.length ≠ b.marks.length) := ⟨_, rfl⟩
  refine AX.seq (AX.seq (AX.join (F1 := [(2, .fp (y49 a) 0), (3, .fp (y49 b) 0), (26, .b w)]) (H1 := H) (AX.reg ?_) ?_))
  · by_cases h1 : a.name = b.name
    · by_cases h2 : a.kinds = b.kinds
      · simp [y1b.r1, y49, h1, h2, hw]
      · have h2' : (a.kinds == b.kinds) = false := by simpa using h2
        simp [y1b.r1, y49, h1, h2', hw, h2]
    · have h1' : (a.name == b.name) = false := by simpa using h1
      simp [y1b.r1, y49, h1', hw, h1]
  refine AX.pcond rfl (fun h1 => ?_) (fun h1 => AX.skip ?_)
  · subst h1
    have hw := of_decide_eq_true hw.symm
    have : a ≠ b := fun e => by subst e; simp at hw
    refine AX.sr ?_
    simp [y1b.r2]
    refine AX.ret ?_
    simp [this]
  subst h1
  have hw := of_decide_eq_false hw.symm
  have hw1 : a.name = b.name := Classical.byContradiction fun h => hw (.inl h)
  have hw2 : a.kinds = b.kinds := Classical.byContradiction fun h => hw (.inr (.inl h))
  have hw3 : a.marks.length = b.marks.length := Classical.byContradiction fun h => hw (.inr (.inr h))
  simp
  refine AX.seq (AX.seq (AX.reg ?_))
  simp [y1b.r3]
  refine AX.pblock (AX.loop (SoI0 a b H) a.marks.length ⟨_, _, .refl _ _, 0, by omega, by omega, by simp, rfl, by simp [y49]⟩ ?_)
  rintro m F Y ⟨k, hk, rfl, hf, rfl, rfl⟩
  simp only [y1b.l0]
  refine AX.seq (AX.seq (AX.join (F1 := [(2, .fp (y49 a) 0), (3, .fp (y49 b) 0), (5, .i .i64 k), (38, .b (decide (k < a.marks.length)))]) (H1 := Y) (AX.reg ?_) ?_))
  · by_cases h1 : k < a.marks.length
    · have : k < b.marks.length := by omega
      simp [y1b.r4, y49, h1, this]
    · simp [y1b.r4, y49, h1]
  refine AX.pcond rfl (fun hd => AX.skip ?_) (fun hd => AX.exit ?_)
  · simp at hd
    have hg : a.marks[k]? = some a.marks[k] := List.getElem?_eq_getElem hd
    have hd2 : k < b.marks.length := by omega
    have hg2 : b.marks[k]? = some b.marks[k] := List.getElem?_eq_getElem hd2
    have e1 : a.marks[k] = b.marks[k] → a.marks.take (k + 1) = b.marks.take (k + 1) := fun e => by rw [List.take_add_one, List.take_add_one, hg, hg2, hf, e]
    have e2 : a = b → a.marks[k] = b.marks[k] := fun e => by subst e; rfl
    generalize a.marks[k] = q1 at *
    generalize b.marks[k] = q2 at *
    simp
    refine AX.seq (AX.pblock (AX.seq (AX.drw ?_)))
    simp [y1b.r5, y49, hg, hg2, y7b, mk_eq]
    refine AX.pcond rfl (fun hb => ?_) (fun hb => AX.skip ?_)
    · simp at hb
      have : a ≠ b := fun e => hb (e2 e)
      refine AX.sr ?_
      simp [y1b.r6]
      refine AX.ret ?_
      simp [this]
    simp at hb
    simp
    refine AX.reg ?_
    simp [y1b.r7, y2o (i := k) (by omega)]
    exact ⟨a.marks.length - (k + 1), by omega, _, _, .refl _ _, k + 1, by omega, rfl, e1 hb, rfl, by simp [y49]⟩
  simp at hd
  rw [List.take_of_length_le hd, List.take_of_length_le (by omega)] at hf
  have hab : a = b := by
    obtain ⟨x1, x2, x3⟩ := a
    obtain ⟨y1, y2, y3⟩ := b
    simp at hw1 hw2 hf
    subst hw1; subst hw2; subst hf; rfl
  simp
  refine AX.sr ?_
  simp [y1b.r8]
  refine AX.ret ?_
  simp [hab]
end Go.Proofs.YtjajpilacdfnbaaGreatDoor
namespace Go.Proofs.YtjajpilacdfnbaaGreatDoor
open Am C
set_option linter.unusedSimpArgs false
set_option linter.unusedVariables false
theorem has_take {l : List Su} {i : Nat} (n : Str) (h : i < l.length) : y63 (l.take (i + 1)) n = y63 (l.take i) n ++ (match (ybi l[i].sys).find? (fun t => decide (thN t = n)) with | some t => [(l[i], t)] | none => []) := by
  rw [List.take_add_one, List.getElem?_eq_getElem h]
  unfold y63
  rw [List.filterMap_append]
  congr 1
  simp only [Option.toList_some, List.filterMap_cons, List.filterMap_nil]
  cases (ybi l[i].sys).find? fun t => decide (thN t = n) <;> rfl
theorem dif_app (Q : List (Su × Th)) (y x : Su × Th) : yh8 (Q ++ [y] ++ [x]) = (yh8 (Q ++ [y]) || decide (x.2 ≠ y.2)) := by
  rw [Bool.eq_iff_iff, Bool.or_eq_true]
  have key : ∀ P : List (Su × Th), yh8 P = true ↔ ∃ a ∈ P, ∃ b ∈ P, a.2 ≠ b.2 := fun P => by unfold yh8; simp
  rw [key, key, decide_eq_true_eq]
  constructor
  · rintro ⟨a, ha, b, hb, h⟩
    rcases List.mem_append.1 ha with ha1 | ha1
    · rcases List.mem_append.1 hb with hb1 | hb1
      · exact .inl ⟨a, ha1, b, hb1, h⟩
      · have hb2 : b = x := by simpa using hb1
        rw [hb2] at h
        by_cases e : a.2 = y.2
        · exact .inr fun k => h (by rw [e, k])
        · exact .inl ⟨a, ha1, y, by simp, e⟩
    · have ha2 : a = x := by simpa using ha1
      rw [ha2] at h
      rcases List.mem_append.1 hb with hb1 | hb1
      · by_cases e : b.2 = y.2
        · exact .inr fun k => h (by rw [e, k])
        · exact .inl ⟨b, hb1, y, by simp, e⟩
      · have hb2 : b = x := by simpa using hb1
        rw [hb2] at h; exact absurd rfl h
  · rintro (⟨a, ha, b, hb, h⟩ | h)
    · exact ⟨a, by simp at ha ⊢; rcases ha with h | h <;> simp [h], b, by simp at hb ⊢; rcases hb with h | h <;> simp [h], h⟩
    · exact ⟨x, by simp, y, by simp, h⟩
theorem prT_inj {s s' : Sy} (h : yee s = 0) (h' : yee s' = 0) {t t' : Th} (ht : t ∈ ybi s) (ht' : t' ∈ ybi s') : prT (some t) = prT (some t') ↔ t = t' := by
  have key : ∀ {s : Sy}, yee s = 0 → ∀ o, Sum.inl o ∈ ybi s → o ≠ ob0 := fun {s} h o ho e => by
    subst e
    rcases List.mem_append.1 ho with ho | ho
    · obtain ⟨x, hx, e⟩ := List.mem_map.1 ho
      injection e with e
      subst e
      obtain ⟨d, hd, _⟩ := ylz ((ydd h).2.2.2.1 _ hx)
      have : y7k ob0.name = none := by decide
      rw [this] at hd
      cases hd
    · obtain ⟨x, hx, e⟩ := List.mem_map.1 ho
      cases e
  cases t with
  | inl o =>
    cases t' with
    | inl o' => simp [prT]
    | inr f => simp only [prT, Prod.mk.injEq, reduceCtorEq, iff_false]; exact fun e => key h o ht e.1
  | inr f =>
    cases t' with
    | inl o => simp only [prT, Prod.mk.injEq, reduceCtorEq, iff_false]; exact fun e => key h' o ht' e.1.symm
    | inr f' => simp [prT]
structure OneH (H X : Hp) (a4 a7 a12 a13 : Nat) (n g : Str) (w u1 u2 u3 v1 v2 v3 : V) : Prop where
  ext : H.Ext X
  lt : ∀ id blk, X.get id = some blk → id < X.next
  g4 : X.get a4 = some (.cells [.s [], .s [], .sl none 0 0] 3)
  g7 : X.get a7 = some (.cells [.s n, .s g, w] 3)
  g12 : X.get a12 = some (.cells [u1, u2, u3] 3)
  g13 : X.get a13 = some (.cells [v1, v2, v3] 3)
  ne : a4 ≠ a7 ∧ a4 ≠ a12 ∧ a4 ≠ a13 ∧ a7 ≠ a12 ∧ a7 ≠ a13 ∧ a12 ≠ a13
  le : H.next ≤ a4 ∧ H.next ≤ a7 ∧ H.next ≤ a12 ∧ H.next ≤ a13
section
variable {H X : Hp} {a4 a7 a12 a13 : Nat} {n g : Str} {w u1 u2 u3 v1 v2 v3 : V}
theorem OneH.more (h : OneH H X a4 a7 a12 a13 n g w u1 u2 u3 v1 v2 v3) {Y : Hp} (e : X.Ext Y) (l : ∀ id blk, Y.get id = some blk → id < Y.next) : OneH H Y a4 a7 a12 a13 n g w u1 u2 u3 v1 v2 v3 :=
  ⟨h.ext.trans e, l, e.2 _ _ h.g4, e.2 _ _ h.g7, e.2 _ _ h.g12, e.2 _ _ h.g13, h.ne, h.le⟩
theorem OneH.set7 (h : OneH H X a4 a7 a12 a13 n g w u1 u2 u3 v1 v2 v3) (hl : ∀ id blk, H.get id = some blk → id < H.next) (g' : Str) (w' : V) : OneH H (X.upd a7 (.cells [.s n, .s g', w'] 3)) a4 a7 a12 a13 n g' w' u1 u2 u3 v1 v2 v3 :=
  ⟨h.ext.upd hl h.le.2.1 _, Hp.upd_lt h.lt (h.lt _ _ h.g7) _, by simp [h.ne.1, h.g4], by simp, by simp [Ne.symm h.ne.2.2.2.1, h.g12], by simp [Ne.symm h.ne.2.2.2.2.1, h.g13], h.ne, h.le⟩
theorem OneH.set12 (h : OneH H X a4 a7 a12 a13 n g w u1 u2 u3 v1 v2 v3) (hl : ∀ id blk, H.get id = some blk → id < H.next) (x1 x2 x3 : V) : OneH H (X.upd a12 (.cells [x1, x2, x3] 3)) a4 a7 a12 a13 n g w x1 x2 x3 v1 v2 v3 :=
  ⟨h.ext.upd hl h.le.2.2.1 _, Hp.upd_lt h.lt (h.lt _ _ h.g12) _, by simp [h.ne.2.1, h.g4], by simp [h.ne.2.2.2.1, h.g7], by simp, by simp [Ne.symm h.ne.2.2.2.2.2, h.g13], h.ne, h.le⟩
theorem OneH.set13 (h : OneH H X a4 a7 a12 a13 n g w u1 u2 u3 v1 v2 v3) (hl : ∀ id blk, H.get id = some blk → id < H.next) (x1 x2 x3 : V) : OneH H (X.upd a13 (.cells [x1, x2, x3] 3)) a4 a7 a12 a13 n g w u1 u2 u3 x1 x2 x3 :=
  ⟨h.ext.upd hl h.le.2.2.2 _, Hp.upd_lt h.lt (h.lt _ _ h.g13) _, by simp [h.ne.2.2.1, h.g4], by simp [h.ne.2.2.2.2.1, h.g7], by simp [h.ne.2.2.2.2.2, h.g12], by simp, h.ne, h.le⟩
end
theorem ylw {H : Hp} (hlt : ∀ id blk, H.get id = some blk → id < H.next) (n : Str) : OneH H (((((H.add (.cells [.s [], .s [], .sl none 0 0] 3)).add (.cells [.s [], .s [], .sl none 0 0] 3)).upd (H.next + 1) (.cells [.s n, .s [], .sl none 0 0] 3)).add (.cells [.s [], .s [], .sl none 0 0] 3)).add (.cells [.s [], .s [], .s []] 3))
    H.next (H.next + 1) (H.next + 1 + 1) (H.next + 1 + 1 + 1) n [] (.sl none 0 0) (.s []) (.s []) (.sl none 0 0) (.s []) (.s []) (.s []) := by
  have e1 := Hp.Ext.add hlt (.cells [.s [], .s [], .sl none 0 0] 3)
  have l1 := Hp.add_lt hlt (.cells [.s [], .s [], .sl none 0 0] 3)
  have e2 := e1.trans (Hp.Ext.add l1 (.cells [.s [], .s [], .sl none 0 0] 3))
  have l2 := Hp.add_lt l1 (.cells [.s [], .s [], .sl none 0 0] 3)
  have e3 := e2.upd hlt (k := H.next + 1) (by omega) (.cells [.s n, .s [], .sl none 0 0] 3)
  have l3 := Hp.upd_lt l2 (k := H.next + 1) (by simp) (.cells [.s n, .s [], .sl none 0 0] 3)
  have e4 := e3.trans (Hp.Ext.add l3 (.cells [.s [], .s [], .sl none 0 0] 3))
  have l4 := Hp.add_lt l3 (.cells [.s [], .s [], .sl none 0 0] 3)
  have e5 := e4.trans (Hp.Ext.add l4 (.cells [.s [], .s [], .s []] 3))
  have l5 := Hp.add_lt l4 (.cells [.s [], .s [], .s []] 3)
  exact ⟨e5, l5, by simp [show ¬ H.next = H.next + 1 + 1 by omega, show ¬ H.next = H.next + 1 + 1 + 1 by omega], by simp [show ¬ H.next + 1 = H.next + 1 + 1 + 1 by omega], by simp, by simp, by omega, by omega⟩
theorem ext4 {X : Hp} (hl : ∀ id blk, X.get id = some blk → id < X.next) (b1 b2 b3 b4 : Blk) : X.Ext ((((X.add b1).add b2).upd X.next b3).upd (X.next + 1) b4) ∧ (∀ id blk, ((((X.add b1).add b2).upd X.next b3).upd (X.next + 1) b4).get id = some blk → id < ((((X.add b1).add b2).upd X.next b3).upd (X.next + 1) b4).next) ∧
    ((((X.add b1).add b2).upd X.next b3).upd (X.next + 1) b4).get X.next = some b3 ∧ ((((X.add b1).add b2).upd X.next b3).upd (X.next + 1) b4).get (X.next + 1) = some b4 := by
  have e1 := Hp.Ext.add hl b1
  have l1 := Hp.add_lt hl b1
  have e2 := e1.trans (Hp.Ext.add l1 b2)
  have l2 := Hp.add_lt l1 b2
  have e3 := e2.upd hl (k := X.next) (by omega) b3
  have l3 := Hp.upd_lt l2 (k := X.next) (by simp; omega) b3
  have e4 := e3.upd hl (k := X.next + 1) (by omega) b4
  have l4 := Hp.upd_lt l3 (k := X.next + 1) (by simp) b4
  exact ⟨e4, l4, by simp, by simp⟩
theorem yfc {l : List Su} {n : Str} {x : Su × Th} (h : x ∈ y63 l n) : x.1 ∈ l ∧ x.2 ∈ ybi x.1.sys := by
  unfold y63 at h
  obtain ⟨s, hs, e⟩ := List.mem_filterMap.1 h
  obtain ⟨t, ht, rfl⟩ := Option.map_eq_some_iff.1 e
  exact ⟨hs, List.mem_of_find?_eq_some ht⟩
theorem ygf {s : Sy} (h : syS s) {t : Th} (ht : t ∈ ybi s) : (prT (some t)).1.marks.length ≤ 140737488355328 := by
  cases t with
  | inl o =>
    rcases List.mem_append.1 ht with h1 | h1
    · obtain ⟨x, hx, e⟩ := List.mem_map.1 h1
      injection e with e
      subst e
      exact (h.2.2.2.1 _ hx).2.2.1
    · obtain ⟨x, hx, e⟩ := List.mem_map.1 h1
      cases e
  | inr f => simp [prT, ob0]
def dfL (P : List (Su × Th)) (t : Th) : Bool := match P.getLast? with
  | some y => decide (t ≠ y.2)
  | none => false
theorem dif_last (P : List (Su × Th)) (s : Su) (t : Th) : yh8 (P ++ [(s, t)]) = (yh8 P || dfL P t) := by
  rcases List.eq_nil_or_concat P with rfl | ⟨Q, y, rfl⟩
  · simp [yh8, dfL]
  · rw [List.concat_eq_append, dif_app]; simp [dfL]
def WV (w : V) (L : List Str) : Prop := w = ss L ∨ (w = .sl none 0 0 ∧ L = [])
theorem WV.into {w : V} {L : List Str} (h : WV w L) (x : Str) (hl : L.length ≤ 1000000) (H : Hp) : AC Tryz.prog y5g [w, .s x] H (fun v H' => v = ss (y78 L x) ∧ H' = H) := by
  rcases h with rfl | ⟨rfl, rfl⟩
  · exact yfy L x hl H
  · refine AC.frz (fun _ => False) (args' := [ss [], .s x]) (by rw [Hp.wo_none]; exact yfy [] x (by simp) H) rfl fun j v v' h1 h2 => ?_
    match j, h1, h2 with
    | 0, h1, h2 => simp at h1 h2; subst h1; subst h2; exact .sl0 _
    | 1, h1, h2 => simp at h1 h2; subst h1; subst h2; exact .refl _
theorem WV.frz {w : V} {L : List Str} (h : WV w L) {H : Hp} {S : Nat → Prop} : Frz H S w (ss L) := by
  rcases h with rfl | ⟨rfl, rfl⟩
  · exact .refl _
  · exact .sl0 _
def OneI (l : List Su) (n : Str) (a4 a7 a12 a13 : Nat) (H : Hp) (m : Nat) (F : Fr) (X : Hp) : Prop :=
  ∃ i g w u1 u2 u3 v1 v2 v3 P, i ≤ l.length ∧ m = l.length - i ∧ P = y63 (l.take i) n ∧ g = y9j n P ∧ WV w (y9n n P) ∧ (∀ Q y, P = Q ++ [y] → [u1, u2, u3] = y49 (prT (some y.2)).1 ∧ [v1, v2, v3] = y6i (prT (some y.2)).2) ∧
    OneH H X a4 a7 a12 a13 n g w u1 u2 u3 v1 v2 v3 ∧
    F = [(0, .fs (l.map y3z)), (1, .s n), (4, .p (some (a4, 0, 3))), (7, .p (some (a7, 0, 3))), (8, .i .i64 (gvs n P).length), (9, .i .i64 P.length), (10, .b (decide (ows n P ≠ []))), (11, .b (!yh8 P)), (12, .p (some (a12, 0, 3))), (13, .p (some (a13, 0, 3))), (14, .i .i64 i)]
def oneV (l : List Su) (n : Str) : V :=
  if yex n (y63 l n) ≠ 0 then .tup [.agg (ycn ⟨[], [], []⟩), .b false, .i .i64 (yex n (y63 l n))] else .tup [.agg (ycn (yao l n)), .b (decide ((gvs n (y63 l n)).length = 1)), .i .i64 0]
end Go.Proofs.YtjajpilacdfnbaaGreatDoor
namespace Go.Proofs.YtjajpilacdfnbaaGreatDoor
open Am C
set_option linter.unusedSimpArgs false
set_option linter.unusedVariables false
set_option maxHeartbeats 4000000 in
theorem Rone_ok (l : List Su) (n : Str) (hl : l.length ≤ 8) (hs : ∀ s ∈ l, suS s) (he : ∀ s ∈ l, suE s = 0) (H : Hp) : AC Tryz.prog y8n [.fs (l.map y3z), .s n] H (fun v H' => v = oneV l n ∧ H' = H) := by
  refine AC.codeP y7.at y7.ok (by unfold oneV; split <;> simp [ycn, yao]) fun hlt => ?_
  simp only [y7]
  refine AX.sr ?_
  simp [y7.r0]
  refine AX.sr ?_
  simp [y7.r1]
  refine AX.sr ?_
  simp [y7.r2]
  refine AX.sr ?_
  simp [y7.r3]
  refine AX.sr ?_
  simp [y7.r4]
  refine AX.sr ?_
  simp [y7.r5]
  refine AX.seq (AX.seq (AX.reg ?_))
  simp [y7.r6]
  have S0 := ylw hlt n
  generalize ((((H.add (.cells [.s [], .s [], .sl none 0 0] 3)).add (.cells [.s [], .s [], .sl none 0 0] 3)).upd (H.next + 1) (.cells [.s n, .s [], .sl none 0 0] 3)).add (.cells [.s [], .s [], .sl none 0 0] 3)).add (.cells [.s [], .s [], .s []] 3) = X0 at *
  obtain ⟨a13, e13⟩ : ∃ a, a = H.next + 1 + 1 + 1 := ⟨_, rfl⟩
  rw [← e13] at S0 ⊢
  obtain ⟨a12, e12⟩ : ∃ a, a = H.next + 1 + 1 := ⟨_, rfl⟩
  rw [← e12] at S0 ⊢
  obtain ⟨a7, e7⟩ : ∃ a, a = H.next + 1 := ⟨_, rfl⟩
  rw [← e7] at S0 ⊢
  obtain ⟨a4, e4⟩ : ∃ a, a = H.next := ⟨_, rfl⟩
  rw [← e4] at S0
  rw [show (4, V.p (some (H.next, 0, 3))) = (4, V.p (some (a4, 0, 3))) by rw [e4]]
  clear e13 e12 e7 e4
  refine AX.pblock (AX.loop (OneI l n a4 a7 a12 a13 H) l.length ⟨_, _, .refl _ _, 0, [], .sl none 0 0, _, _, _, _, _, _, [], by omega, by omega, by simp [y63], rfl, .inr ⟨rfl, rfl⟩, by simp, S0, rfl⟩ ?_)
  rintro m F X ⟨i, g, w, u1, u2, u3, v1, v2, v3, P, hi, rfl, hP, rfl, hw, hlast, S, rfl⟩
  simp only [y7.l0]
  refine AX.seq (AX.seq (AX.reg ?_))
  simp [y7.r7]
  refine AX.pcond rfl (fun hd => AX.skip ?_) (fun hd => AX.exit ?_)
  · simp at hd
    have hg : l[i]? = some l[i] := List.getElem?_eq_getElem hd
    have hmem := List.getElem_mem hd
    have hsu := hs _ hmem
    have hsy := (yg6 (he _ hmem)).2.1
    have hdisj := (yg6 (he _ hmem)).2.2.2.2
    have hPt := has_take n hd
    rw [← hP] at hPt
    generalize l[i] = s at *
    have hin := Rin_ok s.sys n (ydd hsy).1 (ydd hsy).2.1 X
    have htm : ∀ t, (ybi s.sys).find? (fun t => decide (thN t = n)) = some t → t ∈ ybi s.sys := fun t h => List.mem_of_find?_eq_some h
    unfold inV at hin
    generalize (ybi s.sys).find? (fun t => decide (thN t = n)) = tf at *
    simp only at hin
    simp
    refine AX.seq (AX.pblock (AX.seq (AX.reg ?_)))
    simp [y7.r8, hg, y3z]
    refine AC.fix (by simpa [y53] using hin) ?_
    simp [y49, y6i]
    obtain ⟨hE, hL, g15, g16⟩ := ext4 S.lt (.cells [.s [], .s [], .sl none 0 0] 3) (.cells [.s [], .s [], .s []] 3) (.cells [.s (prT tf).1.name, .s (prT tf).1.kinds, .fs ((prT tf).1.marks.map y7b)] 3) (.cells [.s (prT tf).2.name, .s (prT tf).2.kinds, .s (prT tf).2.ret] 3)
    have n12 := S.lt _ _ S.g12
    have n13 := S.lt _ _ S.g13
    generalize ((((X.add (.cells [.s [], .s [], .sl none 0 0] 3)).add (.cells [.s [], .s [], .s []] 3)).upd X.next (.cells [.s (prT tf).1.name, .s (prT tf).1.kinds, .fs ((prT tf).1.marks.map y7b)] 3)).upd (X.next + 1) (.cells [.s (prT tf).2.name, .s (prT tf).2.kinds, .s (prT tf).2.ret] 3)) = Z at *
    have S1 := S.more hE hL
    obtain ⟨a16, e16⟩ : ∃ a, a = X.next + 1 := ⟨_, rfl⟩
    rw [← e16] at g16 ⊢
    obtain ⟨a15, e15⟩ : ∃ a, a = X.next := ⟨_, rfl⟩
    rw [← e15] at g15 ⊢
    have k1 : a15 ≠ a12 := by omega
    have k2 : a16 ≠ a12 := by omega
    have k3 : a16 ≠ a13 := by omega
    clear S hE hL e15 e16 n12 n13 hin
    cases tf with
    | none =>
      simp at hPt
      refine AX.seq (AX.seq (AX.reg ?_))
      simp [y7.r9]
      refine AX.pcond rfl (fun _ => AX.exit ?_) (fun h => by cases h)
      simp
      refine AX.reg ?_
      simp [y7.r23, y2o (i := i) (by omega)]
      exact ⟨l.length - (i + 1), by omega, _, _, .refl _ _, i + 1, y9j n P, w, u1, u2, u3, v1, v2, v3, P, by omega, rfl, hPt.symm, rfl, hw, hlast, S1, by simp [y3z]⟩
    | some t =>
      simp at hPt
      have htm := htm t rfl
      have hdf := dif_last P s t
      refine AX.seq (AX.seq (AX.reg ?_))
      simp [y7.r9]
      refine AX.pcond rfl (fun h => by cases h) (fun _ => AX.skip ?_)
      simp
      refine AX.sr ?_
      simp [y7.r10, hg, y3z]
      refine AC.fix (yc2 s.gives n (by have := hsu.2.1; show s.gives.length ≤ 9223372036854775807; omega) _) ?_
      simp [yf5]
      refine AX.sr ?_
      simp [y7.r11, hg, y3z]
      refine AC.fix (yc2 s.wants n (by have := hsu.2.2.1; show s.wants.length ≤ 9223372036854775807; omega) _) ?_
      simp [yf5]
      refine AX.seq (AX.join (F1 := [(0, .fs (l.map y3z)), (1, .s n), (4, .p (some (a4, 0, 3))), (7, .p (some (a7, 0, 3))), (8, .i .i64 (gvs n P).length), (9, .i .i64 P.length), (10, .b (decide (ows n P ≠ []))), (11, .b (!yh8 (P ++ [(s, t)]))), (12, .p (some (a12, 0, 3))), (13, .p (some (a13, 0, 3))), (14, .i .i64 i),
        (15, .p (some (a15, 0, 3))), (16, .p (some (a16, 0, 3))), (18, .b (decide (n ∈ s.gives))), (19, .b (decide (n ∈ s.wants)))]) (H1 := Z) ?_ ?_)
      · refine AX.seq (AX.join (F1 := [(0, .fs (l.map y3z)), (1, .s n), (4, .p (some (a4, 0, 3))), (7, .p (some (a7, 0, 3))), (8, .i .i64 (gvs n P).length), (9, .i .i64 P.length), (10, .b (decide (ows n P ≠ []))), (11, .b (!yh8 P)), (12, .p (some (a12, 0, 3))), (13, .p (some (a13, 0, 3))), (14, .i .i64 i),
          (15, .p (some (a15, 0, 3))), (16, .p (some (a16, 0, 3))), (18, .b (decide (n ∈ s.gives))), (19, .b (decide (n ∈ s.wants))), (69, .b (dfL P t))]) (H1 := Z) (AX.reg ?_) ?_)
        · rcases List.eq_nil_or_concat P with rfl | ⟨Q, y, hQ⟩
          · simp [y7.r12, dfL, y3z]
          · rw [List.concat_eq_append] at hQ
            obtain ⟨hu, hv⟩ := hlast Q y hQ
            have hym : y ∈ y63 (l.take i) n := by rw [← hP, hQ]; simp
            have hyl := List.mem_of_mem_take (yfc hym).1
            have hinj := prT_inj hsy (yg6 (he _ hyl)).2.1 htm (yfc hym).2
            have hso := yi7 (prT (some t)).1 (prT (some y.2)).1 (ygf hsu.2.2.2.2.2 htm) (ygf (hs _ hyl).2.2.2.2.2 (yfc hym).2) Z
            have hfu := fu_eq (prT (some t)).2 (prT (some y.2)).2
            have hdl : dfL P t = decide (t ≠ y.2) := by rw [hQ]; simp [dfL]
            have hPl : 0 < P.length := by rw [hQ]; simp
            simp only [y49, y6i] at hu hv hso hfu
            simp at hu hv
            obtain ⟨rfl, rfl, rfl⟩ := hu
            obtain ⟨rfl, rfl, rfl⟩ := hv
            simp [y7.r12, g15, g16, S1.g12, S1.g13, hPl]
            refine AC.fix hso ?_
            by_cases ho : (prT (some t)).1 = (prT (some y.2)).1
            · by_cases hq : (prT (some t)).2 = (prT (some y.2)).2
              · have hd' : dfL P t = false := by rw [hdl]; simp [hinj.1 (Prod.ext ho hq)]
                simp [ho, hq] at hfu
                simp [ho, g16, S1.g13, hfu, hd', hq, y3z]
              · have hd' : dfL P t = true := by rw [hdl]; simp; exact fun e => hq (by rw [e])
                simp [hq] at hfu
                simp [ho, g16, S1.g13, hfu, hd', hq, y3z]
            · have hd' : dfL P t = true := by rw [hdl]; simp; exact fun e => ho (by rw [e])
              simp [ho, hd', y3z]
        · refine AX.pcond rfl (fun h => AX.reg ?_) (fun h => AX.skip ?_)
          · simp [y7.r13, hdf, h]
          · simp [hdf, h]
      simp
      refine AX.sr ?_
      simp [y7.r14, g15, S1.g12]
      have S2 := S1.set12 hlt (.s (prT (some t)).1.name) (.s (prT (some t)).1.kinds) (.fs ((prT (some t)).1.marks.map y7b))
      have g16' : (Z.upd a12 (.cells [.s (prT (some t)).1.name, .s (prT (some t)).1.kinds, .fs ((prT (some t)).1.marks.map y7b)] 3)).get a16 = some (.cells [.s (prT (some t)).2.name, .s (prT (some t)).2.kinds, .s (prT (some t)).2.ret] 3) := by simp [k2, g16]
      generalize Z.upd a12 (.cells [.s (prT (some t)).1.name, .s (prT (some t)).1.kinds, .fs ((prT (some t)).1.marks.map y7b)] 3) = Z2 at *
      refine AX.sr ?_
      simp [y7.r15, g16', S2.g13]
      have S3 := S2.set13 hlt (.s (prT (some t)).2.name) (.s (prT (some t)).2.kinds) (.s (prT (some t)).2.ret)
      generalize Z2.upd a13 (.cells [.s (prT (some t)).2.name, .s (prT (some t)).2.kinds, .s (prT (some t)).2.ret] 3) = Z3 at *
      have hlast' : ∀ (Q : List (Su × Th)) y, P ++ [(s, t)] = Q ++ [y] → [V.s (prT (some t)).1.name, .s (prT (some t)).1.kinds, .fs ((prT (some t)).1.marks.map y7b)] = y49 (prT (some y.2)).1 ∧ [V.s (prT (some t)).2.name, .s (prT (some t)).2.kinds, .s (prT (some t)).2.ret] = y6i (prT (some y.2)).2 := fun Q y e => by
        obtain ⟨_, e2⟩ := List.append_inj' e rfl
        injection e2 with e2
        subst e2
        exact ⟨rfl, rfl⟩
      have hgl := (yc8 n P).1
      have hPl8 : P.length ≤ 8 := by rw [hP]; have := yd0 (l.take i) n; simp at this; omega
      refine AX.sr ?_
      simp [y7.r16, y2o (i := P.length) (by omega)]
      have hfin : ∀ (Z4 : Hp) (gv : Nat) (ow : Bool) (w' : V), gv = (gvs n (P ++ [(s, t)])).length → ow = decide (ows n (P ++ [(s, t)]) ≠ []) → WV w' (y9n n (P ++ [(s, t)])) →
          OneH H Z4 a4 a7 a12 a13 n (y9j n (P ++ [(s, t)])) w' (.s (prT (some t)).1.name) (.s (prT (some t)).1.kinds) (.fs ((prT (some t)).1.marks.map y7b)) (.s (prT (some t)).2.name) (.s (prT (some t)).2.kinds) (.s (prT (some t)).2.ret) →
          ∃ m', m' < l.length - i ∧ ∃ F' X', Wk [(0, .fs (l.map y3z)), (1, .s n), (4, .p (some (a4, 0, 3))), (7, .p (some (a7, 0, 3))), (8, .i .i64 gv), (9, .i .i64 (P.length + 1 : Nat)), (10, .b ow), (11, .b (!yh8 (P ++ [(s, t)]))), (12, .p (some (a12, 0, 3))), (13, .p (some (a13, 0, 3))), (14, .i .i64 (i + 1 : Nat))] Z4 F' X' ∧ OneI l n a4 a7 a12 a13 H m' F' X' := by
        rintro Z4 gv ow w' rfl rfl hw' S4
        exact ⟨l.length - (i + 1), by omega, _, _, .refl _ _, i + 1, y9j n (P ++ [(s, t)]), w', _, _, _, _, _, _, P ++ [(s, t)], by omega, rfl, hPt.symm, rfl, hw', hlast', S4, by simp⟩
      by_cases hgv : n ∈ s.gives
      · have hnw := hdisj n hgv
        have p1 : gvs n (P ++ [(s, t)]) = gvs n P ++ [s] := by rw [yfd]; simp [gvB, hgv]
        have p2 : wns n (P ++ [(s, t)]) = wns n P := by rw [yev]; simp [wnB, hgv]
        have p3 : ows n (P ++ [(s, t)]) = ows n P := by rw [yf4]; simp [owB, hgv]
        have p4 : y9j n (P ++ [(s, t)]) = s.name := by rw [yff]; simp [gvB, hgv]
        rw [p4] at hfin
        refine AX.seq (AX.seq (AX.reg ?_))
        simp [y7.r17, hgv, hnw]
        refine AX.pcond rfl (fun _ => ?_) (fun h => by cases h)
        refine AX.sr ?_
        simp [y7.r18, y2o (i := (gvs n P).length) (by omega)]
        refine AX.reg ?_
        simp [y7.r19, hg, y3z, S3.g7]
        have S4 := S3.set7 hlt s.name w
        generalize Z3.upd a7 (.cells [.s n, .s s.name, w] 3) = Z4 at *
        refine AX.seq (AX.seq (AX.reg ?_))
        simp [y7.r20]
        refine AX.pcond rfl (fun h => by cases h) (fun _ => AX.skip ?_)
        simp
        refine AX.reg ?_
        have := hfin Z4 ((gvs n P).length + 1) (decide (ows n P ≠ [])) w (by rw [p1]; simp) (by rw [p3]) (by unfold y9n; rw [p2]; exact hw) S4
        by_cases h10 : ows n P = []
        · simp [h10] at this
          simp [y7.r22, h10]
          refine AX.reg ?_
          simp [y7.r23, y2o (i := i) (by omega)]
          simpa [y3z] using this
        · simp [h10] at this
          simp [y7.r22, h10]
          refine AX.reg ?_
          simp [y7.r23, y2o (i := i) (by omega)]
          simpa [y3z] using this
      have p1 : gvs n (P ++ [(s, t)]) = gvs n P := by rw [yfd]; simp [gvB, hgv]
      have p4 : y9j n (P ++ [(s, t)]) = y9j n P := by rw [yff]; simp [gvB, hgv]
      rw [p4, p1] at hfin
      refine AX.seq (AX.seq (AX.reg ?_))
      simp [y7.r17, hgv]
      refine AX.pcond rfl (fun h => by cases h) (fun _ => AX.skip ?_)
      simp
      refine AX.seq (AX.seq (AX.reg ?_))
      simp [y7.r20]
      by_cases hwn : n ∈ s.wants
      · have p2 : y9n n (P ++ [(s, t)]) = y78 (y9n n P) s.name := by unfold y9n; rw [yev]; simp [wnB, hgv, hwn, y91]
        have p3 : ows n (P ++ [(s, t)]) = ows n P := by rw [yf4]; simp [owB, hwn]
        have hwl : (y9n n P).length ≤ 1000000 := by
          have h1 := y9d ((wns n P).map Su.name)
          have h2 := (yc8 n P).2.2
          simp at h1
          unfold y9n
          omega
        have hin2 := hw.into s.name hwl Z3
        simp [hwn]
        refine AX.pcond rfl (fun _ => AX.drw ?_) (fun h => by cases h)
        simp [y7.r21, hg, y3z, S3.g7]
        refine y3k _ (fun H2 => hw.into s.name hwl H2) ?_
        simp [S3.g7, ss]
        have S4 := S3.set7 hlt (y9j n P) (.fs ((y78 (y9n n P) s.name).map fun x => [V.s x]))
        generalize Z3.upd a7 (.cells [.s n, .s (y9j n P), .fs ((y78 (y9n n P) s.name).map fun x => [V.s x])] 3) = Z4 at *
        refine AX.reg ?_
        have := hfin Z4 (gvs n P).length (decide (ows n P ≠ [])) (.fs ((y78 (y9n n P) s.name).map fun x => [V.s x])) rfl (by rw [p3]) (by rw [p2]; exact .inl rfl) S4
        by_cases h10 : ows n P = []
        · simp [h10] at this
          simp [y7.r22, h10]
          refine AX.reg ?_
          simp [y7.r23, y2o (i := i) (by omega)]
          simpa [y3z] using this
        · simp [h10] at this
          simp [y7.r22, h10]
          refine AX.reg ?_
          simp [y7.r23, y2o (i := i) (by omega)]
          simpa [y3z] using this
      · have p2 : y9n n (P ++ [(s, t)]) = y9n n P := by unfold y9n; rw [yev]; simp [wnB, hwn]
        have p3 : decide (ows n (P ++ [(s, t)]) ≠ []) = true := by rw [yf4]; simp [owB, hgv, hwn]
        simp [hwn]
        refine AX.pcond rfl (fun h => by cases h) (fun _ => AX.skip ?_)
        simp
        refine AX.reg ?_
        have := hfin Z3 (gvs n P).length true w rfl p3.symm (by rw [p2]; exact hw) S3
        simp at this
        by_cases h10 : ows n P = []
        · simp [y7.r22, h10]
          refine AX.reg ?_
          simp [y7.r23, y2o (i := i) (by omega)]
          simpa [y3z] using this
        · simp [y7.r22, h10]
          refine AX.reg ?_
          simp [y7.r23, y2o (i := i) (by omega)]
          simpa [y3z] using this
  simp at hd
  rw [List.take_of_length_le hd] at hP
  subst hP
  have hwn0 : y9n n (y63 l n) = [] ↔ wns n (y63 l n) = [] := by
    unfold y9n
    constructor
    · intro h
      cases hh : wns n (y63 l n) with
      | nil => rfl
      | cons a r =>
        have : a.name ∈ y3y ((wns n (y63 l n)).map Su.name) := y7y.2 (by rw [hh]; simp)
        rw [h] at this; cases this
    · intro h; rw [h]; rfl
  have hret0 : ∀ (e : Int) (X2 : Hp), H.Ext X2 → yex n (y63 l n) = e → e ≠ 0 → H.Ext X2 ∧ Frz X2 (fun id => H.next ≤ id) (.tup [.agg [.s [], .s [], .sl none 0 0], .b false, .i .i64 e]) (oneV l n) := fun e X2 hE h1 h2 => by
    refine ⟨hE, ?_⟩
    unfold oneV
    rw [if_pos (by rw [h1]; exact h2), h1]
    exact yd1 (yfg (.refl _) (.refl _) (.sl0 _)) (.refl _) (.refl _)
  have hse : yex n (y63 l n) = if 1 < (gvs n (y63 l n)).length ∨ (0 < (ows n (y63 l n)).length ∧ 1 < (y63 l n).length) then 8 else if yh8 (y63 l n) then 12 else if wns n (y63 l n) ≠ [] ∧ gvs n (y63 l n) = [] then 7 else 0 := rfl
  have hov : oneV l n = if yex n (y63 l n) ≠ 0 then .tup [.agg (ycn ⟨[], [], []⟩), .b false, .i .i64 (yex n (y63 l n))] else .tup [.agg (ycn (yao l n)), .b (decide ((gvs n (y63 l n)).length = 1)), .i .i64 0] := rfl
  have hws : y9n n (y63 l n) = (yao l n).wanted := rfl
  have hgs : y9j n (y63 l n) = (yao l n).giver := rfl
  have hE0 : ∀ b, H.Ext (X.upd a4 b) := fun b => S.ext.upd hlt S.le.1 _
  have hP8 := yd0 l n
  have hG8 := (yc8 n (y63 l n)).1
  generalize yex n (y63 l n) = e at *
  generalize y63 l n = P at *
  obtain ⟨c8, hc8⟩ : ∃ c, c = decide (1 < (gvs n P).length ∨ (0 < (ows n P).length ∧ 1 < P.length)) := ⟨_, rfl⟩
  obtain ⟨c7, hc7⟩ : ∃ c, c = decide (wns n P ≠ [] ∧ gvs n P = []) := ⟨_, rfl⟩
  simp
  refine AX.seq (AX.pblock (AX.seq (AX.join (F1 := [(4, .p (some (a4, 0, 3))), (7, .p (some (a7, 0, 3))), (8, .i .i64 (gvs n P).length), (11, .b (!yh8 P)), (102, .b c8)]) (H1 := X) (AX.reg ?_) ?_)))
  · by_cases h1 : 1 < (gvs n P).length
    · have : (1 : Int) < (gvs n P).length := by omega
      simp [y7.r24, this, hc8, h1]
    · have h1' : ¬ (1 : Int) < (gvs n P).length := by omega
      by_cases h2 : 1 < P.length
      · have : (1 : Int) < P.length := by omega
        by_cases h3 : ows n P = []
        · simp [y7.r24, this, h1', hc8, h1, h2, h3]
        · have := List.length_pos_iff.2 h3
          simp [y7.r24, this, h1', hc8, h1, h2, h3]
      · have : ¬ (1 : Int) < P.length := by omega
        simp [y7.r24, this, h1', hc8, h1, h2]
  refine AX.pcond rfl (fun h1 => ?_) (fun h1 => ?_)
  · subst h1
    rw [if_pos (of_decide_eq_true hc8.symm)] at hse
    refine AX.sr ?_
    simp [y7.r25, S.g4]
    refine AX.ret ?_
    simp
    exact hret0 8 _ (hE0 _) hse (by decide)
  subst h1
  rw [if_neg (of_decide_eq_false hc8.symm)] at hse
  refine AX.sr ?_
  simp [y7.r26]
  refine AX.pcond rfl (fun h1 => ?_) (fun h1 => ?_)
  · rw [if_pos h1] at hse
    refine AX.sr ?_
    simp [y7.r27, S.g4]
    refine AX.ret ?_
    simp
    exact hret0 12 _ (hE0 _) hse (by decide)
  rw [if_neg (by simp [h1])] at hse
  refine AX.seq (AX.join (F1 := [(4, .p (some (a4, 0, 3))), (7, .p (some (a7, 0, 3))), (8, .i .i64 (gvs n P).length), (117, .b c7)]) (H1 := X) (AX.reg ?_) ?_)
  · have hg0 : decide ((gvs n P).length = 0) = decide (gvs n P = []) := by simp
    rcases hw with rfl | ⟨rfl, hL⟩
    · by_cases h2 : wns n P = []
      · have h3 := hwn0.2 h2
        simp [y7.r28, S.g7, ss, h3, hc7, h2]
      · have h3 : 0 < (y9n n P).length := List.length_pos_iff.2 fun h => h2 (hwn0.1 h)
        have h4 : y9n n P ≠ [] := List.length_pos_iff.1 h3
        by_cases h5 : gvs n P = []
        · simp [y7.r28, S.g7, ss, h3, h4, hc7, h2, h5]
        · simp [y7.r28, S.g7, ss, h3, h4, hc7, h2, h5]
    · have h2 := hwn0.1 hL
      simp [y7.r28, S.g7, hc7, h2]
  refine AX.pcond rfl (fun h1 => ?_) (fun h1 => AX.skip ?_)
  · subst h1
    rw [if_pos (of_decide_eq_true hc7.symm)] at hse
    refine AX.sr ?_
    simp [y7.r29, S.g4]
    refine AX.ret ?_
    simp
    exact hret0 7 _ (hE0 _) hse (by decide)
  subst h1
  rw [if_neg (of_decide_eq_false hc7.symm)] at hse
  rw [if_neg (by simp [hse])] at hov
  simp
  refine AX.sr ?_
  have hfz : Frz (X.upd a4 (.cells [.s n, .s (y9j n P), w] 3)) (fun id => H.next ≤ id) (.tup [.agg [.s n, .s (y9j n P), w], .b (decide ((gvs n P).length = 1)), .i .i64 0]) (oneV l n) := by
    rw [hov]
    refine yd1 ?_ (.refl _) (.refl _)
    simp only [ycn, ← hws, ← hgs]
    exact yfg (.refl _) (.refl _) hw.frz
  rcases hw with rfl | ⟨rfl, hL⟩
  · simp [y7.r30, S.g4, S.g7, ss]
    refine AX.ret ?_
    simp
    exact ⟨hE0 _, by simpa [ss] using hfz⟩
  · simp [y7.r30, S.g4, S.g7]
    refine AX.ret ?_
    simp
    exact ⟨hE0 _, by simpa using hfz⟩
end Go.Proofs.YtjajpilacdfnbaaGreatDoor
namespace Go.Proofs.YtjajpilacdfnbaaGreatDoor
open Am C
set_option linter.unusedSimpArgs false
set_option linter.unusedVariables false
def NumSI (l : List Str) (x : Str) (id : Nat) (H : Hp) (m : Nat) (F : Fr) (H' : Hp) : Prop :=
  ∃ i, i ≤ l.length ∧ m = l.length - i ∧ x ∉ l.take i ∧ H' = H ∧ F = [(0, .sl (some (id, 0, l.length)) l.length 1), (1, .s x), (5, .i .i64 i)]
theorem yk6 (l : List Str) (x : Str) (hl : l.length ≤ 1000000) (id m0 : Nat) (H : Hp) (hm0 : m0 ≤ l.length) (hb0 : H.get id = some (.cells (l.map V.s) m0)) : AC Tryz.prog y46 [.sl (some (id, 0, l.length)) l.length 1, .s x] H (fun v H' => v = .i .i64 (ye3 l x) ∧ H' = H) := by
  refine AC.code y1d.at y1d.ok ?_
  simp only [y1d]
  refine AX.sr ?_
  simp [y1d.r0]
  refine AX.seq (AX.seq (AX.reg ?_))
  simp [y1d.r1]
  refine AX.pblock (AX.loop (NumSI l x id H) l.length ⟨_, _, .refl _ _, 0, by omega, by omega, by simp, rfl, rfl⟩ ?_)
  rintro m F H' ⟨i, hi, rfl, hx, rfl, rfl⟩
  simp only [y1d.l0]
  refine AX.seq (AX.seq (AX.reg ?_))
  simp [y1d.r2]
  refine AX.pcond rfl (fun hb => AX.skip ?_) (fun hb => AX.exit ?_)
  case refine_2 =>
    simp at hb
    have : l.take i = l := List.take_of_length_le hb
    rw [this] at hx
    simp
    refine AX.sr ?_
    simp [y1d.r6]
    refine AX.ret ?_
    have h1 := yar.2 hx
    have h2 := yf6 l x
    simp; omega
  simp at hb
  have hg : l[i]? = some l[i] := List.getElem?_eq_getElem hb
  have e1 := List.take_append_getElem hb
  have hdr : List.take 1 (List.drop i (l.map V.s)) = [.s l[i]] := by
    rw [List.drop_eq_getElem_cons (by simpa using hb)]; simp
  generalize l[i] = y at *
  simp
  refine AX.seq (AX.pblock (AX.seq (AX.reg ?_)))
  simp [y1d.r3, hb, hb0, hm0, Nat.succ_le_of_lt hb, hdr]
  refine AX.pcond rfl (fun hc => AX.seq (AX.reg ?_)) (fun hc => AX.skip ?_)
  · simp at hc
    subst hc
    simp [y1d.r4]
    refine AX.ret ?_
    simp
    exact (yhl hg hx).symm
  simp at hc
  simp
  refine AX.reg ?_
  simp [y1d.r5, y2o (i := i) (by omega)]
  exact ⟨l.length - (i + 1), by omega, _, _, .refl _ _, i + 1, by omega, rfl, by rw [← e1]; simp [hx, Ne.symm hc], rfl, rfl⟩
theorem yk7 {H X : Hp} {w : V} {L : List Str} (A : Acc H 1 w X (sc1 L)) (x : Str) (hl : L.length ≤ 1000000) : AC Tryz.prog y46 [w, .s x] X (fun v H' => v = .i .i64 (ye3 L x) ∧ H' = X) := by
  rcases A.sl with ⟨h0, z, rfl⟩ | ⟨id, m, h1, rfl, h2, h3⟩
  · have : L = [] := by simpa [sc1] using h0
    subst this
    refine AC.frz (fun _ => False) (args' := [ss [], .s x]) (by rw [Hp.wo_none]; exact yc2 [] x (by simp) X) rfl fun j v v' h1 h2 => ?_
    match j, h1, h2 with
    | 0, h1, h2 => simp at h1 h2; subst h1; subst h2; exact .sl0 _
    | 1, h1, h2 => simp at h1 h2; subst h1; subst h2; exact .refl _
  · have e1 : (sc1 L).length = L.length := by simp [sc1]
    have e2 : (sc1 L).flatten.length = L.length := by rw [y93]; simp
    rw [e1, e2] at *
    rw [y93] at h2
    exact yk6 L x hl id m X (by simpa [y93] using h3) h2
end Go.Proofs.YtjajpilacdfnbaaGreatDoor
