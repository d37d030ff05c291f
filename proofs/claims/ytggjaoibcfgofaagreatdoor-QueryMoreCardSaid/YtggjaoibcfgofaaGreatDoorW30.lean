/- Part 30 of the proof of the laws of the queries: QLaw1, OrdM2, QWorks, QLaws. -/
import Derived.Test.YtggjaoibcfgofaaGreatDoorW29
namespace Go.Proofs.YtggjaoibcfgofaaGreatDoor
open Am C
set_option linter.unusedSimpArgs false
set_option linter.unusedVariables false
def GtInv (l : List Str) (H : Hp) (m : Nat) (F : Fr) (X : Hp) : Prop :=
  ∃ i, i ≤ l.length ∧ i ≤ 60 ∧ m = l.length - i ∧ X = H ∧ F = [(0, ss l), (3, .i .i64 i)]
theorem GreatTexts_ok (l : List Str) (H : Hp) : AC Tryz.prog n_weftlaw21_GreatTexts [ss l] H (fun v H' => (∃ b, v = .b b ∧ (b = false → l.length ≤ 60)) ∧ H' = H) := by
  refine AC.code weftlaw21_GreatTexts.at weftlaw21_GreatTexts.ok ?_
  simp only [weftlaw21_GreatTexts]
  refine AX.seq (AX.reg ?_)
  simp [weftlaw21_GreatTexts.r0]
  refine AX.seq (AX.seq (AX.reg ?_))
  simp [weftlaw21_GreatTexts.r1]
  refine AX.pblock (AX.loop (GtInv l H) l.length ⟨_, _, .refl _ _, 0, by omega, by omega, by omega, rfl, rfl⟩ ?_)
  rintro m F X ⟨i, hi, hi60, rfl, rfl, rfl⟩
  simp only [weftlaw21_GreatTexts.l0]
  refine AX.seq (AX.seq (AX.reg ?_))
  simp [weftlaw21_GreatTexts.r2, ss]
  refine AX.pcond rfl (fun hc => AX.skip ?_) (fun hc => AX.exit ?_)
  · simp at hc
    simp
    obtain ⟨tb, htb⟩ : ∃ tb, tb = (decide (60 ≤ i) || decide (100 < l[i].length)) := ⟨_, rfl⟩
    refine AX.seq (AX.pblock (AX.test tb [(0, ss l), (3, .i .i64 i), (19, .b tb)] ?_ rfl (fun h => AX.seq (AX.reg ?_)) (fun h => AX.skip ?_)))
    · by_cases h60 : 60 ≤ i
      · simp [weftlaw21_GreatTexts.r3, h60, htb, ss]
      · simp [weftlaw21_GreatTexts.r3, h60, htb, ss, hc]
    · simp [weftlaw21_GreatTexts.r4]
      refine AX.ret ?_
      simp
    · rw [htb] at h
      simp at h
      simp
      refine AX.reg ?_
      simp [weftlaw21_GreatTexts.r5, i64_succ (show i ≤ 9223372036854775000 by omega)]
      exact ⟨l.length - (i + 1), by omega, _, _, .refl _ _, i + 1, by omega, by omega, rfl, rfl, by simp [ss]⟩
  simp at hc
  simp
  refine AX.seq (AX.reg ?_)
  simp [weftlaw21_GreatTexts.r6]
  refine AX.ret ?_
  simp
  omega
def GeInv (l : List (Str × Str)) (H : Hp) (m : Nat) (F : Fr) (X : Hp) : Prop :=
  ∃ i, i ≤ l.length ∧ i ≤ 40 ∧ m = l.length - i ∧ X = H ∧ F = [(0, edV l), (3, .i .i64 i)]
theorem greatEdges_ok (l : List (Str × Str)) (H : Hp) : AC Tryz.prog n_weftlaw32_greatEdges [edV l] H (fun v H' => (∃ b, v = .b b ∧ (b = false → l.length ≤ 40)) ∧ H' = H) := by
  refine AC.code weftlaw32_greatEdges.at weftlaw32_greatEdges.ok ?_
  simp only [weftlaw32_greatEdges]
  refine AX.seq (AX.reg ?_)
  simp [weftlaw32_greatEdges.r0]
  refine AX.seq (AX.seq (AX.reg ?_))
  simp [weftlaw32_greatEdges.r1]
  refine AX.pblock (AX.loop (GeInv l H) l.length ⟨_, _, .refl _ _, 0, by omega, by omega, by omega, rfl, rfl⟩ ?_)
  rintro m F X ⟨i, hi, hi60, rfl, rfl, rfl⟩
  simp only [weftlaw32_greatEdges.l0]
  refine AX.seq (AX.seq (AX.reg ?_))
  simp [weftlaw32_greatEdges.r2, edV]
  refine AX.pcond rfl (fun hc => AX.skip ?_) (fun hc => AX.exit ?_)
  · simp at hc
    simp
    obtain ⟨tb, htb⟩ : ∃ tb, tb = (decide (40 ≤ i) || decide (100 < l[i].1.length) || decide (100 < l[i].2.length)) := ⟨_, rfl⟩
    refine AX.seq (AX.pblock (AX.test tb [(0, edV l), (3, .i .i64 i), (29, .b tb)] ?_ rfl (fun h => AX.seq (AX.reg ?_)) (fun h => AX.skip ?_)))
    · by_cases h60 : 40 ≤ i
      · simp [weftlaw32_greatEdges.r3, h60, htb, edV]
      · by_cases h1 : 100 < l[i].1.length
        · simp [weftlaw32_greatEdges.r3, h60, htb, edV, hc, h1]
        · simp [weftlaw32_greatEdges.r3, h60, htb, edV, hc, h1]
    · simp [weftlaw32_greatEdges.r4]
      refine AX.ret ?_
      simp
    · rw [htb] at h
      simp at h
      simp
      refine AX.reg ?_
      simp [weftlaw32_greatEdges.r5, i64_succ (show i ≤ 9223372036854775000 by omega)]
      exact ⟨l.length - (i + 1), by omega, _, _, .refl _ _, i + 1, by omega, by omega, rfl, rfl, by simp [edV]⟩
  simp at hc
  simp
  refine AX.seq (AX.reg ?_)
  simp [weftlaw32_greatEdges.r6]
  refine AX.ret ?_
  simp
  omega
def EdInv (l : List (Str × Str)) (H : Hp) (m : Nat) (F : Fr) (X : Hp) : Prop :=
  ∃ i v, i ≤ l.length ∧ m = l.length - i ∧ Am.Acc H 2 v X ((l.take i).map fun e => [.s e.1, .s e.2]) ∧ F = [(0, edV l), (3, v), (4, .i .i64 i)]
@[simp] theorem free_edV (l : List (Str × Str)) : free (edV l) := free_fs fun e he v hv => by
  obtain ⟨x, _, rfl⟩ := List.mem_map.1 he
  simp at hv; rcases hv with rfl | rfl <;> exact free_s _
theorem edges_ok (l : List (Str × Str)) (hl : l.length ≤ 100000) (H : Hp) : AC Tryz.prog n_weftlaw32_edges [edV l] H (fun v H' => v = edV l ∧ H' = H) := by
  refine AC.codeP weftlaw32_edges.at weftlaw32_edges.ok (free_edV _) fun hlt => ?_
  simp only [weftlaw32_edges]
  refine AX.seq (AX.reg ?_)
  simp [weftlaw32_edges.r0]
  refine AX.seq (AX.reg ?_)
  simp [weftlaw32_edges.r1]
  refine AX.seq (AX.seq (AX.reg ?_))
  simp [weftlaw32_edges.r2]
  refine AX.pblock (AX.loop (EdInv l H) l.length ⟨_, _, .refl _ _, 0, .sl none 0 0, by omega, by omega, by simpa using Am.Acc.nil 2 0 (.refl _) hlt, rfl⟩ ?_)
  rintro m F X ⟨i, v, hi, rfl, A, rfl⟩
  simp only [weftlaw32_edges.l0]
  refine AX.seq (AX.seq (AX.reg ?_))
  simp [weftlaw32_edges.r3, edV]
  refine AX.pcond rfl (fun hc => AX.skip ?_) (fun hc => AX.exit ?_)
  · simp at hc
    obtain ⟨v1, H1, e1, A1⟩ := A.app (bytes := 32) (ys := [[.s l[i].1, .s l[i].2]]) hlt (by simp) (by omega) rfl (by simp [roomB]; omega)
    simp
    refine AX.seq (AX.pblock (AX.drw ?_))
    simp [weftlaw32_edges.r4, edV, hc, repl, -sAppend, e1]
    refine AX.reg ?_
    simp [weftlaw32_edges.r5, succ_of_lt hc (show l.length ≤ 9223372036854775807 by omega)]
    refine ⟨l.length - (i + 1), by omega, _, _, .refl _ _, i + 1, v1, by omega, rfl, ?_, by simp [edV]⟩
    rw [take_snoc hc, List.map_append]
    exact A1
  simp at hc
  have e : i = l.length := by omega
  rw [e, List.take_length] at A
  simp
  refine AX.seq (AX.reg ?_)
  simp [weftlaw32_edges.r6]
  refine AX.ret ?_
  simp
  exact ⟨A.ext, A.frz⟩
def smallF (l : List Fact) : Prop := l.length ≤ 140737488355328 ∧ ∀ f ∈ l, f.1.length ≤ 140737488355328 ∧ f.2.length ≤ 140737488355328 ∧ ∀ t ∈ f.2, t.length ≤ 140737488355328
def GfInv (l : List Fact) (H : Hp) (m : Nat) (F : Fr) (X : Hp) : Prop :=
  ∃ i n, i ≤ l.length ∧ m = l.length - i ∧ n ≤ 50000 ∧ (∀ (k : Nat) f, k < i → l[k]? = some f → f.2.length ≤ 5000) ∧ X = H ∧ F = [(0, fsV l), (3, .i .i64 (n : Nat)), (4, .i .i64 i)]
def GfIn (l : List Fact) (i n0 : Nat) (ts : List Str) (H : Hp) (m : Nat) (F : Fr) (X : Hp) : Prop :=
  ∃ k n, k ≤ ts.length ∧ k ≤ 500 ∧ m = ts.length - k ∧ n0 ≤ n ∧ n ≤ n0 + k * 140737488355328 ∧ X = H ∧ F = [(0, fsV l), (3, .i .i64 (n : Nat)), (4, .i .i64 i), (5, .i .i64 k)]
theorem GreatFacts_ok (l : List Fact) (hs : smallF l) (H : Hp) : AC Tryz.prog n_weftlaw17_GreatFacts [fsV l] H (fun v H' => (∃ b, v = .b b ∧ (b = false → l.length ≤ 100 ∧ ∀ f ∈ l, f.2.length ≤ 5000)) ∧ H' = H) := by
  refine AC.code weftlaw17_GreatFacts.at weftlaw17_GreatFacts.ok ?_
  simp only [weftlaw17_GreatFacts]
  refine AX.seq (AX.reg ?_)
  simp [weftlaw17_GreatFacts.r0]
  refine AX.seq (AX.seq (AX.reg ?_))
  simp [weftlaw17_GreatFacts.r1, fsV]
  by_cases hl : 100 < l.length
  · refine AX.pcond (t := true) (by simp [hl]) (fun _ => AX.seq (AX.reg ?_)) (fun h => by simp at h)
    simp [weftlaw17_GreatFacts.r2]
    refine AX.ret ?_
    simp
  refine AX.pcond (t := false) (by simp [hl]) (fun h => by simp at h) (fun _ => AX.skip ?_)
  simp
  refine AX.seq (AX.reg ?_)
  simp [weftlaw17_GreatFacts.r3]
  refine AX.seq (AX.seq (AX.reg ?_))
  simp [weftlaw17_GreatFacts.r4]
  refine AX.pblock (AX.loop (GfInv l H) l.length ⟨_, _, .refl _ _, 0, 0, by omega, by omega, by omega, fun k f h => by omega, rfl, by simp [fsV]⟩ ?_)
  rintro m F X ⟨i, n, hi, rfl, hn, hk, rfl, rfl⟩
  simp only [weftlaw17_GreatFacts.l0]
  refine AX.seq (AX.seq (AX.reg ?_))
  simp [weftlaw17_GreatFacts.r5, fsV]
  refine AX.pcond rfl (fun hc => AX.skip ?_) (fun hc => AX.exit ?_)
  · simp at hc
    obtain ⟨b1, b2, b3⟩ := hs.2 _ (List.getElem_mem hc)
    have hg : l[i]? = some l[i] := List.getElem?_eq_getElem hc
    have w1 : Go.IntKind.i64.wrap ((n : Int) + l[i].1.length) = ((n + l[i].1.length : Nat) : Int) := by rw [wrap_i64 (by omega) (by omega)]; omega
    have w2 : Go.IntKind.i64.wrap (10 * (l[i].2.length : Int)) = ((10 * l[i].2.length : Nat) : Int) := by rw [wrap_i64 (by omega) (by omega)]; omega
    have w3 : Go.IntKind.i64.wrap (((n : Nat) + l[i].1.length : Int) + 10 * l[i].2.length) = ((n + l[i].1.length + 10 * l[i].2.length : Nat) : Int) := by rw [wrap_i64 (by omega) (by omega)]; omega
    simp
    refine AX.seq (AX.pblock (AX.seq (AX.drw ?_)))
    simp [weftlaw17_GreatFacts.r6, fsV, hc, fcs, ss, w1, w2, w3]
    obtain ⟨n0, hn0⟩ : ∃ n0, n0 = n + l[i].1.length + 10 * l[i].2.length := ⟨_, rfl⟩
    rw [show ((n : Int) + l[i].1.length + 10 * l[i].2.length) = ((n0 : Nat) : Int) by omega]
    refine AX.seq (AX.seq (AX.reg ?_))
    simp [weftlaw17_GreatFacts.r7]
    refine AX.pblock (AX.loop (GfIn l i n0 l[i].2 X) l[i].2.length ⟨_, _, .refl _ _, 0, n0, by omega, by omega, by omega, by omega, by omega, rfl, by simp [fsV, fcs, ss]⟩ ?_)
    rintro m F Y ⟨k, n1, hkl, hk5, rfl, h0, h1, rfl, rfl⟩
    simp only [weftlaw17_GreatFacts.l1]
    refine AX.seq (AX.test (decide (k < l[i].2.length ∧ k < 500)) [(0, fsV l), (3, .i .i64 (n1 : Nat)), (4, .i .i64 i), (5, .i .i64 k), (42, .b (decide (k < l[i].2.length ∧ k < 500)))] ?_ rfl (fun h => AX.skip ?_) (fun h => AX.exit ?_))
    · by_cases hkk : k < l[i].2.length
      · simp [weftlaw17_GreatFacts.r8, fsV, hc, fcs, ss, hkk]
      · simp [weftlaw17_GreatFacts.r8, fsV, hc, fcs, ss, hkk]
    · simp at h
      have b4 := b3 _ (List.getElem_mem h.1)
      have w4 : Go.IntKind.i64.wrap ((n1 : Int) + (l[i].2[k]'h.1).length) = ((n1 + (l[i].2[k]'h.1).length : Nat) : Int) := by rw [wrap_i64 (by omega) (by omega)]; omega
      simp
      refine AX.seq (AX.pblock (AX.reg ?_))
      simp [weftlaw17_GreatFacts.r9, fsV, hc, fcs, ss, h.1, w4]
      rw [show ((n1 : Int) + (l[i].2[k]'h.1).length) = ((n1 + (l[i].2[k]'h.1).length : Nat) : Int) by omega]
      refine AX.reg ?_
      simp [weftlaw17_GreatFacts.r10, i64_succ (show k ≤ 9223372036854775000 by omega)]
      refine ⟨l[i].2.length - (k + 1), by omega, _, _, .refl _ _, k + 1, n1 + (l[i].2[k]'h.1).length, by omega, by omega, rfl, by omega, ?_, rfl, by simp [fsV, fcs, ss]⟩
      rw [Nat.succ_mul]; omega
    · simp
      refine AX.seq (AX.reg ?_)
      simp [weftlaw17_GreatFacts.r11]
      by_cases hbig : 50000 < n1
      · refine AX.pcond (t := true) (by simp; omega) (fun _ => AX.seq (AX.reg ?_)) (fun h => by simp at h)
        simp [weftlaw17_GreatFacts.r12]
        refine AX.ret ?_
        simp
      · refine AX.pcond (t := false) (by simp; omega) (fun h => by simp at h) (fun _ => AX.skip ?_)
        simp
        refine AX.reg ?_
        simp [weftlaw17_GreatFacts.r13, i64_succ (show i ≤ 9223372036854775000 by omega)]
        refine ⟨l.length - (i + 1), by omega, _, _, .refl _ _, i + 1, n1, by omega, rfl, by omega, fun k' f hk' hf' => ?_, rfl, by simp [fsV, fcs, ss]⟩
        by_cases e : k' = i
        · subst e
          rw [hg] at hf'; injection hf' with hf'; subst hf'; omega
        · exact hk k' f (by omega) hf'
  simp at hc
  have e : i = l.length := by omega
  rw [e] at hk
  simp
  refine AX.seq (AX.reg ?_)
  simp [weftlaw17_GreatFacts.r14]
  refine AX.ret ?_
  simp
  refine ⟨by omega, fun a b h => ?_⟩
  obtain ⟨k, hk'⟩ := List.mem_iff_getElem?.1 h
  exact hk k _ (List.getElem?_eq_some_iff.1 hk').1 hk'
end Go.Proofs.YtggjaoibcfgofaaGreatDoor
namespace Go.Proofs.YtggjaoibcfgofaaGreatDoor
open Am
set_option linter.unusedSimpArgs false
set_option linter.unusedVariables false
structure RdJ (n : Nat) (M : Nat → Nat → Bool) (out : List (List Nat)) : Prop where
  cls : ∀ p ∈ out, ∃ i, i < n ∧ p = classS n M i
  disj : ∀ (t s : Nat) p q x, out[t]? = some p → out[s]? = some q → x ∈ p → x ∈ q → t = s
  ord : ∀ (t : Nat) p x y, out[t]? = some p → x ∈ p → y < n → M x y = true → ∃ (s : Nat) (q : List Nat), s ≤ t ∧ out[s]? = some q ∧ y ∈ q
theorem get_snoc {α : Type} {l : List α} {a b : α} {t : Nat} (h : (l ++ [a])[t]? = some b) : (t < l.length ∧ l[t]? = some b) ∨ (t = l.length ∧ b = a) := by
  by_cases ht : t < l.length
  · rw [List.getElem?_append_left ht] at h; exact .inl ⟨ht, h⟩
  · rw [List.getElem?_append_right (by omega)] at h
    have := (List.getElem?_eq_some_iff.1 h).1
    simp at this
    have e : t = l.length := by omega
    subst e
    simp at h
    exact .inr ⟨rfl, h.symm⟩
theorem rdj {n : Nat} {M : Nat → Nat → Bool} {G : Nat → List Nat} (hM : ∀ a b, M a b = true ↔ Rch G a b) : ∀ t, RdJ n M (rndS n M t)
  | 0 => ⟨fun p h => by simp [rndS] at h, fun t s p q x h => by simp [rndS] at h, fun t p x y h => by simp [rndS] at h⟩
  | t + 1 => by
    have J := rdj (n := n) (M := M) hM t
    show RdJ n M (roundS n M (rndS n M t))
    generalize rndS n M t = out at J ⊢
    have tr : ∀ {a b c}, M a b = true → M b c = true → M a c = true := fun h k => (hM _ _).2 (((hM _ _).1 h).trans ((hM _ _).1 k))
    rw [roundS]
    cases hp : pickS n M (inB' out) with
    | none => exact J
    | some i =>
      simp only
      have hp' := hp
      unfold pickS at hp'
      rw [List.find?_range_eq_some] at hp'
      obtain ⟨h1, h2, _⟩ := hp'
      simp at h1 h2
      obtain ⟨hnb, hfr⟩ := h1
      rw [freeB_iff] at hfr
      have apart : ∀ p ∈ out, ∀ x ∈ p, x ∉ classS n M i := fun p hpo x hx hxc => by
        obtain ⟨j, hj, rfl⟩ := J.cls p hpo
        have a := mem_class.1 hx
        have b := mem_class.1 hxc
        have : i ∈ classS n M j := mem_class.2 ⟨h2, tr a.2.1 b.2.2, tr b.2.1 a.2.2⟩
        have := inB'_iff.2 ⟨_, hpo, this⟩
        rw [hnb] at this; cases this
      refine ⟨fun p hpo => ?_, fun t s p q x ht hs hx hy => ?_, fun t p x y ht hx hy hxy => ?_⟩
      · rcases List.mem_append.1 hpo with h | h
        · exact J.cls p h
        · simp at h; exact ⟨i, h2, h⟩
      · rcases get_snoc ht with ⟨t1, t2⟩ | ⟨t1, t2⟩ <;> rcases get_snoc hs with ⟨s1, s2⟩ | ⟨s1, s2⟩
        · exact J.disj t s p q x t2 s2 hx hy
        · rw [s2] at hy; exact absurd hy (apart p (List.mem_of_getElem? t2) x hx)
        · rw [t2] at hx; exact absurd hx (apart q (List.mem_of_getElem? s2) x hy)
        · omega
      · have lift : ∀ {s : Nat} {q}, out[s]? = some q → (out ++ [classS n M i])[s]? = some q := fun {s q} h => by
          rw [List.getElem?_append_left (List.getElem?_eq_some_iff.1 h).1]; exact h
        rcases get_snoc ht with ⟨t1, t2⟩ | ⟨t1, t2⟩
        · obtain ⟨s, q, a, b, c⟩ := J.ord t p x y t2 hx hy hxy
          exact ⟨s, q, a, lift b, c⟩
        · rw [t2] at hx
          have a := mem_class.1 hx
          by_cases hyx : M y x = true
          · exact ⟨t, p, Nat.le_refl _, ht, by rw [t2]; exact mem_class.2 ⟨hy, tr a.2.1 hxy, tr hyx a.2.2⟩⟩
          · have : M y i = false := by
              cases h : M y i with
              | false => rfl
              | true => exact absurd (tr h a.2.1) hyx
            obtain ⟨q, hq, hyq⟩ := inB'_iff.1 (hfr y hy (tr a.2.1 hxy) this)
            obtain ⟨s, hs⟩ := List.mem_iff_getElem?.1 hq
            exact ⟨s, q, by have := (List.getElem?_eq_some_iff.1 hs).1; omega, lift hs, hyq⟩
section
variable {l : List (Str × Str)}
theorem ordJ (l : List (Str × Str)) : RdJ (namesS l []).length (warS (numE (namesS l []) l) (namesS l []).length) (ordOf (namesS l []) (numE (namesS l []) l)) :=
  rdj (G := adj (numE (namesS l []) l)) (fun a b => warS_iff _ (numE_lt l [])) _
end
theorem reachS_len (l : List (Str × Str)) (fr : List Str) : (reachS l fr).length ≤ fr.length + 2 * l.length := by
  have := rising_len (reachS_rising l fr) (namesS_rising l fr) fun x hx => rch_names (mem_reachS.1 hx)
  have := namesS_len l fr
  omega
end Go.Proofs.YtggjaoibcfgofaaGreatDoor
namespace Go.Proofs.YtggjaoibcfgofaaGreatDoor
open Am C Go.Proofs
set_option linter.unusedSimpArgs false
set_option linter.unusedVariables false
set_option maxRecDepth 100000
def wk.r3 : List AStep := [
  ⟨some 10, none, .op (.bfz 2 1 [.s []] [(0, 1, .c (.s [103, 40, 41])), (1, 1, .c (.s [120, 43, 48]))])⟩,
  ⟨some 11, none, .op (.build [.s [], .sl none 0 0] [(0, 1, .c (.s [102, 46, 112])), (1, 1, .t 10)])⟩,
  ⟨some 12, none, .op (.bfz 1 1 [.s []] [(0, 1, .c (.s [120, 43, 48]))])⟩,
  ⟨some 13, none, .op (.build [.s [], .sl none 0 0] [(0, 1, .c (.s [102, 46, 113])), (1, 1, .t 12)])⟩,
  ⟨some 14, none, .op (.bfz 2 2 [.s [], .sl none 0 0] [(0, 2, .t 11), (2, 2, .t 13)])⟩,
  ⟨some 3, none, .op (.mov (.t 14))⟩]
def wk : AFunc := ⟨56, [.t 0], .seq (.post [] (.region weftlaw32_works.r0)) (.seq (.post [1] (.region weftlaw32_works.r1)) (.seq (.post [1, 2] (.region weftlaw32_works.r2)) (.seq (.post [1, 2, 3] (.region wk.r3)) (.seq (.post [0] (.region weftlaw32_works.r4)) (.ret)))))⟩
theorem wk.ok : okFunc Tryz.prog Tryz.f15 wk = true := by kernel_rfl
def wkE : List (Str × Str) := [([102], [103]), ([103], [104]), ([103], [102])]
def wkF : List Fact := [([102, 46, 112], [[103, 40, 41], [120, 43, 48]]), ([102, 46, 113], [[120, 43, 48]])]
theorem wk_order : orderS wkE = [[[104]], [[102], [103]]] := by kernel_rfl
theorem wk_reach : reachS wkE [[102]] = [[102], [103], [104]] := by kernel_rfl
theorem wk_alias : aliasB wkF [102, 46, 112] [102, 46, 113] = true := by kernel_rfl
theorem wk_callees : calleesS wkF [102, 46, 112] = [[103]] := by kernel_rfl
theorem wk_holders : holdersS wkF [120, 43, 48] = [[102, 46, 112], [102, 46, 113]] := by kernel_rfl
theorem works_ok (H : Hp) : AC Tryz.prog n_weftlaw32_works [] H (fun v H' => v = .b true ∧ H' = H) := by
  refine AC.code weftlaw32_works.at wk.ok ?_
  simp only [wk]
  refine AX.seq (AX.reg ?_)
  simp [weftlaw32_works.r0]
  have r3 : List.range 3 = [0, 1, 2] := rfl
  have r2 : List.range 2 = [0, 1] := rfl
  refine AX.seq (AX.reg ?_)
  simp [weftlaw32_works.r1, repl, r3]
  rw [show V.fs [[.s [102], .s [103]], [.s [103], .s [104]], [.s [103], .s [102]]] = edV wkE from rfl]
  refine AX.seq (AX.reg ?_)
  simp [weftlaw32_works.r2]
  refine (Order_ok wkE (by simp [wkE]) H).mono ?_
  rintro v H' ⟨rfl, rfl, _⟩
  rw [wk_order]
  simp
  refine AX.seq (AX.reg ?_)
  simp [wk.r3, repl, r2]
  rw [show V.fs [[.s [102, 46, 112], .fs [[.s [103, 40, 41]], [.s [120, 43, 48]]]], [.s [102, 46, 113], .fs [[.s [120, 43, 48]]]]] = fsV wkF from rfl]
  have a1 := Reach_ok wkE [[102]] (by simp [wkE]) (by simp) H'
  have a2 := Alias_ok wkF [102, 46, 112] [102, 46, 113] (by simp [wkF]) (by simp [wkF]) H'
  have a3 := Callees_ok wkF [102, 46, 112] (by simp [wkF]) (by simp [wkF]) (by simp [wkF]) H'
  have a4 := Holders_ok wkF [120, 43, 48] (by simp [wkF]) (by simp [wkF]) H'
  rw [wk_reach] at a1
  rw [wk_alias] at a2
  rw [wk_callees] at a3
  rw [wk_holders] at a4
  refine AX.seq (AX.reg ?_)
  simp [weftlaw32_works.r4, ssV, ss, repl, r2, r3]
  refine AC.fix a1 ?_
  simp [repl, r3, r2]
  refine AC.fix (Same_ok [[102], [103], [104]] [[102], [103], [104]] (by simp [N63]) H') ?_
  simp
  refine AC.fix a2 ?_
  simp
  refine AC.fix a3 ?_
  simp [repl, r2]
  refine AC.fix (Same_ok [[103]] [[103]] (by simp [N63]) H') ?_
  simp
  refine AC.fix a4 ?_
  simp [repl, r2]
  refine AC.fix (Same_ok [[102, 46, 112], [102, 46, 113]] [[102, 46, 112], [102, 46, 113]] (by simp [N63]) H') ?_
  simp
  refine AX.ret ?_
  simp
end Go.Proofs.YtggjaoibcfgofaaGreatDoor
namespace Go.Proofs.YtggjaoibcfgofaaGreatDoor
open Am C Go.Proofs
set_option linter.unusedSimpArgs false
set_option linter.unusedVariables false
theorem orderS_len (l : List (Str × Str)) : (orderS l).length ≤ 2 * l.length ∧ ∀ p ∈ orderS l, p.length ≤ 2 * l.length := by
  have hn := namesS_len l []
  simp at hn
  constructor
  · simp only [orderS, List.length_map]
    have := rndS_len (namesS l []).length (warS (numE (namesS l []) l) (namesS l []).length) (namesS l []).length
    unfold ordOf partsS; omega
  · intro p hp
    simp only [orderS, List.mem_map] at hp
    obtain ⟨q, hq, rfl⟩ := hp
    obtain ⟨i, _, rfl⟩ := (ordJ l).cls q hq
    have := classS_len (namesS l []).length (warS (numE (namesS l []) l) (namesS l []).length) i
    simp only [nmS, List.length_map]; omega
def ecs (l : List (Str × Str)) : List (List V) := l.map fun e => [.s e.1, .s e.2]
end Go.Proofs.YtggjaoibcfgofaaGreatDoor
