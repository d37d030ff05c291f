/- Part 27 of the proof of the laws of the queries: S20c, S20d, S20e. -/
import Derived.Test.YtjajpilacdfnbaaGreatDoorX25
import Derived.Test.YtjajpilacdfnbaaGreatDoorX26
namespace Go.Proofs.YtjajpilacdfnbaaGreatDoor
open Am C
set_option linter.unusedSimpArgs false
set_option linter.unusedVariables false
theorem byObj_ok (a b : Ob) (H : Hp) : AC Tryz.prog y6w [.agg (y49 a), .agg (y49 b)] H (fun v H' => v = .i .i64 (y8i a.name b.name) ∧ H' = H) := by
  refine AC.code y3u.at y3u.ok ?_
  simp only [y3u]
  refine AX.sr ?_
  simp [y3u.r0, y49]
  refine AX.sr ?_
  simp [y3u.r1]
  refine AC.fix (y80 _ _ _) ?_
  simp
  refine AX.ret ?_
  simp
theorem byFn_ok (a b : Fu) (H : Hp) : AC Tryz.prog y7f [.agg (y6i a), .agg (y6i b)] H (fun v H' => v = .i .i64 (y8i a.name b.name) ∧ H' = H) := by
  refine AC.code y40.at y40.ok ?_
  simp only [y40]
  refine AX.sr ?_
  simp [y40.r0, y6i]
  refine AX.sr ?_
  simp [y40.r1]
  refine AC.fix (y80 _ _ _) ?_
  simp
  refine AX.ret ?_
  simp
theorem yh3 (f : Fu) (h1 : f.name.length ≤ 9223372036854775806) (h2 : f.kinds.length ≤ 9223372036854775807) (H : Hp) : AC Tryz.prog y5t [.agg (y6i f)] H (fun v H' => v = .i .i64 (fuE f) ∧ H' = H) := by
  refine AC.codeP y1u.at y1u.ok (by simp) fun hlt => ?_
  simp only [y1u]
  refine AX.sr ?_
  simp [y1u.r0, y6i]
  refine AX.sr ?_
  simp [y1u.r1]
  refine AC.fix (yc3 f.name h1 _) ?_
  cases hr : y7k f.name with
  | none =>
    simp [rdV, nv, Nd.cs, Nd.zero]
    refine AX.seq (AX.pblock (AX.seq (AX.reg ?_)))
    simp [y1u.r2]
    refine AX.pcond (t := true) rfl (fun _ => ?_) (fun h => by simp at h)
    refine AX.sr ?_
    simp [y1u.r3]
    refine AX.ret ?_
    simp [fuE, hr]
    exact ⟨y8j hlt _ _, .refl _⟩
  | some d =>
    simp [rdV, nv, Nd.cs]
    refine AX.seq (AX.pblock (AX.seq (AX.reg ?_)))
    by_cases hk : d.kind = 4
    · simp [y1u.r2, hk]
      refine AX.pcond (t := false) rfl (fun h => by simp at h) (fun _ => ?_)
      refine AX.sr ?_
      simp [y1u.r4]
      refine AC.fix (y9v f.kinds 6 h2 _) ?_
      have eB : (kpB f.kinds && decide ((f.kinds.length : Int) ≤ 6)) = decide (kpB f.kinds = true ∧ f.kinds.length ≤ 6) := by
        cases kpB f.kinds <;> simp
      rw [eB]
      by_cases hb : kpB f.kinds = true ∧ f.kinds.length ≤ 6
      · simp only [hb, decide_true]
        by_cases r1 : f.ret = [105]
        · simp [r1]
          refine AX.pcond (t := false) rfl (fun h => by simp at h) (fun _ => AX.skip ?_)
          simp
          refine AX.sr ?_
          simp [y1u.r6]
          refine AX.ret ?_
          simp [fuE, hr, hk, hb, retB, r1]
          exact ⟨y8j hlt _ _, .refl _⟩
        by_cases r2 : f.ret = [112]
        · simp [r1, r2]
          refine AX.pcond (t := false) rfl (fun h => by simp at h) (fun _ => AX.skip ?_)
          simp
          refine AX.sr ?_
          simp [y1u.r6]
          refine AX.ret ?_
          simp [fuE, hr, hk, hb, retB, r2]
          exact ⟨y8j hlt _ _, .refl _⟩
        by_cases r3 : f.ret = [118]
        · simp [r1, r2, r3]
          refine AX.pcond (t := false) rfl (fun h => by simp at h) (fun _ => AX.skip ?_)
          simp
          refine AX.sr ?_
          simp [y1u.r6]
          refine AX.ret ?_
          simp [fuE, hr, hk, hb, retB, r3]
          exact ⟨y8j hlt _ _, .refl _⟩
        simp [r1, r2, r3, show (f.ret == [105]) = false by simpa using r1, show (f.ret == [112]) = false by simpa using r2, show (f.ret == [118]) = false by simpa using r3]
        refine AX.pcond (t := true) rfl (fun _ => ?_) (fun h => by simp at h)
        refine AX.sr ?_
        simp [y1u.r5]
        refine AX.ret ?_
        simp [fuE, hr, hk, hb, retB, r1, r2, r3]
        exact ⟨y8j hlt _ _, .refl _⟩
      · simp only [hb, decide_false]
        simp
        refine AX.pcond (t := true) rfl (fun _ => ?_) (fun h => by simp at h)
        refine AX.sr ?_
        simp [y1u.r5]
        refine AX.ret ?_
        have : fuE f = 5 := by unfold fuE; rw [hr]; simp only [hk]; rw [if_neg (by simp), if_pos (.inl hb)]
        simp [this]
        exact ⟨y8j hlt _ _, .refl _⟩
    · simp [y1u.r2, hk]
      refine AX.pcond (t := true) rfl (fun _ => ?_) (fun h => by simp at h)
      refine AX.sr ?_
      simp [y1u.r3]
      refine AX.ret ?_
      simp [fuE, hr, hk]
      exact ⟨y8j hlt _ _, .refl _⟩
def CldInv (c : Cn) (l r : Str) (H : Hp) (m : Nat) (F : Fr) (X : Hp) : Prop :=
  ∃ i, i ≤ c.args.length ∧ m = c.args.length - i ∧ (∀ j, j < i → yi2 (yjo l r j) (c.args.getD j []) = true) ∧ X = H ∧ F = [(3, .s l), (4, .s r), (50, ss c.args), (51, .i .i64 c.args.length), (52, .i .i64 i)]
theorem yn6 (c : Cn) (ht : c.tag.length ≤ 9223372036854775807) (ha : c.args.length ≤ 9223372036854775807) (hx : ∀ a ∈ c.args, a.length ≤ 9223372036854775806) (H : Hp) : AC Tryz.prog y7e [.agg (y4l c)] H (fun v H' => v = .b (yal c) ∧ H' = H) := by
  refine AC.code y18.at y18.ok ?_
  simp only [y18]
  refine AX.sr ?_
  simp [y18.r0, y4l]
  refine AX.sr ?_
  simp [y18.r1]
  refine AC.fix (Cut_ok c.tag ht _) ?_
  rw [yeq]
  unfold cutV
  cases hs : yc6 c.tag with
  | none =>
    simp
    refine AX.seq (AX.seq (AX.reg ?_))
    simp [y18.r2]
    refine AX.pcond (t := true) rfl (fun _ => ?_) (fun h => by simp at h)
    refine AX.sr ?_
    simp [y18.r3]
    refine AX.ret ?_
    simp
  | some x =>
    obtain ⟨l, r⟩ := x
    have hll := yez hs
    simp
    refine AX.seq ?_
    refine AX.test (!(y9e l r && decide (c.k = 0) && decide (c.args.length = l.length + 1))) [(1, .fp (y4l c) 0), (3, .s l), (4, .s r), (48, .b (!(y9e l r && decide (c.k = 0) && decide (c.args.length = l.length + 1))))] ?_ rfl (fun hb => ?_) (fun hb => AX.skip ?_)
    · have hw : IntKind.i64.wrap ((l.length : Int) + 1) = (l.length : Int) + 1 := y3e (by omega) (by omega)
      have eB : (kpB l && decide ((l.length : Int) ≤ 6)) = decide (kpB l = true ∧ l.length ≤ 6) := by
        cases kpB l <;> simp
      by_cases hk : c.k = 0
      · simp [y18.r2, hk]
        refine AC.fix (y9v l 6 (by omega) _) ?_
        rw [eB]
        by_cases hq : kpB l = true ∧ l.length ≤ 6
        · by_cases r0 : r = []
          · by_cases hl : c.args.length = l.length + 1
            · simp [hq, r0, y9e, ss, hl, hw, y4l, hk]
            · simp [hq, r0, y9e, ss, hl, hw, y4l, hk, show ¬ (c.args.length : Int) = (l.length : Int) + 1 by omega]
          have q0 : (r == []) = false := by simpa using r0
          by_cases r1 : r = [105]
          · by_cases hl : c.args.length = l.length + 1
            · simp [hq, r1, y9e, ss, hl, hw, y4l, hk]
            · simp [hq, r1, y9e, ss, hl, hw, y4l, hk, show ¬ (c.args.length : Int) = (l.length : Int) + 1 by omega]
          have q1 : (r == [105]) = false := by simpa using r1
          by_cases r2 : r = [112]
          · by_cases hl : c.args.length = l.length + 1
            · simp [hq, r2, y9e, ss, hl, hw, y4l, hk]
            · simp [hq, r2, y9e, ss, hl, hw, y4l, hk, show ¬ (c.args.length : Int) = (l.length : Int) + 1 by omega]
          have q2 : (r == [112]) = false := by simpa using r2
          simp [hq, r0, r1, r2, q0, q1, q2, y9e, y4l, hk]
        · have hsf : y9e l r = false := by
            unfold y9e
            have : (kpB l && decide (l.length ≤ 6)) = false := by
              cases hkp : kpB l
              · rfl
              · simp only [hkp, true_and] at hq; simp [hq]
            rw [this]; rfl
          simp only [hq, decide_false]
          simp [hsf, y4l, hk]
      · simp [y18.r2, hk, y4l]
    · refine AX.sr ?_
      simp [y18.r3]
      refine AX.ret ?_
      simp at hb
      simp
      rcases hb with (h | h) | h <;> simp [h]
    simp at hb
    obtain ⟨⟨h1, h2⟩, h3⟩ := hb
    simp [h1, h2, h3]
    refine AX.seq (AX.seq (AX.reg ?_))
    simp [y18.r4, y4l, ss]
    refine AX.pblock (AX.loop (CldInv c l r H) c.args.length ⟨_, _, .refl _ _, 0, by omega, by omega, fun j hj => by omega, rfl, by simp [ss, h3]⟩ ?_)
    rintro m F X ⟨i, hi, rfl, hn, rfl, rfl⟩
    simp only [y18.l0]
    refine AX.sr ?_
    simp [y18.r5]
    refine AX.seq (AX.pcond rfl (fun hb => AX.skip ?_) (fun hb => AX.exit ?_))
    case refine_2 =>
      simp at hb
      have : yk1 l r c.args = true := List.all_eq_true.2 fun j hj => hn j (by have := List.mem_range.1 hj; omega)
      simp
      refine AX.sr ?_
      simp [y18.r13]
      refine AX.ret ?_
      simp [this]
    simp at hb
    simp
    refine AX.seq (AX.pblock (AX.seq (AX.reg ?_)))
    simp [y18.r6, ss, hb]
    refine AX.sr ?_
    simp [y18.r7]
    have hgd : c.args.getD i [] = c.args[i] := by simp [hb]
    have hxa := hx _ (List.getElem_mem hb)
    generalize c.args[i] = a at *
    refine AX.seq (AX.join (F1 := [(3, .s l), (4, .s r), (7, .s a), (8, .b (yjo l r i)), (50, ss c.args), (51, .i .i64 c.args.length), (52, .i .i64 i)]) (H1 := X) ?_ ?_)
    · refine AX.sr ?_
      simp [y18.r8]
      refine AX.pcond rfl (fun hc => ?_) (fun hc => AX.skip ?_)
      · simp at hc
        have hi1 : i - 1 < l.length := by omega
        have e1 : ((l[i - 1].toNat : Int) = 112) = (l[i - 1] = 112) := yl3 l[i - 1] 112 (by omega)
        have e0 : ((i : Int) - 1).toNat = i - 1 := by omega
        refine AX.reg ?_
        simp [y18.r9, show (0 : Int) ≤ (i : Int) - 1 by omega, show 1 ≤ i by omega, e0, hi1, e1, show IntKind.i64.wrap ((i : Int) - 1) = (i : Int) - 1 from y3e (by omega) (by omega), ss]
        simp [yjo, show ¬ i = 0 by omega, hi1]
      · simp at hc
        subst hc
        simp [yjo, ss]
    simp
    obtain ⟨p, hp⟩ : ∃ p, p = yjo l r i := ⟨_, rfl⟩
    rw [← hp]
    refine AX.test (!yi2 p a) [(3, .s l), (4, .s r), (50, ss c.args), (51, .i .i64 c.args.length), (52, .i .i64 i), (76, .b (!yi2 p a))] ?_ rfl (fun hc => ?_) (fun hc => AX.skip ?_)
    · by_cases h0 : a = []
      · simp [y18.r10, h0, yi2, ss]
      · have h0' : (a == []) = false := by simpa using h0
        cases p
        · simp [y18.r10, h0, h0', yi2, ss]
        · simp [y18.r10, h0, h0', yi2, ss]
          refine AC.fix (y72 a hxa _) ?_
          simp
    · refine AX.sr ?_
      simp [y18.r11]
      refine AX.ret ?_
      simp at hc
      simp [yjd hb (by rw [hgd, ← hp]; exact hc)]
    simp at hc
    simp
    refine AX.reg ?_
    simp [y18.r12, y2j hb ha]
    refine ⟨c.args.length - (i + 1), by omega, _, _, .refl _ _, i + 1, by omega, rfl, fun j hj => ?_, rfl, by simp⟩
    by_cases hj2 : j = i
    · subst hj2; rw [hgd, ← hp]; exact hc
    · exact hn j (by omega)
end Go.Proofs.YtjajpilacdfnbaaGreatDoor
namespace Go.Proofs.YtjajpilacdfnbaaGreatDoor
open Am C
set_option linter.unusedSimpArgs false
set_option linter.unusedVariables false
theorem ylc {s : Str} (h : ybj s = true) : y7c s = true := by
  unfold ybj at h
  unfold y7c
  cases hr : y7k s with
  | none => rw [hr] at h; cases h
  | some d =>
    rw [hr] at h
    have : d.kind = 3 := by simpa using h
    simp [this]
def cnG (c : Cn) : Bool := if c.op = 6 then yal c else if c.op = 5 then decide (c.args = []) && (decide (0 ≤ c.k) && (decide (c.k ≤ 64) && yh7 c.tag)) else decide (c.args = []) && (decide (c.k = 0) && decide (c.tag = []))
theorem cnE_eq2 (c : Cn) : cnE c = if c.op < 1 ∨ 6 < c.op then 5 else if cnB c = false then 11 else if cnG c then 0 else 3 := by
  rw [cnE_eq]
  unfold cnG yh7
  by_cases h6 : c.op = 6
  · simp [h6]
  by_cases h5 : c.op = 5
  · by_cases h0 : c.args = [] <;> simp [h5, h0, and_assoc]
  · by_cases h0 : c.args = [] <;> simp [h6, h5, h0]
theorem con_ok (c : Cn) (h1 : c.a.length ≤ 9223372036854775806) (h2 : c.b.length ≤ 9223372036854775806) (ht : c.tag.length ≤ 9223372036854775807) (ha : c.args.length ≤ 9223372036854775807) (hx : ∀ a ∈ c.args, a.length ≤ 9223372036854775806) (H : Hp) : AC Tryz.prog y83 [.agg (y4l c)] H (fun v H' => v = .i .i64 (cnE c) ∧ H' = H) := by
  refine AC.codeP ym.at ym.ok (by simp) fun hlt => ?_
  rw [cnE_eq2]
  simp only [ym]
  refine AX.sr ?_
  simp [ym.r0, y4l]
  refine AX.sr ?_
  simp [ym.r1]
  refine AX.cut (fun F X => F = [(1, .fp (y4l c) 0), (3, .b (cnB c))] ∧ (1 ≤ c.op ∧ c.op ≤ 6) ∧ H.Ext X) ?_ ?_
  · refine AX.sr ?_
    simp [ym.r2]
    refine AX.pblock (AX.seq (AX.reg ?_))
    by_cases o1 : c.op = 1
    · simp [ym.r3, o1]
      refine AX.pcond (t := true) rfl (fun _ => AX.reg ?_) (fun h => by simp at h)
      simp [ym.r4]
      refine AC.fix (y72 c.a h1 _) ?_
      cases hA : y7c c.a
      · simp
        exact ⟨_, _, .refl _ _, by simp [cnB, hA, y4l, o1], .refl _⟩
      · simp
        refine AC.fix (ynn c.b h2 _) ?_
        simp
        exact ⟨_, _, .refl _ _, by simp [cnB, hA, y4l, o1], .refl _⟩
    simp [ym.r3, o1]
    refine AX.pcond (t := false) rfl (fun h => by simp at h) (fun _ => ?_)
    by_cases o2 : c.op = 2
    · refine AX.seq ?_
      refine AX.sr ?_
      simp [ym.r5, o2]
      refine AX.pcond (t := true) rfl (fun _ => AX.skip ?_) (fun h => by simp at h)
      simp
      refine AX.pcond (t := true) rfl (fun _ => AX.reg ?_) (fun h => by simp at h)
      simp [ym.r9]
      refine AC.fix (y72 c.a h1 _) ?_
      cases hA : y7c c.a
      · simp
        exact ⟨_, _, .refl _ _, by simp [cnB, hA, y4l, o2], .refl _⟩
      · simp
        refine AC.fix (y72 c.b h2 _) ?_
        simp
        exact ⟨_, _, .refl _ _, by simp [cnB, hA, y4l, o2], .refl _⟩
    by_cases o3 : c.op = 3
    · refine AX.seq ?_
      refine AX.sr ?_
      simp [ym.r5, o3]
      refine AX.pcond (t := false) rfl (fun h => by simp at h) (fun _ => ?_)
      refine AX.sr ?_
      simp [ym.r6, o3]
      refine AX.pcond (t := true) rfl (fun _ => AX.skip ?_) (fun h => by simp at h)
      simp
      refine AX.pcond (t := true) rfl (fun _ => AX.reg ?_) (fun h => by simp at h)
      simp [ym.r9]
      refine AC.fix (y72 c.a h1 _) ?_
      cases hA : y7c c.a
      · simp
        exact ⟨_, _, .refl _ _, by simp [cnB, hA, y4l, o3], .refl _⟩
      · simp
        refine AC.fix (y72 c.b h2 _) ?_
        simp
        exact ⟨_, _, .refl _ _, by simp [cnB, hA, y4l, o3], .refl _⟩
    by_cases o4 : c.op = 4
    · refine AX.seq ?_
      refine AX.sr ?_
      simp [ym.r5, o4]
      refine AX.pcond (t := false) rfl (fun h => by simp at h) (fun _ => ?_)
      refine AX.sr ?_
      simp [ym.r6, o4]
      refine AX.pcond (t := false) rfl (fun h => by simp at h) (fun _ => ?_)
      refine AX.sr ?_
      simp [ym.r7, o4]
      refine AX.pcond (t := true) rfl (fun _ => AX.skip ?_) (fun h => by simp at h)
      simp
      refine AX.pcond (t := true) rfl (fun _ => AX.reg ?_) (fun h => by simp at h)
      simp [ym.r9]
      refine AC.fix (y72 c.a h1 _) ?_
      cases hA : y7c c.a
      · simp
        exact ⟨_, _, .refl _ _, by simp [cnB, hA, y4l, o4], .refl _⟩
      · simp
        refine AC.fix (y72 c.b h2 _) ?_
        simp
        exact ⟨_, _, .refl _ _, by simp [cnB, hA, y4l, o4], .refl _⟩
    refine AX.seq ?_
    refine AX.sr ?_
    simp [ym.r5, o2]
    refine AX.pcond (t := false) rfl (fun h => by simp at h) (fun _ => ?_)
    refine AX.sr ?_
    simp [ym.r6, o3]
    refine AX.pcond (t := false) rfl (fun h => by simp at h) (fun _ => ?_)
    refine AX.sr ?_
    simp [ym.r7, o4]
    refine AX.pcond (t := false) rfl (fun h => by simp at h) (fun _ => ?_)
    refine AX.reg ?_
    by_cases o5 : c.op = 5
    · simp [ym.r8, o5]
      refine AX.pcond (t := true) rfl (fun _ => AX.reg ?_) (fun h => by simp at h)
      simp [ym.r9]
      refine AC.fix (y72 c.a h1 _) ?_
      cases hA : y7c c.a
      · simp
        exact ⟨_, _, .refl _ _, by simp [cnB, hA, y4l, o5], .refl _⟩
      · simp
        refine AC.fix (y72 c.b h2 _) ?_
        simp
        exact ⟨_, _, .refl _ _, by simp [cnB, hA, y4l, o5], .refl _⟩
    simp [ym.r8, o5]
    refine AX.pcond (t := false) rfl (fun h => by simp at h) (fun _ => ?_)
    refine AX.sr ?_
    by_cases o6 : c.op = 6
    · simp [ym.r10, o6]
      refine AX.pcond (t := true) rfl (fun _ => ?_) (fun h => by simp at h)
      refine AX.sr ?_
      simp [ym.r11]
      refine AC.fix (yc3 c.a h1 _) ?_
      cases hr : y7k c.a with
      | none =>
        have hs : ybj c.a = false := by unfold ybj; rw [hr]
        simp [rdV, nv, Nd.cs, Nd.zero]
        refine AX.reg ?_
        simp [ym.r12]
        exact ⟨_, _, .refl _ _, by simp [cnB, o6, hs, y4l], y8j hlt _ _⟩
      | some d =>
        simp [rdV, nv, Nd.cs]
        refine AX.reg ?_
        by_cases hk : d.kind = 3
        · have hs : ybj c.a = true := by unfold ybj; rw [hr]; simp [hk]
          simp [ym.r12, hk]
          refine AC.fix (y72 c.b h2 _) ?_
          simp
          exact ⟨_, _, .refl _ _, by simp [cnB, o6, hs, ylc hs, y4l], y8j hlt _ _⟩
        · have hs : ybj c.a = false := by unfold ybj; rw [hr]; simp [hk]
          simp [ym.r12, hk]
          exact ⟨_, _, .refl _ _, by simp [cnB, o6, hs, y4l], y8j hlt _ _⟩
    simp [ym.r10, o6]
    refine AX.pcond (t := false) rfl (fun h => by simp at h) (fun _ => ?_)
    refine AX.sr ?_
    simp [ym.r13]
    refine AX.ret ?_
    have : c.op < 1 ∨ 6 < c.op := by omega
    simp [this]
    exact ⟨.refl _, .refl _⟩
  rintro F X ⟨rfl, hop, X1⟩
  have hop' : ¬ (c.op < 1 ∨ 6 < c.op) := by omega
  rw [if_neg hop']
  refine AX.seq (AX.seq (AX.reg ?_))
  simp [ym.r14]
  refine AX.pcond rfl (fun hb => ?_) (fun hb => AX.skip ?_)
  · simp at hb
    refine AX.sr ?_
    simp [ym.r15]
    refine AX.ret ?_
    simp [hb]
    exact ⟨X1, .refl _⟩
  simp at hb
  rw [if_neg (show ¬ cnB c = false by simp [hb])]
  simp
  refine AX.seq (AX.join (F1 := [(3, .b (cnG c))]) (H1 := X) ?_ ?_)
  · refine AX.sr ?_
    simp [ym.r16, y4l]
    refine AX.pblock (AX.seq (AX.reg ?_))
    by_cases h6 : c.op = 6
    · simp [ym.r17, h6]
      refine AX.pcond (t := true) rfl (fun _ => AX.reg ?_) (fun h => by simp at h)
      simp [ym.r18, h6]
      refine AC.fix (show AC Tryz.prog y7e [.agg [.i .i64 6, .s c.a, .s c.b, .i .i64 c.k, .s c.tag, ss c.args]] X (fun v H' => v = .b (yal c) ∧ H' = X) from by have := yn6 c ht ha hx X; unfold y4l at this; rwa [h6] at this) ?_
      simp [cnG, h6]
    simp [ym.r17, h6]
    refine AX.pcond (t := false) rfl (fun h => by simp at h) (fun _ => ?_)
    refine AX.sr ?_
    by_cases h5 : c.op = 5
    · simp [ym.r19, h5]
      refine AX.pcond (t := true) rfl (fun _ => AX.reg ?_) (fun h => by simp at h)
      by_cases h0 : c.args = []
      · by_cases k1 : 0 ≤ c.k
        · by_cases k2 : c.k ≤ 64
          · simp [ym.r20, ss, h0, k1, k2]
            refine AC.fix (ydc c.tag ht _) ?_
            simp [cnG, h5, h0, k1, k2]
          · simp [ym.r20, ss, h0, k1, k2, cnG, h5]
        · simp [ym.r20, ss, h0, k1, cnG, h5]
      · have : ¬ c.args.length = 0 := by simpa using h0
        simp [ym.r20, ss, h0, this, cnG, h5]
    simp [ym.r19, h5]
    refine AX.pcond (t := false) rfl (fun h => by simp at h) (fun _ => AX.reg ?_)
    by_cases h0 : c.args = []
    · by_cases k1 : c.k = 0
      · by_cases k2 : c.tag = []
        · simp [ym.r21, ss, h0, k1, k2, cnG, h5, h6]
        · simp [ym.r21, ss, h0, k1, k2, cnG, h5, h6, show (c.tag == []) = false by simpa using k2]
      · simp [ym.r21, ss, h0, k1, cnG, h5, h6]
    · have : ¬ c.args.length = 0 := by simpa using h0
      simp [ym.r21, ss, h0, this, cnG, h5, h6]
  simp
  refine AX.seq (AX.seq (AX.reg ?_))
  simp [ym.r22]
  refine AX.pcond rfl (fun hd => ?_) (fun hd => AX.skip ?_)
  · simp at hd
    refine AX.sr ?_
    simp [ym.r23]
    refine AX.ret ?_
    simp [hd]
    exact ⟨X1, .refl _⟩
  simp at hd
  simp
  refine AX.sr ?_
  simp [ym.r24]
  refine AX.ret ?_
  simp [hd]
  exact ⟨X1, .refl _⟩
end Go.Proofs.YtjajpilacdfnbaaGreatDoor
namespace Go.Proofs.YtjajpilacdfnbaaGreatDoor
open Am C
set_option linter.unusedSimpArgs false
set_option linter.unusedVariables false
def ye8 (l : List Mk) : Int := match l.getLast? with
  | some x => x.pos
  | none => 0
theorem mk1_last {n : Nat} {l : List Mk} {m : Mk} (h : 0 ≤ ye8 l) : yjs n l m = (decide (ye8 l ≤ m.pos) && decide (m.pos < n) && yh7 m.tag) := by
  unfold yjs
  unfold ye8 at h ⊢
  cases hl : l.getLast? with
  | none =>
    cases yh7 m.tag <;> simp
  | some x =>
    rw [hl] at h
    simp only at h
    have e : decide (∀ y, some x = some y → y.pos ≤ m.pos) = decide (x.pos ≤ m.pos) := by
      congr 1
      apply propext
      exact ⟨fun hh => hh x rfl, fun hh y hy => by injection hy with hy; subst hy; exact hh⟩
    rw [e]
    by_cases h1 : x.pos ≤ m.pos
    · have : 0 ≤ m.pos := by omega
      simp [h1, this]
    · simp [h1]
theorem yjt {ms : List Mk} {i : Nat} (h : i < ms.length) : ye8 (ms.take (i + 1)) = ms[i].pos := by
  unfold ye8
  rw [List.getLast?_eq_getElem?, List.length_take, Nat.min_eq_left (by omega)]
  simp [List.getElem?_take, h]
def SObInv (o : Ob) (H : Hp) (m : Nat) (F : Fr) (X : Hp) : Prop :=
  ∃ i, i ≤ o.marks.length ∧ m = o.marks.length - i ∧ yjr o.kinds.length [] o.marks = yjr o.kinds.length (o.marks.take i) (o.marks.drop i) ∧ 0 ≤ ye8 (o.marks.take i) ∧ H.Ext X ∧ (∀ id blk, X.get id = some blk → id < X.next) ∧
    F = [(1, .fp (y49 o) 0), (5, .i .i64 (ye8 (o.marks.take i))), (38, .fs (o.marks.map y7b)), (39, .i .i64 o.marks.length), (40, .i .i64 i)]
theorem yk2 (o : Ob) (h1 : o.name.length ≤ 9223372036854775806) (h2 : o.kinds.length ≤ 9223372036854775807) (h3 : o.marks.length ≤ 9223372036854775807) (h4 : ∀ m ∈ o.marks, m.tag.length ≤ 9223372036854775807) (H : Hp) :
    AC Tryz.prog y6e [.agg (y49 o)] H (fun v H' => v = .i .i64 (obE o) ∧ H' = H) := by
  refine AC.codeP y15.at y15.ok (by simp) fun hlt => ?_
  simp only [y15]
  refine AX.sr ?_
  simp [y15.r0, y49]
  refine AX.sr ?_
  simp [y15.r1]
  refine AC.fix (yc3 o.name h1 _) ?_
  obtain ⟨er, d, hrd, hbad⟩ : ∃ (er : Int) (d : Nd), rdV (y7k o.name) = .tup [nv d, .i .i64 er] ∧ obE o = if (decide (er ≠ 0) || (decide (d.kind < 5) || decide (0 ≤ d.cell))) = true then 11 else if ¬ (kpB o.kinds = true ∧ 1 ≤ o.kinds.length ∧ o.kinds.length ≤ 64) then 5 else if yjr o.kinds.length [] o.marks then 0 else 3 := by
    unfold obE
    cases hr : y7k o.name with
    | none => exact ⟨11, Nd.zero, rfl, by simp⟩
    | some d => exact ⟨0, d, rfl, by simp⟩
  rw [hrd]
  simp [nv, Nd.cs]
  have X2 := y8j hlt (.cells [.i .i64 0, .s [], .i .i64 0, .s [], .i .i64 0, .i .i64 0] 6) (.cells [.i .i64 d.kind, .s d.fn, .i .i64 d.copy, .s d.name, .i .i64 d.n, .i .i64 d.cell] 6)
  have L2 := lt2 hlt (.cells [.i .i64 0, .s [], .i .i64 0, .s [], .i .i64 0, .i .i64 0] 6) (.cells [.i .i64 d.kind, .s d.fn, .i .i64 d.copy, .s d.name, .i .i64 d.n, .i .i64 d.cell] 6)
  have G2 : ((H.add (.cells [.i .i64 0, .s [], .i .i64 0, .s [], .i .i64 0, .i .i64 0] 6)).upd H.next (.cells [.i .i64 d.kind, .s d.fn, .i .i64 d.copy, .s d.name, .i .i64 d.n, .i .i64 d.cell] 6)).get H.next = some (.cells [.i .i64 d.kind, .s d.fn, .i .i64 d.copy, .s d.name, .i .i64 d.n, .i .i64 d.cell] 6) := by simp
  generalize (H.add (.cells [.i .i64 0, .s [], .i .i64 0, .s [], .i .i64 0, .i .i64 0] 6)).upd H.next (.cells [.i .i64 d.kind, .s d.fn, .i .i64 d.copy, .s d.name, .i .i64 d.n, .i .i64 d.cell] 6) = X at *
  refine AX.seq (AX.pblock ?_)
  obtain ⟨b, hb⟩ : ∃ b, b = (decide (er ≠ 0) || (decide (d.kind < 5) || decide (0 ≤ d.cell))) := ⟨_, rfl⟩
  rw [← hb] at hbad
  refine AX.test b [(1, .fp (y49 o) 0), (14, .b b)] ?_ rfl (fun hc => ?_) (fun hc => ?_)
  · by_cases e : er = 0
    · by_cases k : d.kind < 5
      · simp [y15.r2, y49, e, k, hb, G2]
      · simp [y15.r2, y49, e, k, hb, G2]
    · simp [y15.r2, y49, e, hb]
  · rw [if_pos hc] at hbad
    refine AX.sr ?_
    simp [y15.r3]
    refine AX.ret ?_
    simp [hbad]
    exact ⟨X2, .refl _⟩
  rw [if_neg (by simp [hc])] at hbad
  clear hb hc
  obtain ⟨b2, hb2⟩ : ∃ b2, b2 = decide (¬ (kpB o.kinds = true ∧ 1 ≤ o.kinds.length ∧ o.kinds.length ≤ 64)) := ⟨_, rfl⟩
  refine AX.test b2 [(1, .fp (y49 o) 0), (27, .b b2)] ?_ rfl (fun hc => ?_) (fun hc => AX.skip ?_)
  · by_cases e : o.kinds = []
    · simp [y15.r4, y49, e, hb2]
    · have e1 : 1 ≤ o.kinds.length := by cases h : o.kinds <;> simp_all
      have e2 : (o.kinds == []) = false := by simpa using e
      simp [y15.r4, y49, e, e2]
      refine AC.fix (y9v o.kinds 64 h2 _) ?_
      have : (!(kpB o.kinds && decide ((o.kinds.length : Int) ≤ 64))) = b2 := by
        rw [hb2]
        by_cases h64 : o.kinds.length ≤ 64
        · cases kpB o.kinds <;> simp [e1, h64, show ¬ 64 < o.kinds.length by omega]
        · cases kpB o.kinds <;> simp [e1, h64, show 64 < o.kinds.length by omega]
      simp [this, y49]
      simp [← this]
  · have hc' := of_decide_eq_true (hb2 ▸ hc)
    rw [if_pos hc'] at hbad
    refine AX.sr ?_
    simp [y15.r5]
    refine AX.ret ?_
    simp [hbad]
    exact ⟨X2, .refl _⟩
  have hc' := of_decide_eq_false (hb2 ▸ hc)
  rw [if_neg hc'] at hbad
  simp
  refine AX.sr ?_
  simp [y15.r6]
  refine AX.seq (AX.seq (AX.reg ?_))
  simp [y15.r7, y49]
  refine AX.pblock (AX.loop (SObInv o H) o.marks.length ⟨_, _, .refl _ _, 0, by omega, by omega, rfl, by simp [ye8], X2, L2, by simp [y49, ye8]⟩ ?_)
  rintro m F Y ⟨i, hi, rfl, hm, hla, X3, L3, rfl⟩
  simp only [y15.l0]
  refine AX.sr ?_
  simp [y15.r8]
  refine AX.seq (AX.pcond rfl (fun hd => AX.skip ?_) (fun hd => AX.exit ?_))
  case refine_2 =>
    simp at hd
    rw [List.drop_eq_nil_of_le hd] at hm
    simp only [yjr] at hm
    simp
    refine AX.sr ?_
    simp [y15.r14]
    refine AX.ret ?_
    simp [hbad, hm]
    exact ⟨X3, .refl _⟩
  simp at hd
  rw [ygm hd, mkB_eq, mk1_last hla] at hm
  have hlt1 := yjt hd
  have hmt := h4 _ (List.getElem_mem hd)
  have hg : o.marks[i]? = some o.marks[i] := List.getElem?_eq_getElem hd
  simp
  generalize o.marks[i] = mk at *
  generalize hlp : ye8 (o.marks.take i) = lp at *
  refine AX.seq (AX.pblock (AX.seq (AX.reg ?_)))
  simp [y15.r9, hg, y7b]
  have X4 := X3.trans (y8j L3 (.cells [.i .i64 0, .s []] 2) (.cells [.i .i64 mk.pos, .s mk.tag] 2))
  have L4 := lt2 L3 (.cells [.i .i64 0, .s []] 2) (.cells [.i .i64 mk.pos, .s mk.tag] 2)
  have G4 : ((Y.add (.cells [.i .i64 0, .s []] 2)).upd Y.next (.cells [.i .i64 mk.pos, .s mk.tag] 2)).get Y.next = some (.cells [.i .i64 mk.pos, .s mk.tag] 2) := by simp
  generalize (Y.add (.cells [.i .i64 0, .s []] 2)).upd Y.next (.cells [.i .i64 mk.pos, .s mk.tag] 2) = Z at *
  generalize Y.next = id at *
  obtain ⟨g, hgg⟩ : ∃ g, g = (decide (lp ≤ mk.pos) && decide (mk.pos < o.kinds.length) && yh7 mk.tag && decide (mk ∉ o.marks.take i)) := ⟨_, rfl⟩
  rw [← hgg] at hm
  refine AX.seq ?_
  refine AX.testD (!g) [(1, .fp (y49 o) 0), (7, .p (some (id, 0, 2))), (38, .fs (o.marks.map y7b)), (39, .i .i64 o.marks.length), (40, .i .i64 i), (70, .b (!g))] ?_ rfl (fun hb => ?_) (fun hb => AX.skip ?_)
  · by_cases c1 : mk.pos < lp
    · simp [y15.r10, y49, G4, c1, hgg, show ¬ lp ≤ mk.pos by omega]
    by_cases c2 : (o.kinds.length : Int) ≤ mk.pos
    · simp [y15.r10, y49, G4, c1, c2, hgg, show ¬ mk.pos < o.kinds.length by omega]
    have c1' : lp ≤ mk.pos := by omega
    have c2' : mk.pos < o.kinds.length := by omega
    simp [y15.r10, y49, G4, c1, c2]
    refine y3k _ (fun H2 => ydc mk.tag hmt H2) ?_
    cases htg : yh7 mk.tag
    · simp [hgg, htg]
    have hm2 : ∀ x : Mk, x ∈ o.marks → (y7b x).length = 2 := fun x _ => rfl
    have hcon : ∀ H2, AC Tryz.prog y3t [.fs (List.take i (List.map y7b o.marks)), .agg [.i .i64 mk.pos, .s mk.tag]] H2 (fun v H' => v = .b (decide (mk ∈ o.marks.take i)) ∧ H' = H2) := fun H2 => by
      have := yh6 (o.marks.take i) mk (by simp; omega) H2
      rw [List.map_take] at this
      exact this
    simp [hm2, show i ≤ o.marks.length by omega, G4]
    rw [if_pos hm2]
    simp [G4]
    refine y3k _ hcon ?_
    by_cases hin : mk ∈ o.marks.take i
    · simp [hgg, c1', c2', htg, hin, y49, y7b]
    · simp [hgg, c1', c2', htg, hin, y49, y7b]
  · simp at hb
    refine AX.sr ?_
    simp [y15.r11]
    refine AX.ret ?_
    simp [hbad, hm, hb]
    exact ⟨X4, .refl _⟩
  simp at hb
  rw [hb] at hgg
  have hpos : 0 ≤ mk.pos := by
    have : lp ≤ mk.pos := by
      have := hgg.symm
      simp at this
      exact this.1.1.1
    omega
  simp
  refine AX.reg ?_
  simp [y15.r12, G4]
  refine AX.reg ?_
  simp [y15.r13, y2j hd h3]
  exact ⟨o.marks.length - (i + 1), by omega, _, _, .refl _ _, i + 1, by omega, rfl, by rw [hm, hb]; simp, by rw [hlt1]; exact hpos, X4, L4, by rw [hlt1]; simp [y49, y7b]⟩
end Go.Proofs.YtjajpilacdfnbaaGreatDoor
