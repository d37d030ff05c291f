/- What the law SymbolsResolve alone needs: S15b, S15c, S15d, S15e, S15f. -/
import Derived.Test.YtjajpilacdfnbaaGreatDoorZ3
namespace Go.Proofs.YtjajpilacdfnbaaGreatDoor
open Am C
set_option linter.unusedSimpArgs false
set_option linter.unusedVariables false
theorem yh4 (f : Fu) (h1 : f.name.length ≤ 9223372036854775807) (h2 : f.kinds.length ≤ 9223372036854775807) (H : Hp) : AC Tryz.prog y6s [.agg (y6i f)] H (fun v H' => v = .i .i64 (fuE f) ∧ H' = H) := by
  refine AC.codeP y1n.at y1n.ok (by simp) fun hlt => ?_
  simp only [y1n]
  refine AX.sr ?_
  simp [y1n.r0, y6i]
  refine AX.sr ?_
  simp [y1n.r1]
  refine AC.fix (yam f.name h1 _) ?_
  rw [ybl]
  cases hr : y7k f.name with
  | none =>
    simp [rdV, nv, Nd.cs, Nd.zero]
    refine AX.seq (AX.seq (AX.reg ?_))
    simp [y1n.r2]
    refine AX.pcond (t := true) rfl (fun _ => ?_) (fun h => by simp at h)
    refine AX.sr ?_
    simp [y1n.r3]
    refine AX.ret ?_
    simp [fuE, hr]
    exact ⟨y8j hlt _ _, .refl _⟩
  | some d =>
    simp [rdV, nv, Nd.cs]
    refine AX.seq (AX.seq (AX.reg ?_))
    by_cases hk : d.kind = 4
    · simp [y1n.r2, hk]
      refine AX.pcond (t := false) rfl (fun h => by simp at h) (fun _ => AX.skip ?_)
      simp
      refine AX.seq (AX.seq (AX.reg ?_))
      simp [y1n.r4]
      refine AC.fix (ydw f.kinds 0 6 h2 _) ?_
      have eB : (kpB f.kinds && (decide ((0 : Int) ≤ f.kinds.length) && decide ((f.kinds.length : Int) ≤ 6))) = decide (kpB f.kinds = true ∧ f.kinds.length ≤ 6) := by
        cases kpB f.kinds <;> simp
      rw [eB]
      by_cases hb : kpB f.kinds = true ∧ f.kinds.length ≤ 6
      · simp only [hb, decide_true]
        by_cases r1 : f.ret = [105]
        · simp [r1]
          refine AX.pcond (t := false) rfl (fun h => by simp at h) (fun _ => AX.skip ?_)
          simp
          refine AX.sr ?_
          simp [y1n.r6]
          refine AX.ret ?_
          simp [fuE, hr, hk, hb, retB, r1]
          exact ⟨y8j hlt _ _, .refl _⟩
        by_cases r2 : f.ret = [112]
        · simp [r1, r2]
          refine AX.pcond (t := false) rfl (fun h => by simp at h) (fun _ => AX.skip ?_)
          simp
          refine AX.sr ?_
          simp [y1n.r6]
          refine AX.ret ?_
          simp [fuE, hr, hk, hb, retB, r2]
          exact ⟨y8j hlt _ _, .refl _⟩
        by_cases r3 : f.ret = [118]
        · simp [r1, r2, r3]
          refine AX.pcond (t := false) rfl (fun h => by simp at h) (fun _ => AX.skip ?_)
          simp
          refine AX.sr ?_
          simp [y1n.r6]
          refine AX.ret ?_
          simp [fuE, hr, hk, hb, retB, r3]
          exact ⟨y8j hlt _ _, .refl _⟩
        simp [r1, r2, r3, show (f.ret == [105]) = false by simpa using r1, show (f.ret == [112]) = false by simpa using r2, show (f.ret == [118]) = false by simpa using r3]
        refine AX.pcond (t := true) rfl (fun _ => ?_) (fun h => by simp at h)
        refine AX.sr ?_
        simp [y1n.r5]
        refine AX.ret ?_
        simp [fuE, hr, hk, hb, retB, r1, r2, r3]
        exact ⟨y8j hlt _ _, .refl _⟩
      · simp only [hb, decide_false]
        simp
        refine AX.pcond (t := true) rfl (fun _ => ?_) (fun h => by simp at h)
        refine AX.sr ?_
        simp [y1n.r5]
        refine AX.ret ?_
        have : fuE f = 5 := by unfold fuE; rw [hr]; simp only [hk]; rw [if_neg (by simp), if_pos (.inl hb)]
        simp [this]
        exact ⟨y8j hlt _ _, .refl _⟩
    · simp [y1n.r2, hk]
      refine AX.pcond (t := true) rfl (fun _ => ?_) (fun h => by simp at h)
      refine AX.sr ?_
      simp [y1n.r3]
      refine AX.ret ?_
      simp [fuE, hr, hk]
      exact ⟨y8j hlt _ _, .refl _⟩
def sigV (t : Str) : V := match yc6 t with
  | none => .tup [.s [], .s [], .b false]
  | some (l, r) => .tup [.s l, .s r, .b (y9e l r)]
theorem yle : ∀ {t : Str} {i : Nat}, (62 : UInt8) ∉ t.take i → (h : i < t.length) → t[i] = 62 → yc6 t = some (t.take i, t.drop (i + 1))
  | [], i, _, h, _ => by simp at h
  | c :: r, 0, _, _, e => by simp at e; simp [yc6, e]
  | c :: r, i + 1, hn, h, e => by
    simp at hn h e
    have hc : ¬ c = 62 := fun h => hn.1 h.symm
    simp [yc6, hc, yle hn.2 h e]
theorem yld : ∀ {t : Str}, (62 : UInt8) ∉ t → yc6 t = none
  | [], _ => rfl
  | c :: r, h => by
    simp at h
    have hc : ¬ c = 62 := fun e => h.1 e.symm
    simp [yc6, hc, yld h.2]
def SigInv (t : Str) (H : Hp) (m : Nat) (F : Fr) (X : Hp) : Prop :=
  ∃ i, i ≤ t.length ∧ m = t.length - i ∧ (62 : UInt8) ∉ t.take i ∧ X = H ∧ F = [(0, .s t), (5, .i .i64 i)]
theorem Sig_ok (t : Str) (ht : t.length ≤ 9223372036854775807) (H : Hp) : AC Tryz.prog y8p [.s t] H (fun v H' => v = sigV t ∧ H' = H) := by
  refine AC.code y1x.at y1x.ok ?_
  simp only [y1x]
  refine AX.sr ?_
  simp [y1x.r0]
  refine AX.seq (AX.seq (AX.reg ?_))
  simp [y1x.r1]
  refine AX.pblock (AX.loop (SigInv t H) t.length ⟨_, _, .refl _ _, 0, by omega, by omega, by simp, rfl, rfl⟩ ?_)
  rintro m F X ⟨i, hi, rfl, hn, rfl, rfl⟩
  simp only [y1x.l0]
  refine AX.seq (AX.seq (AX.reg ?_))
  simp [y1x.r2]
  refine AX.pcond rfl (fun hb => AX.skip ?_) (fun hb => AX.exit ?_)
  case refine_2 =>
    simp at hb
    rw [List.take_of_length_le hb] at hn
    simp
    refine AX.sr ?_
    simp [y1x.r7]
    refine AX.ret ?_
    simp [sigV, yld hn]
  simp at hb
  simp
  refine AX.seq (AX.pblock (AX.seq (AX.reg ?_)))
  have e1 : ((t[i].toNat : Int) = 62) = (t[i] = 62) := yl3 t[i] 62 (by omega)
  simp [y1x.r3, hb, e1]
  refine AX.pcond rfl (fun hc => ?_) (fun hc => AX.skip ?_)
  · simp at hc
    have es := yle hn hb hc
    refine AX.sr ?_
    simp [y1x.r4, y2j hb ht, show i + 1 ≤ t.length from hb, show (0 : Int) ≤ (i : Int) + 1 by omega, show (i : Int) + 1 ≤ (t.length : Int) by omega]
    generalize hl : t.take i = l at *
    generalize hr : t.drop (i + 1) = r at *
    have hll : l.length ≤ 9223372036854775807 := by rw [← hl]; simp; omega
    have hil : i ≤ t.length := hi
    refine AX.seq (AX.drw ?_)
    simp [y1x.r5, hil, hl]
    refine y3k _ (fun H2 => ydw l 0 6 hll H2) ?_
    have eq : y9e l r = ((kpB l && (decide ((0 : Int) ≤ l.length) && decide ((l.length : Int) ≤ 6))) && (decide (r = []) || decide (r = [105]) || decide (r = [112]))) := by
      unfold y9e
      cases kpB l <;> simp
    have eV : sigV t = .tup [.s l, .s r, .b (y9e l r)] := by unfold sigV; rw [es]
    rw [eV, eq]
    generalize (kpB l && (decide ((0 : Int) ≤ l.length) && decide ((l.length : Int) ≤ 6))) = q
    cases q
    · simp
      refine AX.ret ?_
      simp
    by_cases r0 : r = []
    · simp [r0]
      refine AX.ret ?_
      simp
    by_cases r1 : r = [105]
    · simp [r0, r1]
      refine AX.ret ?_
      simp
    have q1 : (r == [105]) = false := by simpa using r1
    have q0 : (r == []) = false := by simpa using r0
    by_cases r2 : r = [112]
    · simp [r0, r1, r2, q0, q1]
      refine AX.ret ?_
      simp
    have q2 : (r == [112]) = false := by simpa using r2
    simp [r0, r1, r2, q0, q1, q2]
    refine AX.ret ?_
    simp [r0, r1, r2]
  simp at hc
  simp
  refine AX.reg ?_
  simp [y1x.r6, y2j hb ht]
  refine ⟨t.length - (i + 1), by omega, _, _, .refl _ _, i + 1, by omega, rfl, ?_, rfl, by simp⟩
  rw [List.take_add_one, List.getElem?_eq_getElem hb]
  intro hm
  rcases List.mem_append.1 hm with hm | hm
  · exact hn hm
  · simp at hm; exact hc hm.symm
end Go.Proofs.YtjajpilacdfnbaaGreatDoor
namespace Go.Proofs.YtjajpilacdfnbaaGreatDoor
open Am C
set_option linter.unusedSimpArgs false
set_option linter.unusedVariables false
def CallInv (c : Cn) (l r : Str) (H : Hp) (m : Nat) (F : Fr) (X : Hp) : Prop :=
  ∃ i, i ≤ c.args.length ∧ m = c.args.length - i ∧ (∀ j, j < i → yi2 (yjo l r j) (c.args.getD j []) = true) ∧ X = H ∧ F = [(1, .fp (y4l c) 0), (3, .s l), (4, .s r), (6, .i .i64 i)]
theorem Rcall_ok (c : Cn) (ht : c.tag.length ≤ 9223372036854775807) (ha : c.args.length ≤ 9223372036854775807) (hx : ∀ a ∈ c.args, a.length ≤ 9223372036854775807) (H : Hp) : AC Tryz.prog y87 [.agg (y4l c)] H (fun v H' => v = .i .i64 (if yal c then 0 else 3) ∧ H' = H) := by
  refine AC.code y14.at y14.ok ?_
  simp only [y14]
  refine AX.sr ?_
  simp [y14.r0, y4l]
  refine AX.sr ?_
  simp [y14.r1]
  refine AC.fix (Sig_ok c.tag ht _) ?_
  rw [yeq]
  unfold sigV
  cases hs : yc6 c.tag with
  | none =>
    simp
    refine AX.seq (AX.seq (AX.reg ?_))
    simp [y14.r2]
    refine AX.pcond (t := true) rfl (fun _ => ?_) (fun h => by simp at h)
    refine AX.sr ?_
    simp [y14.r3]
    refine AX.ret ?_
    simp
  | some x =>
    obtain ⟨l, r⟩ := x
    have hll := yez hs
    simp
    refine AX.seq ?_
    refine AX.test (!(y9e l r && decide (c.k = 0) && decide (c.args.length = l.length + 1))) [(1, .fp (y4l c) 0), (3, .s l), (4, .s r), (30, .b (!(y9e l r && decide (c.k = 0) && decide (c.args.length = l.length + 1))))] ?_ rfl (fun hb => ?_) (fun hb => AX.skip ?_)
    · cases y9e l r
      · simp [y14.r2, y4l]
      have hw : IntKind.i64.wrap ((l.length : Int) + 1) = (l.length : Int) + 1 := y3e (by omega) (by omega)
      by_cases hk : c.k = 0
      · by_cases hl : c.args.length = l.length + 1
        · simp [y14.r2, hk, hl, ss, y4l, hw]
        · simp [y14.r2, hk, hl, ss, y4l, hw, show ¬ (c.args.length : Int) = (l.length : Int) + 1 by omega]
      · simp [y14.r2, hk, y4l]
    · refine AX.sr ?_
      simp [y14.r3]
      refine AX.ret ?_
      simp at hb
      simp
      rcases hb with (h | h) | h <;> simp [h]
    simp at hb
    obtain ⟨⟨h1, h2⟩, h3⟩ := hb
    simp [h1, h2, h3]
    refine AX.seq (AX.seq (AX.reg ?_))
    simp [y14.r4]
    refine AX.pblock (AX.loop (CallInv c l r H) c.args.length ⟨_, _, .refl _ _, 0, by omega, by omega, fun j hj => by omega, rfl, by simp [y4l]⟩ ?_)
    rintro m F X ⟨i, hi, rfl, hn, rfl, rfl⟩
    simp only [y14.l0]
    refine AX.seq (AX.seq (AX.reg ?_))
    simp [y14.r5, ss, y4l]
    refine AX.pcond rfl (fun hb => AX.skip ?_) (fun hb => AX.exit ?_)
    case refine_2 =>
      simp at hb
      have : yk1 l r c.args = true := List.all_eq_true.2 fun j hj => hn j (by have := List.mem_range.1 hj; omega)
      simp
      refine AX.sr ?_
      simp [y14.r12]
      refine AX.ret ?_
      simp [this]
    simp at hb
    simp
    refine AX.seq (AX.pblock (AX.seq (AX.reg ?_)))
    simp [y14.r6]
    refine AX.seq (AX.join (F1 := [(1, .fp (y4l c) 0), (3, .s l), (4, .s r), (6, .i .i64 i), (7, .b (yjo l r i))]) (H1 := X) ?_ ?_)
    · refine AX.sr ?_
      simp [y14.r7]
      refine AX.pcond rfl (fun hc => ?_) (fun hc => AX.skip ?_)
      · simp at hc
        have hi1 : i - 1 < l.length := by omega
        have e1 : ((l[i - 1].toNat : Int) = 112) = (l[i - 1] = 112) := yl3 l[i - 1] 112 (by omega)
        have e0 : ((i : Int) - 1).toNat = i - 1 := by omega
        refine AX.reg ?_
        simp [y14.r8, show (0 : Int) ≤ (i : Int) - 1 by omega, show 1 ≤ i by omega, e0, hi1, e1, show IntKind.i64.wrap ((i : Int) - 1) = (i : Int) - 1 from y3e (by omega) (by omega), y4l, ss]
        simp [yjo, show ¬ i = 0 by omega, hi1]
      · simp at hc
        subst hc
        simp [yjo, y4l, ss]
    simp
    obtain ⟨p, hp⟩ : ∃ p, p = yjo l r i := ⟨_, rfl⟩
    rw [← hp]
    have hgd : c.args.getD i [] = c.args[i] := by simp [hb]
    refine AX.test (!yi2 p c.args[i]) [(1, .fp (y4l c) 0), (3, .s l), (4, .s r), (6, .i .i64 i), (65, .b (!yi2 p c.args[i]))] ?_ rfl (fun hc => ?_) (fun hc => AX.skip ?_)
    · by_cases h0 : c.args[i] = []
      · simp [y14.r9, hb, h0, yi2, y4l, ss]
      · have h0' : (c.args[i] == []) = false := by simpa using h0
        cases p
        · simp [y14.r9, hb, h0, h0', yi2, y4l, ss]
        · simp [y14.r9, hb, h0, h0', yi2, y4l, ss]
          refine AC.fix (yc1 c.args[i] (hx _ (List.getElem_mem hb)) _) ?_
          simp
    · refine AX.sr ?_
      simp [y14.r10]
      refine AX.ret ?_
      simp at hc
      simp [yjd hb (by rw [hgd, ← hp]; exact hc)]
    simp at hc
    simp
    refine AX.reg ?_
    simp [y14.r11, y2j hb ha]
    refine ⟨c.args.length - (i + 1), by omega, _, _, .refl _ _, i + 1, by omega, rfl, fun j hj => ?_, rfl, by simp⟩
    by_cases hj2 : j = i
    · subst hj2; rw [hgd, ← hp]; exact hc
    · exact hn j (by omega)
end Go.Proofs.YtjajpilacdfnbaaGreatDoor
namespace Go.Proofs.YtjajpilacdfnbaaGreatDoor
open Am C
set_option linter.unusedSimpArgs false
set_option linter.unusedVariables false
theorem RCon_ok (c : Cn) (h1 : c.a.length ≤ 9223372036854775807) (h2 : c.b.length ≤ 9223372036854775807) (ht : c.tag.length ≤ 9223372036854775807) (ha : c.args.length ≤ 9223372036854775807) (hx : ∀ a ∈ c.args, a.length ≤ 9223372036854775807) (H : Hp) : AC Tryz.prog y8q [.agg (y4l c)] H (fun v H' => v = .i .i64 (cnE c) ∧ H' = H) := by
  refine AC.codeP yw.at yw.ok (by simp) fun hlt => ?_
  rw [cnE_eq]
  simp only [yw]
  refine AX.sr ?_
  simp [yw.r0, y4l]
  refine AX.seq ?_
  refine AX.test (decide (c.op < 1) || decide (6 < c.op)) [(1, .fp (y4l c) 0), (12, .b (decide (c.op < 1) || decide (6 < c.op)))] ?_ rfl (fun hb => ?_) (fun hb => AX.skip ?_)
  · by_cases h : c.op < 1
    · simp [yw.r1, y4l, h]
    · simp [yw.r1, y4l, h]
  · refine AX.sr ?_
    simp [yw.r2]
    refine AX.ret ?_
    simp at hb
    simp [hb]
    exact ⟨.refl _, .refl _⟩
  simp at hb
  have hop : ¬ (c.op < 1 ∨ 6 < c.op) := by omega
  rw [if_neg hop]
  simp
  refine AX.sr ?_
  simp [yw.r3, y4l]
  refine AC.fix (yam c.a h1 _) ?_
  rw [ybl]
  obtain ⟨er, d, hrd, hsite, hnode⟩ : ∃ (er : Int) (d : Nd), rdV (y7k c.a) = .tup [nv d, .i .i64 er] ∧ ybj c.a = (decide (er = 0) && decide (d.kind = 3)) ∧ True := by
    cases hr : y7k c.a with
    | none => exact ⟨11, Nd.zero, rfl, by simp [ybj, hr], trivial⟩
    | some d => exact ⟨0, d, rfl, by simp [ybj, hr], trivial⟩
  rw [hrd]
  simp [nv, Nd.cs]
  refine AX.seq ?_
  refine AX.test (!cnB c) [(1, .fp (y4l c) 0), (58, .b (!cnB c))] ?_ rfl (fun hb => ?_) (fun hb => AX.skip ?_)
  · simp [yw.r4]
    refine AC.fix (yc1 c.a h1 _) ?_
    cases hA : y7c c.a
    · simp [cnB, hA, y4l]
    by_cases h6 : c.op = 6
    · by_cases he : er = 0
      · by_cases hk : d.kind = 3
        · simp [h6, he, hk]
          refine AC.fix (yc1 c.b h2 _) ?_
          simp [cnB, hA, h6, hsite, he, hk, y4l]
        · simp [h6, he, hk]
          simp [cnB, hA, h6, hsite, he, hk, y4l]
      · simp [h6, he]
        simp [cnB, hA, h6, hsite, he, y4l]
    · by_cases hq : c.op = 1
      · simp [h6, hq]
        refine AC.fix (yns c.b h2 _) ?_
        cases hB : ya0 c.b <;> simp [cnB, hA, hq, hB, y4l]
      · simp [h6, hq]
        refine AC.fix (yc1 c.b h2 _) ?_
        simp [cnB, hA, h6, hq, y4l]
  · refine AX.sr ?_
    simp [yw.r5]
    refine AX.ret ?_
    simp at hb
    simp [hb]
    exact ⟨y8j hlt _ _, .refl _⟩
  simp at hb
  simp [hb]
  refine AX.seq (AX.pblock (AX.seq (AX.reg ?_)))
  simp [yw.r6, y4l]
  refine AX.pcond rfl (fun hc => ?_) (fun hc => ?_)
  · simp at hc
    refine AX.sr ?_
    simp [yw.r7]
    refine AC.fix (Rcall_ok c ht ha hx _) ?_
    simp
    refine AX.ret ?_
    simp [hc]
    exact ⟨y8j hlt _ _, .refl _⟩
  simp at hc
  simp [hc]
  refine AX.sr ?_
  simp [yw.r8, ss]
  have hlen : (0 < c.args.length) ↔ ¬ c.args = [] := by cases c.args <;> simp
  refine AX.pcond rfl (fun hd => ?_) (fun hd => ?_)
  · simp at hd
    have hd' : ¬ c.args = [] := hlen.1 (by first | exact hd | (cases h : c.args <;> simp_all))
    refine AX.sr ?_
    simp [yw.r9]
    refine AX.ret ?_
    simp [hd']
    exact ⟨y8j hlt _ _, .refl _⟩
  simp at hd
  simp [hd]
  refine AX.sr ?_
  simp [yw.r10]
  refine AX.pcond rfl (fun he => ?_) (fun he => ?_)
  · simp at he
    simp [he]
    refine AX.seq ?_
    refine AX.test (!(decide (0 ≤ c.k) && decide (c.k ≤ 64) && decide (1 ≤ c.tag.length) && decide (c.tag.length ≤ 60))) [(93, .b (!(decide (0 ≤ c.k) && decide (c.k ≤ 64) && decide (1 ≤ c.tag.length) && decide (c.tag.length ≤ 60))))] ?_ rfl (fun hb => ?_) (fun hb => AX.skip ?_)
    · by_cases k1 : c.k < 0
      · simp [yw.r11, k1, show ¬ 0 ≤ c.k by omega]
      by_cases k2 : 64 < c.k
      · simp [yw.r11, k1, k2, show 0 ≤ c.k by omega, show ¬ c.k ≤ 64 by omega]
      by_cases k3 : c.tag.length < 1
      · simp [yw.r11, k1, k2, k3, show 0 ≤ c.k by omega, show c.k ≤ 64 by omega]
      by_cases k4 : 60 < c.tag.length
      · simp [yw.r11, k1, k2, k3, k4, show 0 ≤ c.k by omega, show c.k ≤ 64 by omega]
      · simp [yw.r11, k1, k2, k3, k4, show 0 ≤ c.k by omega, show c.k ≤ 64 by omega, show 1 ≤ c.tag.length by omega, show c.tag.length ≤ 60 by omega]
    · refine AX.sr ?_
      simp [yw.r12]
      refine AX.ret ?_
      have : ¬ (0 ≤ c.k ∧ c.k ≤ 64 ∧ 1 ≤ c.tag.length ∧ c.tag.length ≤ 60) := by
        intro ⟨g1, g2, g3, g4⟩
        simp [g1, g2, g3, g4] at hb
      simp [this]
      exact ⟨y8j hlt _ _, .refl _⟩
    · simp at hb
      simp
      refine AX.sr ?_
      simp [yw.r13]
      refine AX.ret ?_
      simp [hb]
      exact ⟨y8j hlt _ _, .refl _⟩
  simp at he
  simp [he]
  refine AX.sr ?_
  by_cases k1 : c.k = 0
  · by_cases k2 : c.tag = []
    · simp [yw.r14, k1, k2]
      refine AX.pcond (t := false) rfl (fun h => by simp at h) (fun _ => AX.skip ?_)
      simp
      refine AX.sr ?_
      simp [yw.r16]
      refine AX.ret ?_
      simp
      exact ⟨y8j hlt _ _, .refl _⟩
    · simp [yw.r14, k1, k2, show (c.tag == []) = false by simpa using k2]
      refine AX.pcond (t := true) rfl (fun _ => ?_) (fun h => by simp at h)
      refine AX.sr ?_
      simp [yw.r15]
      refine AX.ret ?_
      simp
      exact ⟨y8j hlt _ _, .refl _⟩
  · simp [yw.r14, k1]
    refine AX.pcond (t := true) rfl (fun _ => ?_) (fun h => by simp at h)
    refine AX.sr ?_
    simp [yw.r15]
    refine AX.ret ?_
    simp
    exact ⟨y8j hlt _ _, .refl _⟩
end Go.Proofs.YtjajpilacdfnbaaGreatDoor
namespace Go.Proofs.YtjajpilacdfnbaaGreatDoor
open Am C
set_option linter.unusedSimpArgs false
set_option linter.unusedVariables false
def ObInv (o : Ob) (H : Hp) (m : Nat) (F : Fr) (X : Hp) : Prop :=
  ∃ i, i ≤ o.marks.length ∧ m = o.marks.length - i ∧ yjr o.kinds.length [] o.marks = yjr o.kinds.length (o.marks.take i) (o.marks.drop i) ∧ H.Ext X ∧ (∀ id blk, X.get id = some blk → id < X.next) ∧ F = [(1, .fp (y49 o) 0), (5, .i .i64 i)]
def Ob1Inv (o : Ob) (i : Nat) (mk : Mk) (id : Nat) (Y : Hp) (m : Nat) (F : Fr) (X : Hp) : Prop :=
  ∃ k, k ≤ i ∧ m = i - k ∧ mk ∉ o.marks.take k ∧ X = Y ∧ F = [(1, .fp (y49 o) 0), (5, .i .i64 i), (6, .p (some (id, 0, 2))), (7, .i .i64 k)]
theorem yk4 (o : Ob) (h1 : o.name.length ≤ 9223372036854775807) (h2 : o.kinds.length ≤ 9223372036854775807) (h3 : o.marks.length ≤ 9223372036854775807) (h4 : ∀ m ∈ o.marks, m.tag.length ≤ 9223372036854775807) (H : Hp) :
    AC Tryz.prog y7d [.agg (y49 o)] H (fun v H' => v = .i .i64 (obE o) ∧ H' = H) := by
  refine AC.codeP yf.at yf.ok (by simp) fun hlt => ?_
  simp only [yf]
  refine AX.sr ?_
  simp [yf.r0, y49]
  refine AX.sr ?_
  simp [yf.r1]
  refine AC.fix (yam o.name h1 _) ?_
  rw [ybl]
  cases hr : y7k o.name with
  | none =>
    simp [rdV, nv, Nd.cs, Nd.zero]
    refine AX.seq (AX.seq (AX.reg ?_))
    simp [yf.r2]
    refine AX.pcond (t := true) rfl (fun _ => ?_) (fun h => by simp at h)
    refine AX.sr ?_
    simp [yf.r3]
    refine AX.ret ?_
    simp [obE, hr]
    exact ⟨y8j hlt _ _, .refl _⟩
  | some d =>
    simp [rdV, nv, Nd.cs]
    refine AX.seq ?_
    refine AX.test (decide (d.kind < 5) || decide (0 ≤ d.cell)) [(1, .fp (y49 o) 0), (25, .b (decide (d.kind < 5) || decide (0 ≤ d.cell)))] ?_ rfl (fun hb => ?_) (fun hb => AX.skip ?_)
    · by_cases k : d.kind < 5
      · simp [yf.r2, y49, k]
      · simp [yf.r2, y49, k]
    · refine AX.sr ?_
      simp [yf.r3]
      refine AX.ret ?_
      simp at hb
      simp [obE, hr, hb]
      exact ⟨y8j hlt _ _, .refl _⟩
    simp at hb
    have hb' : ¬ (d.kind < 5 ∨ 0 ≤ d.cell) := by omega
    have X2 := y8j hlt (.cells [.i .i64 0, .s [], .i .i64 0, .s [], .i .i64 0, .i .i64 0] 6) (.cells [.i .i64 d.kind, .s d.fn, .i .i64 d.copy, .s d.name, .i .i64 d.n, .i .i64 d.cell] 6)
    have L2 := lt2 hlt (.cells [.i .i64 0, .s [], .i .i64 0, .s [], .i .i64 0, .i .i64 0] 6) (.cells [.i .i64 d.kind, .s d.fn, .i .i64 d.copy, .s d.name, .i .i64 d.n, .i .i64 d.cell] 6)
    generalize (H.add (.cells [.i .i64 0, .s [], .i .i64 0, .s [], .i .i64 0, .i .i64 0] 6)).upd H.next (.cells [.i .i64 d.kind, .s d.fn, .i .i64 d.copy, .s d.name, .i .i64 d.n, .i .i64 d.cell] 6) = X at *
    simp
    refine AX.seq (AX.seq (AX.reg ?_))
    simp [yf.r4, y49]
    refine AC.fix (ydw o.kinds 1 64 h2 _) ?_
    have eB : (kpB o.kinds && (decide ((1 : Int) ≤ o.kinds.length) && decide ((o.kinds.length : Int) ≤ 64))) = decide (kpB o.kinds = true ∧ 1 ≤ o.kinds.length ∧ o.kinds.length ≤ 64) := by
      rw [Bool.eq_iff_iff]; simp
    rw [eB]
    by_cases hk : kpB o.kinds = true ∧ 1 ≤ o.kinds.length ∧ o.kinds.length ≤ 64
    case neg =>
      simp only [hk, decide_false]
      simp
      refine AX.pcond (t := true) rfl (fun _ => ?_) (fun h => by simp at h)
      refine AX.sr ?_
      simp [yf.r5]
      refine AX.ret ?_
      have : obE o = 5 := by unfold obE; rw [hr]; simp only; rw [if_neg hb', if_pos hk]
      simp [this]
      exact ⟨X2, .refl _⟩
    have eo : obE o = if yjr o.kinds.length [] o.marks then 0 else 3 := by unfold obE; rw [hr]; simp only; rw [if_neg hb', if_neg (Classical.not_not.2 hk)]
    simp only [hk, decide_true]
    simp
    refine AX.pcond (t := false) rfl (fun h => by simp at h) (fun _ => AX.skip ?_)
    simp
    refine AX.seq (AX.seq (AX.reg ?_))
    simp [yf.r6]
    refine AX.pblock (AX.loop (ObInv o H) o.marks.length ⟨_, _, .refl _ _, 0, by omega, by omega, rfl, X2, L2, by simp [y49]⟩ ?_)
    rintro m F Y ⟨i, hi, rfl, hm, X3, L3, rfl⟩
    simp only [yf.l0]
    refine AX.seq (AX.seq (AX.reg ?_))
    simp [yf.r7, y49]
    refine AX.pcond rfl (fun hc => AX.skip ?_) (fun hc => AX.exit ?_)
    case refine_2 =>
      simp at hc
      rw [List.drop_eq_nil_of_le hc] at hm
      simp only [yjr] at hm
      simp
      refine AX.sr ?_
      simp [yf.r17]
      refine AX.ret ?_
      simp [eo, hm]
      exact ⟨X3, .refl _⟩
    simp at hc
    rw [ygm hc, mkB_eq] at hm
    simp
    have hmt := h4 _ (List.getElem_mem hc)
    generalize hmk : o.marks[i] = mk at *
    have hg : o.marks[i]? = some mk := by rw [List.getElem?_eq_getElem hc, hmk]
    refine AX.seq (AX.pblock (AX.seq (AX.reg ?_)))
    simp [yf.r8, hg, y7b]
    have X4 := X3.trans (y8j L3 (.cells [.i .i64 0, .s []] 2) (.cells [.i .i64 mk.pos, .s mk.tag] 2))
    have L4 := lt2 L3 (.cells [.i .i64 0, .s []] 2) (.cells [.i .i64 mk.pos, .s mk.tag] 2)
    have G4 : ((Y.add (.cells [.i .i64 0, .s []] 2)).upd Y.next (.cells [.i .i64 mk.pos, .s mk.tag] 2)).get Y.next = some (.cells [.i .i64 mk.pos, .s mk.tag] 2) := by simp
    generalize (Y.add (.cells [.i .i64 0, .s []] 2)).upd Y.next (.cells [.i .i64 mk.pos, .s mk.tag] 2) = Z at *
    generalize Y.next = id at *
    refine AX.seq ?_
    refine AX.testD (!yjs o.kinds.length (o.marks.take i) mk) [(1, .fp (y49 o) 0), (5, .i .i64 i), (6, .p (some (id, 0, 2))), (80, .b (!yjs o.kinds.length (o.marks.take i) mk))] ?_ rfl (fun hb => ?_) (fun hb => AX.skip ?_)
    · by_cases c1 : mk.pos < 0
      · simp [yf.r9, y49, G4, c1, yjs, show ¬ 0 ≤ mk.pos by omega]
      by_cases c2 : (o.kinds.length : Int) ≤ mk.pos
      · simp [yf.r9, y49, G4, c1, c2, yjs, show ¬ mk.pos < o.kinds.length by omega]
      by_cases c3 : mk.tag.length < 1
      · simp [yf.r9, y49, G4, c1, c2, c3, yjs, yh7, show ¬ 1 ≤ mk.tag.length by omega]
      by_cases c4 : 60 < mk.tag.length
      · simp [yf.r9, y49, G4, c1, c2, c3, c4, yjs, yh7, show ¬ mk.tag.length ≤ 60 by omega]
      have t0 : yjs o.kinds.length (o.marks.take i) mk = decide (∀ x, (o.marks.take i).getLast? = some x → x.pos ≤ mk.pos) := by
        unfold yjs yh7
        rw [decide_eq_true (show 0 ≤ mk.pos by omega), decide_eq_true (show mk.pos < o.kinds.length by omega), decide_eq_true (show 1 ≤ mk.tag.length by omega), decide_eq_true (show mk.tag.length ≤ 60 by omega)]
        simp
      cases i with
      | zero =>
        have t00 : yjs o.kinds.length [] mk = true := by simpa using t0
        simp [yf.r9, y49, G4, c1, c2, c3, c4, t00]
      | succ j =>
        have hj : j < o.marks.length := by omega
        have t1 : yjs o.kinds.length (o.marks.take (j + 1)) mk = decide (o.marks[j].pos ≤ mk.pos) := by
          rw [t0]
          have : (o.marks.take (j + 1)).getLast? = some o.marks[j] := by
            rw [List.getLast?_eq_getElem?, List.length_take, Nat.min_eq_left (by omega)]
            simp [List.getElem?_take, hj]
          simp [this]
        have hgj : o.marks[j]? = some o.marks[j] := List.getElem?_eq_getElem hj
        generalize o.marks[j] = pm at *
        have hwj : IntKind.i64.wrap (j : Int) = (j : Int) := y3e (by omega) (by omega)
        by_cases c5 : mk.pos < pm.pos
        · simp [yf.r9, y49, G4, c1, c2, c3, c4, t1, hgj, y7b, c5, hwj, show ¬ pm.pos ≤ mk.pos by omega]
        · simp [yf.r9, y49, G4, c1, c2, c3, c4, t1, hgj, y7b, c5, hwj, show pm.pos ≤ mk.pos by omega]
    · refine AX.sr ?_
      simp [yf.r10]
      refine AX.ret ?_
      simp at hb
      simp [eo, hm, hb]
      exact ⟨X4, .refl _⟩
    simp at hb
    simp
    refine AX.sr ?_
    simp [yf.r11]
    refine AX.pblock (AX.loop (Ob1Inv o i mk id Z) i ⟨_, _, .refl _ _, 0, by omega, by omega, by simp, rfl, by simp [y49]⟩ ?_)
    rintro m F X' ⟨k, hk2, rfl, hnk, rfl, rfl⟩
    simp only [yf.l1]
    refine AX.seq (AX.seq (AX.reg ?_))
    simp [yf.r12]
    refine AX.pcond rfl (fun hd => AX.skip ?_) (fun hd => AX.exit ?_)
    case refine_2 =>
      simp at hd
      have : k = i := by omega
      subst this
      simp
      refine AX.reg ?_
      simp [yf.r16, y2j hc h3]
      refine ⟨o.marks.length - (k + 1), by omega, _, _, .refl _ _, k + 1, by omega, rfl, ?_, X4, L4, by simp [y49]⟩
      rw [hm, hb]; simp [hnk]
    simp at hd
    simp
    have hk3 : k < o.marks.length := by omega
    have hgk : o.marks[k]? = some o.marks[k] := List.getElem?_eq_getElem hk3
    have htk : o.marks.take (k + 1) = o.marks.take k ++ [o.marks[k]] := by rw [List.take_add_one, hgk]; rfl
    generalize hmq : o.marks[k] = q at *
    refine AX.seq (AX.pblock ?_)
    refine AX.testD (decide (q = mk)) [(1, .fp (y49 o) 0), (5, .i .i64 i), (6, .p (some (id, 0, 2))), (7, .i .i64 k), (92, .b (decide (q = mk)))] ?_ rfl (fun hb2 => ?_) (fun hb2 => AX.skip ?_)
    · simp [yf.r13, y49, G4, hgk, y7b]
      rw [mk_eq]
      simp [y49, y7b]
    · simp at hb2
      refine AX.sr ?_
      simp [yf.r14]
      refine AX.ret ?_
      have : mk ∈ o.marks.take i := List.mem_of_getElem? (i := k) (by rw [List.getElem?_take, if_pos hd, hgk, hb2])
      simp [eo, hm, this]
      exact ⟨X4, .refl _⟩
    simp at hb2
    simp
    refine AX.reg ?_
    simp [yf.r15, y2j hd (show i ≤ 9223372036854775807 by omega)]
    refine ⟨i - (k + 1), by omega, _, _, .refl _ _, k + 1, by omega, rfl, ?_, rfl, by simp [y49]⟩
    rw [htk]
    simp [hnk]
    exact fun h => hb2 h.symm
end Go.Proofs.YtjajpilacdfnbaaGreatDoor
namespace Go.Proofs.YtjajpilacdfnbaaGreatDoor
open Am C
set_option linter.unusedSimpArgs false
set_option linter.unusedVariables false
def ye0 : List Str → List Str → List Int
  | a :: r, b :: q => y8i a b :: ye0 r q
  | _, _ => []
theorem ylv : ∀ (a b : List Str), orI (ye0 a b ++ [ybg a.length b.length]) = yhx a b
  | [], b => by
    simp only [ye0, yhx, orI, List.nil_append, ybg, cmpN]
    cases b <;> simp
  | a :: r, [] => by
    have : ¬ ((r.length : Int) + 1 < 0) := by omega
    have h2 : ¬ ((r.length : Int) + 1 = 0) := by omega
    simp [ye0, yhx, orI, ybg, this, h2]
  | a :: r, b :: q => by
    have ih := ylv r q
    have e : ybg ((a :: r).length : Nat) ((b :: q).length : Nat) = ybg r.length q.length := by
      unfold ybg; simp
    simp only [ye0, List.cons_append, orI, yhx, e, ih]
def cmpR (a b : Cn) : List Int := [ybg a.op b.op, y8i a.a b.a, y8i a.b b.b, ybg a.k b.k, y8i a.tag b.tag] ++ ye0 a.args b.args ++ [ybg a.args.length b.args.length]
theorem cmpR_eq (a b : Cn) : orI (cmpR a b) = yea a b := by
  unfold cmpR yea
  rw [List.append_assoc, y9h, ylv]
  simp only [orI]
  by_cases h : yhx a.args b.args = 0 <;> simp [h, orI] <;> (repeat' split) <;> simp_all
theorem zi_flat (l : List Int) : (zi l).flatten = l.map fun x => V.i .i64 x := by
  induction l with
  | nil => rfl
  | cons a r ih => simp [zi] at ih ⊢; exact ih
def CmInv (a b : Cn) (c5 : List Int) (H : Hp) (m : Nat) (F : Fr) (X : Hp) : Prop :=
  ∃ i v, i ≤ a.args.length ∧ i ≤ b.args.length ∧ m = a.args.length - i ∧ Acc H 1 v X (zi (c5 ++ (ye0 a.args b.args).take i)) ∧ F = [(2, .fp (y4l a) 0), (3, .fp (y4l b) 0), (5, v), (6, .i .i64 i)]
theorem yie : ∀ (a b : List Str), (ye0 a b).length = min a.length b.length
  | [], b => by simp [ye0]
  | a :: r, [] => by simp [ye0]
  | a :: r, b :: q => by simp [ye0, yie r q]
theorem yif : ∀ {a b : List Str} {i : Nat} (h : i < a.length) (h2 : i < b.length), (ye0 a b)[i]? = some (y8i a[i] b[i])
  | [], b, i, h, _ => by simp at h
  | a :: r, [], i, _, h => by simp at h
  | a :: r, b :: q, 0, _, _ => by simp [ye0]
  | a :: r, b :: q, i + 1, h, h2 => by
    simp at h h2
    simp [ye0, yif h h2]
def CmInv1 (R : List Int) (v : V) (X : Hp) (m : Nat) (F : Fr) (Y : Hp) : Prop :=
  ∃ k, k ≤ R.length ∧ m = R.length - k ∧ orI (R.take k) = 0 ∧ Y = X ∧ F = [(5, v), (7, .i .i64 k)]
theorem yi9 (a b : Cn) (ha : a.args.length ≤ 1000000) (hb : b.args.length ≤ 9223372036854775807) (H : Hp) : AC Tryz.prog y77 [.agg (y4l a), .agg (y4l b)] H (fun v H' => v = .i .i64 (yea a b) ∧ H' = H) := by
  refine AC.codeP yt.at yt.ok (by simp) fun hlt => ?_
  simp only [yt]
  refine AX.sr ?_
  simp [yt.r0, y4l]
  refine AX.seq (AX.drw ?_)
  simp [yt.r1]
  refine y3k _ (fun H2 => yfv a.op b.op H2) ?_
  simp
  refine y3k _ (fun H2 => ybz a.a b.a H2) ?_
  simp
  refine y3k _ (fun H2 => ybz a.b b.b H2) ?_
  simp
  refine y3k _ (fun H2 => yfv a.k b.k H2) ?_
  simp
  refine y3k _ (fun H2 => ybz a.tag b.tag H2) ?_
  simp [show y8y 5 [V.i .i64 0] = [.i .i64 0, .i .i64 0, .i .i64 0, .i .i64 0, .i .i64 0] from rfl]
  let c5 : List Int := [ybg a.op b.op, y8i a.a b.a, y8i a.b b.b, ybg a.k b.k, y8i a.tag b.tag]
  have A0 : Acc H 1 (.sl (some (H.next, 0, 5)) 5 1) (H.add (.cells [.i .i64 (ybg a.op b.op), .i .i64 (y8i a.a b.a), .i .i64 (y8i a.b b.b), .i .i64 (ybg a.k b.k), .i .i64 (y8i a.tag b.tag)] 5)) (zi (c5 ++ (ye0 a.args b.args).take 0)) :=
    ⟨Hp.Ext.add hlt _, Hp.add_lt hlt _, fun e he => by obtain ⟨x, _, rfl⟩ := List.mem_map.1 he; rfl, .inr ⟨H.next, 5, Nat.le_refl _, rfl, by simp [zi, c5], by simp [zi, c5]⟩⟩
  have hc5 : c5.length = 5 := rfl
  have eR : cmpR a b = c5 ++ ye0 a.args b.args ++ [ybg a.args.length b.args.length] := rfl
  generalize H.add (.cells [.i .i64 (ybg a.op b.op), .i .i64 (y8i a.a b.a), .i .i64 (y8i a.b b.b), .i .i64 (ybg a.k b.k), .i .i64 (y8i a.tag b.tag)] 5) = X0 at *
  generalize V.sl (some (H.next, 0, 5)) 5 1 = v0 at *
  clear_value c5
  refine AX.seq (AX.seq (AX.reg ?_))
  simp [yt.r2]
  refine AX.pblock (AX.loop (CmInv a b c5 H) a.args.length ⟨_, _, .refl _ _, 0, v0, by omega, by omega, by omega, A0, by simp [y4l]⟩ ?_)
  rintro m F X ⟨i, v, hia, hib, rfl, A, rfl⟩
  simp only [yt.l0]
  have hzl := yie a.args b.args
  refine AX.seq (AX.test (decide (i < a.args.length) && decide (i < b.args.length)) [(2, .fp (y4l a) 0), (3, .fp (y4l b) 0), (5, v), (6, .i .i64 i), (45, .b (decide (i < a.args.length) && decide (i < b.args.length)))] ?_ rfl (fun hc => AX.skip ?_) (fun hc => AX.exit ?_))
  · by_cases h1 : i < a.args.length
    · simp [yt.r3, y4l, ss, h1]
    · simp [yt.r3, y4l, ss, h1]
  · simp at hc
    obtain ⟨h1, h2⟩ := hc
    simp
    have hz := yif h1 h2
    have hA : (zi (c5 ++ (ye0 a.args b.args).take (i + 1))) = zi (c5 ++ (ye0 a.args b.args).take i) ++ [[V.i .i64 (y8i a.args[i] b.args[i])]] := by
      rw [List.take_add_one, hz]
      simp [zi]
    obtain ⟨v1, X1, e1, A1⟩ := A.app (bytes := 8) (ys := [[V.i .i64 (y8i a.args[i] b.args[i])]]) hlt (by simp) (by omega) (by simp) (by simp [zi, y86, hc5]; omega)
    rw [← hA] at A1
    refine AX.seq (AX.pblock (AX.drw ?_))
    simp [yt.r4, y4l, ss, h1, h2]
    refine y3k _ (fun H2 => ybz a.args[i] b.args[i] H2) ?_
    simp [y8y, -y3m, e1]
    refine AX.reg ?_
    simp [yt.r5, y2j h1 (show a.args.length ≤ 9223372036854775807 by omega)]
    exact ⟨a.args.length - (i + 1), by omega, _, _, .refl _ _, i + 1, v1, by omega, by omega, rfl, A1, by simp [y4l, ss]⟩
  simp at hc
  have hA : (ye0 a.args b.args).take i = ye0 a.args b.args := List.take_of_length_le (by rw [hzl]; omega)
  rw [hA] at A
  have hA2 : zi (cmpR a b) = zi (c5 ++ ye0 a.args b.args) ++ [[V.i .i64 (ybg a.args.length b.args.length)]] := by rw [eR]; simp [zi]
  obtain ⟨v1, X1, e1, A1⟩ := A.app (bytes := 8) (ys := [[V.i .i64 (ybg a.args.length b.args.length)]]) hlt (by simp) (by omega) (by simp) (by simp [zi, y86, hc5, hzl]; omega)
  rw [← hA2] at A1
  rw [← cmpR_eq]
  have hRl : (cmpR a b).length ≤ 1000010 := by rw [eR]; simp [hc5, hzl]; omega
  have hRn : cmpR a b ≠ [] := by rw [eR]; simp
  generalize cmpR a b = R at *
  simp
  refine AX.sr ?_
  simp [yt.r6, y4l, ss]
  refine AC.fix (yfv a.args.length b.args.length _) ?_
  simp [y8y, -y3m, e1]
  refine AX.seq (AX.seq (AX.reg ?_))
  simp [yt.r7]
  have hR0 : R ≠ [] := hRn
  obtain ⟨id, mm, h1, rfl, h2, h3⟩ : ∃ id m, H.next ≤ id ∧ v1 = .sl (some (id, 0, R.length)) R.length 1 ∧ X1.get id = some (.cells (R.map fun x => V.i .i64 x) m) ∧ m ≤ R.length := by
    have hf := zi_flat R
    rcases A1.sl with ⟨h, _⟩ | ⟨id, m, h1, h2, h3, h4⟩
    · exact absurd (by simpa [zi] using h) hR0
    · rw [hf] at h2 h3 h4
      exact ⟨id, m, h1, by simpa [zi] using h2, h3, by simpa using h4⟩
  refine AX.pblock (AX.loop (CmInv1 R (.sl (some (id, 0, R.length)) R.length 1) X1) R.length ⟨_, _, .refl _ _, 0, by omega, by omega, by simp [orI], rfl, rfl⟩ ?_)
  rintro m F Y ⟨k, hk, rfl, ho, rfl, rfl⟩
  simp only [yt.l1]
  refine AX.seq (AX.seq (AX.reg ?_))
  simp [yt.r8]
  refine AX.pcond rfl (fun hd => AX.skip ?_) (fun hd => AX.exit ?_)
  case refine_2 =>
    simp at hd
    rw [List.take_of_length_le hd] at ho
    simp
    refine AX.sr ?_
    simp [yt.r12]
    refine AX.ret ?_
    simp [ho]
    exact ⟨A1.ext, .refl _⟩
  simp at hd
  have hsp : orI R = if R[k] ≠ 0 then R[k] else orI (R.drop (k + 1)) := by
    conv => lhs; rw [← List.take_append_drop k R, List.drop_eq_getElem_cons hd]
    rw [y9h]
    simp [ho, orI]
  have hst : orI (R.take (k + 1)) = R[k] := by
    rw [List.take_add_one, List.getElem?_eq_getElem hd, y9h]
    simp [ho, orI]
    exact fun h => h.symm
  simp
  refine AX.seq (AX.pblock (AX.seq (AX.reg ?_)))
  have hdk : List.take 1 (List.drop k (R.map fun x => V.i .i64 x)) = [V.i .i64 R[k]] := by
    rw [← List.map_drop, List.drop_eq_getElem_cons hd]; rfl
  simp [yt.r9, hd, h2, h3, show k + 1 ≤ R.length from hd, hdk]
  refine AX.pcond rfl (fun he => ?_) (fun he => AX.skip ?_)
  · simp at he
    refine AX.sr ?_
    simp [yt.r10, hd, h2, h3, show k + 1 ≤ R.length from hd, hdk]
    refine AX.ret ?_
    simp [hsp, he]
    exact ⟨A1.ext, .refl _⟩
  simp at he
  simp
  refine AX.reg ?_
  simp [yt.r11, y2j hd (show R.length ≤ 9223372036854775807 by omega)]
  exact ⟨R.length - (k + 1), by omega, _, _, .refl _ _, k + 1, by omega, rfl, by rw [hst, he], rfl, by simp⟩
end Go.Proofs.YtjajpilacdfnbaaGreatDoor
