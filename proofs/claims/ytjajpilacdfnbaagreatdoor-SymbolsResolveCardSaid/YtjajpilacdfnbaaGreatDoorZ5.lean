/- What the law SymbolsResolve alone needs: S15g, Sum1, Sum3, RRa. -/
import Derived.Test.YtjajpilacdfnbaaGreatDoorZ4
namespace Go.Proofs.YtjajpilacdfnbaaGreatDoor
open Am C
set_option linter.unusedSimpArgs false
set_option linter.unusedVariables false
def ChInv {α : Type} (ask : α → Int) (cmp : α → α → Int) (l : List α) (s : Sy) (t : Nat) (H : Hp) (m : Nat) (F : Fr) (X : Hp) : Prop :=
  ∃ i, i ≤ l.length ∧ m = l.length - i ∧ chk ask cmp none l = chk ask cmp (pv l i) (l.drop i) ∧ X = H ∧ F = [(1, .fp (y53 s) 0), (t, .i .i64 i)]
theorem ynt (s : Sy) (hs : syS s) (H : Hp) : AC Tryz.prog y7r [.agg (y53 s)] H (fun v H' => v = .i .i64 (yee s) ∧ H' = H) := by
  obtain ⟨lo, lf, lc, ho, hf, hcn⟩ := hs
  refine AC.code y9.at y9.ok ?_
  simp only [y9]
  refine AX.sr ?_
  simp [y9.r0, y53]
  refine AX.seq ?_
  refine AX.test (decide (600 < s.objs.length) || decide (600 < s.fns.length) || decide (6000 < s.cons.length)) [(1, .fp (y53 s) 0), (24, .b (decide (600 < s.objs.length) || decide (600 < s.fns.length) || decide (6000 < s.cons.length)))] ?_ rfl (fun hb => ?_) (fun hb => AX.skip ?_)
  · by_cases h1 : 600 < s.objs.length
    · simp [y9.r1, y53, h1]
    by_cases h2 : 600 < s.fns.length
    · simp [y9.r1, y53, h1, h2]
    · simp [y9.r1, y53, h1, h2]
  · refine AX.sr ?_
    simp [y9.r2]
    refine AX.ret ?_
    simp at hb
    have : 600 < s.objs.length ∨ 600 < s.fns.length ∨ 6000 < s.cons.length := by omega
    simp [yee, this]
  simp at hb
  have hn : ¬ (600 < s.objs.length ∨ 600 < s.fns.length ∨ 6000 < s.cons.length) := by omega
  have eS : yee s = orI [chk obE yg1 none s.objs, chk fuE yg2 none s.fns, chk cnE yea none s.cons] := by unfold yee; rw [if_neg hn]
  rw [eS]
  simp
  refine AX.seq (AX.seq (AX.reg ?_))
  simp [y9.r3]
  refine AX.pblock (AX.loop (ChInv obE yg1 s.objs s 3 H) s.objs.length ⟨_, _, .refl _ _, 0, by omega, by omega, rfl, rfl, by simp [y53]⟩ ?_)
  rintro m F X ⟨i, hi, rfl, hch, hX, rfl⟩
  obtain rfl := hX.symm
  simp only [y9.l0]
  refine AX.seq (AX.seq (AX.reg ?_))
  simp [y9.r4, y53]
  refine AX.pcond rfl (fun hc => AX.skip ?_) (fun hc => AX.exit ?_)
  · simp at hc
    have hx := ho _ (List.getElem_mem hc)
    rw [yau hc] at hch
    have hg : s.objs[i]? = some s.objs[i] := List.getElem?_eq_getElem hc
    simp
    refine AX.seq (AX.pblock (AX.seq (AX.reg ?_)))
    generalize hxx : s.objs[i] = x at *
    simp [y9.r5, hg, y49]
    refine AC.fix (yk4 x (by have := hx.1; omega) (by have := hx.2.1; omega) (by have := hx.2.2.1; omega) (fun m hm => by have := hx.2.2.2 m hm; omega) _) ?_
    simp
    refine AX.seq (AX.seq (AX.reg ?_))
    simp [y9.r6]
    refine AX.pcond rfl (fun hd => ?_) (fun hd => AX.skip ?_)
    · simp at hd
      rw [if_pos hd] at hch
      refine AX.sr ?_
      simp [y9.r7]
      refine AX.ret ?_
      simp
      simp [hch, or1 _ _ hd]
    simp at hd
    rw [if_neg (by simp [hd])] at hch
    simp
    refine AX.testD (yb0 yg1 (pv s.objs i) x) [(1, .fp (y53 s) 0), (3, .i .i64 i), (58, .b (yb0 yg1 (pv s.objs i) x))] ?_ rfl (fun he => ?_) (fun he => AX.skip ?_)
    · cases i with
      | zero => simp [y9.r8, y53, pv, yb0]
      | succ j =>
        have hj : s.objs[j]? = some s.objs[j] := List.getElem?_eq_getElem (by omega)
        have hwj : IntKind.i64.wrap (j : Int) = (j : Int) := y3e (by omega) (by omega)
        have e1 : yb0 yg1 (pv s.objs (j + 1)) x = decide (0 ≤ yg1 s.objs[j] x) := by simp [pv, yb0, hj]
        have hy := ho _ (List.getElem_mem (show j < s.objs.length by omega))
        generalize s.objs[j] = y at *
        rw [e1, show yg1 y x = y8i y.name x.name from rfl, ymi]
        simp [y9.r8, y53, y49, hwj, hj, hg, show (0 : Int) ≤ (j : Int) + 1 by omega]
    · refine AX.sr ?_
      simp [y9.r9]
      refine AX.ret ?_
      rw [if_pos he] at hch
      simp
      simp [hch, orI]
    rw [if_neg (by simp [he])] at hch
    simp
    refine AX.reg ?_
    simp [y9.r10, y2j hc (show s.objs.length ≤ 9223372036854775807 by omega)]
    exact ⟨s.objs.length - (i + 1), by omega, _, _, .refl _ _, i + 1, by omega, rfl, hch, rfl, by simp [y53]⟩
  simp at hc
  rw [ycg hc] at hch
  simp
  have h0 := hch
  clear hch
  refine AX.seq (AX.seq (AX.reg ?_))
  simp [y9.r11]
  refine AX.pblock (AX.loop (ChInv fuE yg2 s.fns s 5 H) s.fns.length ⟨_, _, .refl _ _, 0, by omega, by omega, rfl, rfl, by simp [y53]⟩ ?_)
  rintro m F X ⟨i, hi, rfl, hch, hX, rfl⟩
  obtain rfl := hX.symm
  simp only [y9.l1]
  refine AX.seq (AX.seq (AX.reg ?_))
  simp [y9.r12, y53]
  refine AX.pcond rfl (fun hc => AX.skip ?_) (fun hc => AX.exit ?_)
  · simp at hc
    have hx := hf _ (List.getElem_mem hc)
    rw [yau hc] at hch
    have hg : s.fns[i]? = some s.fns[i] := List.getElem?_eq_getElem hc
    simp
    refine AX.seq (AX.pblock (AX.seq (AX.reg ?_)))
    generalize hxx : s.fns[i] = x at *
    simp [y9.r13, hg, y6i]
    refine AC.fix (yh4 x (by have := hx.1; omega) (by have := hx.2; omega) _) ?_
    simp
    refine AX.seq (AX.seq (AX.reg ?_))
    simp [y9.r14]
    refine AX.pcond rfl (fun hd => ?_) (fun hd => AX.skip ?_)
    · simp at hd
      rw [if_pos hd] at hch
      refine AX.sr ?_
      simp [y9.r15]
      refine AX.ret ?_
      simp
      rw [or0 _ _ h0]
      simp [hch, or1 _ _ hd]
    simp at hd
    rw [if_neg (by simp [hd])] at hch
    simp
    refine AX.testD (yb0 yg2 (pv s.fns i) x) [(1, .fp (y53 s) 0), (5, .i .i64 i), (92, .b (yb0 yg2 (pv s.fns i) x))] ?_ rfl (fun he => ?_) (fun he => AX.skip ?_)
    · cases i with
      | zero => simp [y9.r16, y53, pv, yb0]
      | succ j =>
        have hj : s.fns[j]? = some s.fns[j] := List.getElem?_eq_getElem (by omega)
        have hwj : IntKind.i64.wrap (j : Int) = (j : Int) := y3e (by omega) (by omega)
        have e1 : yb0 yg2 (pv s.fns (j + 1)) x = decide (0 ≤ yg2 s.fns[j] x) := by simp [pv, yb0, hj]
        have hy := hf _ (List.getElem_mem (show j < s.fns.length by omega))
        generalize s.fns[j] = y at *
        rw [e1, show yg2 y x = y8i y.name x.name from rfl, ymi]
        simp [y9.r16, y53, y6i, hwj, hj, hg, show (0 : Int) ≤ (j : Int) + 1 by omega]
    · refine AX.sr ?_
      simp [y9.r17]
      refine AX.ret ?_
      rw [if_pos he] at hch
      simp
      rw [or0 _ _ h0]
      simp [hch, orI]
    rw [if_neg (by simp [he])] at hch
    simp
    refine AX.reg ?_
    simp [y9.r18, y2j hc (show s.fns.length ≤ 9223372036854775807 by omega)]
    exact ⟨s.fns.length - (i + 1), by omega, _, _, .refl _ _, i + 1, by omega, rfl, hch, rfl, by simp [y53]⟩
  simp at hc
  rw [ycg hc] at hch
  simp
  have h1 := hch
  clear hch
  refine AX.seq (AX.seq (AX.reg ?_))
  simp [y9.r19]
  refine AX.pblock (AX.loop (ChInv cnE yea s.cons s 7 H) s.cons.length ⟨_, _, .refl _ _, 0, by omega, by omega, rfl, rfl, by simp [y53]⟩ ?_)
  rintro m F X ⟨i, hi, rfl, hch, hX, rfl⟩
  obtain rfl := hX.symm
  simp only [y9.l2]
  refine AX.seq (AX.seq (AX.reg ?_))
  simp [y9.r20, y53]
  refine AX.pcond rfl (fun hc => AX.skip ?_) (fun hc => AX.exit ?_)
  · simp at hc
    have hx := hcn _ (List.getElem_mem hc)
    rw [yau hc] at hch
    have hg : s.cons[i]? = some s.cons[i] := List.getElem?_eq_getElem hc
    simp
    refine AX.seq (AX.pblock (AX.seq (AX.reg ?_)))
    generalize hxx : s.cons[i] = x at *
    simp [y9.r21, hg, y4l]
    refine AC.fix (RCon_ok x (by have := hx.1; omega) (by have := hx.2.1; omega) (by have := hx.2.2.1; omega) (by have := hx.2.2.2.1; omega) (fun a ha => by have := hx.2.2.2.2 a ha; omega) _) ?_
    simp
    refine AX.seq (AX.seq (AX.reg ?_))
    simp [y9.r22]
    refine AX.pcond rfl (fun hd => ?_) (fun hd => AX.skip ?_)
    · simp at hd
      rw [if_pos hd] at hch
      refine AX.sr ?_
      simp [y9.r23]
      refine AX.ret ?_
      simp
      rw [or0 _ _ h0, or0 _ _ h1]
      simp [hch, or1 _ _ hd]
    simp at hd
    rw [if_neg (by simp [hd])] at hch
    simp
    refine AX.testD (yb0 yea (pv s.cons i) x) [(1, .fp (y53 s) 0), (7, .i .i64 i), (125, .b (yb0 yea (pv s.cons i) x))] ?_ rfl (fun he => ?_) (fun he => AX.skip ?_)
    · cases i with
      | zero => simp [y9.r24, y53, pv, yb0]
      | succ j =>
        have hj : s.cons[j]? = some s.cons[j] := List.getElem?_eq_getElem (by omega)
        have hwj : IntKind.i64.wrap (j : Int) = (j : Int) := y3e (by omega) (by omega)
        have e1 : yb0 yea (pv s.cons (j + 1)) x = decide (0 ≤ yea s.cons[j] x) := by simp [pv, yb0, hj]
        have hy := hcn _ (List.getElem_mem (show j < s.cons.length by omega))
        generalize s.cons[j] = y at *
        rw [e1]
        simp [y9.r24, y53, y4l, hwj, hj, hg, show (0 : Int) ≤ (j : Int) + 1 by omega]
        refine y3k _ (fun H2 => yi9 y x (by have := hy.2.2.2.1; omega) (by have := hx.2.2.2.1; omega) H2) ?_
        simp [y53, y4l]
    · refine AX.sr ?_
      simp [y9.r25]
      refine AX.ret ?_
      rw [if_pos he] at hch
      simp
      rw [or0 _ _ h0, or0 _ _ h1]
      simp [hch, orI]
    rw [if_neg (by simp [he])] at hch
    simp
    refine AX.reg ?_
    simp [y9.r26, y2j hc (show s.cons.length ≤ 9223372036854775807 by omega)]
    exact ⟨s.cons.length - (i + 1), by omega, _, _, .refl _ _, i + 1, by omega, rfl, hch, rfl, by simp [y53]⟩
  simp at hc
  rw [ycg hc] at hch
  simp
  refine AX.sr ?_
  simp [y9.r27]
  refine AX.ret ?_
  simp [h0, h1, hch, orI]
end Go.Proofs.YtjajpilacdfnbaaGreatDoor
namespace Go.Proofs.YtjajpilacdfnbaaGreatDoor
open Am C
set_option linter.unusedSimpArgs false
set_option linter.unusedVariables false
theorem rises24.ok : y23 Tryz.prog Tryz.f49 y1y = true := by kernel_rfl
theorem yeh (l : List Str) (hl : l.length ≤ 9223372036854775000) (H : Hp) : AC Tryz.prog y6k [ss l] H (fun v H' => v = .b (risB l) ∧ H' = H) := yga y2e.at rises24.ok l hl H
end Go.Proofs.YtjajpilacdfnbaaGreatDoor
namespace Go.Proofs.YtjajpilacdfnbaaGreatDoor
open Am C
set_option linter.unusedSimpArgs false
set_option linter.unusedVariables false
def ThI0 (s : Sy) (n : Str) (H : Hp) (m : Nat) (F : Fr) (X : Hp) : Prop :=
  ∃ i, i ≤ s.objs.length ∧ m = s.objs.length - i ∧ (s.objs.take i).any (fun o => decide (o.name = n)) = false ∧ X = H ∧ F = [(1, .s n), (2, .fp (y53 s) 0), (5, .i .i64 i)]
def ThI1 (s : Sy) (n : Str) (H : Hp) (m : Nat) (F : Fr) (X : Hp) : Prop :=
  ∃ i, i ≤ s.fns.length ∧ m = s.fns.length - i ∧ (s.fns.take i).any (fun o => decide (o.name = n)) = false ∧ X = H ∧ F = [(1, .s n), (2, .fp (y53 s) 0), (6, .i .i64 i)]
theorem yft {α : Type} {p : α → Bool} {l : List α} {i : Nat} (h : i < l.length) (hn : (l.take i).any p = false) : (l.take (i + 1)).any p = p l[i] := by
  rw [List.take_add_one, List.getElem?_eq_getElem h, List.any_append, hn]; simp
theorem yng {α : Type} {p : α → Bool} {l : List α} {i : Nat} (h : i < l.length) (hp : p l[i] = true) : l.any p = true := List.any_eq_true.2 ⟨_, List.getElem_mem h, hp⟩
theorem ynp (s : Sy) (n : Str) (h1 : s.objs.length ≤ 1000000) (h2 : s.fns.length ≤ 1000000) (H : Hp) : AC Tryz.prog y7o [.agg (y53 s), .s n] H (fun v H' => v = .b (ya5 s n) ∧ H' = H) := by
  refine AC.code y19.at y19.ok ?_
  simp only [y19]
  refine AX.sr ?_
  simp [y19.r0, y53]
  refine AX.seq (AX.seq (AX.reg ?_))
  simp [y19.r1]
  refine AX.pblock (AX.loop (ThI0 s n H) s.objs.length ⟨_, _, .refl _ _, 0, by omega, by omega, by simp, rfl, by simp [y53]⟩ ?_)
  rintro m F X ⟨i, hi, rfl, hx, rfl, rfl⟩
  simp only [y19.l0]
  refine AX.seq (AX.seq (AX.reg ?_))
  simp [y19.r2, y53]
  refine AX.pcond rfl (fun hd => AX.skip ?_) (fun hd => AX.exit ?_)
  · simp at hd
    have hg : s.objs[i]? = some s.objs[i] := List.getElem?_eq_getElem hd
    have e1 := yft (p := fun o : Ob => decide (o.name = n)) hd hx
    have e2 := yng (p := fun o : Ob => decide (o.name = n)) hd
    generalize s.objs[i] = o at *
    simp
    refine AX.seq (AX.pblock (AX.seq (AX.reg ?_)))
    simp [y19.r3, hg, y49]
    refine AX.pcond rfl (fun hb => ?_) (fun hb => AX.skip ?_)
    · refine AX.sr ?_
      simp [y19.r4]
      refine AX.ret ?_
      simp [ya5, e2 hb]
    simp
    refine AX.reg ?_
    simp [y19.r5, y2o (i := i) (by omega)]
    exact ⟨s.objs.length - (i + 1), by omega, _, _, .refl _ _, i + 1, by omega, rfl, e1.trans hb, rfl, by simp [y53]⟩
  simp at hd
  rw [List.take_of_length_le hd] at hx
  simp
  refine AX.seq (AX.seq (AX.reg ?_))
  simp [y19.r6]
  refine AX.pblock (AX.loop (ThI1 s n X) s.fns.length ⟨_, _, .refl _ _, 0, by omega, by omega, by simp, rfl, by simp [y53]⟩ ?_)
  rintro m F X2 ⟨k, hk, rfl, hy, rfl, rfl⟩
  simp only [y19.l1]
  refine AX.seq (AX.seq (AX.reg ?_))
  simp [y19.r7, y53]
  refine AX.pcond rfl (fun he => AX.skip ?_) (fun he => AX.exit ?_)
  · simp at he
    have hg : s.fns[k]? = some s.fns[k] := List.getElem?_eq_getElem he
    have e1 := yft (p := fun o : Fu => decide (o.name = n)) he hy
    have e2 := yng (p := fun o : Fu => decide (o.name = n)) he
    generalize s.fns[k] = o at *
    simp
    refine AX.seq (AX.pblock (AX.seq (AX.reg ?_)))
    simp [y19.r8, hg, y6i]
    refine AX.pcond rfl (fun hb => ?_) (fun hb => AX.skip ?_)
    · refine AX.sr ?_
      simp [y19.r9]
      refine AX.ret ?_
      simp [ya5, e2 hb]
    simp
    refine AX.reg ?_
    simp [y19.r10, y2o (i := k) (by omega)]
    exact ⟨s.fns.length - (k + 1), by omega, _, _, .refl _ _, k + 1, by omega, rfl, e1.trans hb, rfl, by simp [y53]⟩
  simp at he
  rw [List.take_of_length_le he] at hy
  simp
  refine AX.sr ?_
  simp [y19.r11]
  refine AX.ret ?_
  simp only [ya5, hx, hy]
  simp
def RckI0 (s : Su) (X : Hp) (m : Nat) (F : Fr) (Y : Hp) : Prop :=
  ∃ i, i ≤ 2 ∧ m = 2 - i ∧ (0 < i → ybe s.sys s.gives = 0) ∧ (1 < i → ybe s.sys s.wants = 0) ∧ Y = X ∧ F = [(1, .fp (y3z s) 0), (4, .i .i64 i)]
def RckI1 (s : Su) (l : List Str) (i : Nat) (X : Hp) (m : Nat) (F : Fr) (Y : Hp) : Prop :=
  ∃ k, k ≤ l.length ∧ m = l.length - k ∧ (l.take k).all (ya5 s.sys) = true ∧ Y = X ∧ F = [(1, .fp (y3z s) 0), (4, .i .i64 i), (5, ss l), (6, .i .i64 k)]
def RckI2 (s : Su) (X : Hp) (m : Nat) (F : Fr) (Y : Hp) : Prop :=
  ∃ k, k ≤ s.gives.length ∧ m = s.gives.length - k ∧ (s.gives.take k).any (fun n => decide (n ∈ s.wants)) = false ∧ Y = X ∧ F = [(1, .fp (y3z s) 0), (7, .i .i64 k)]
def RckI3 (s : Su) (X : Hp) (m : Nat) (F : Fr) (Y : Hp) : Prop :=
  ∃ k, k ≤ s.keeps.length ∧ m = s.keeps.length - k ∧ (s.keeps.take k).all y7c = true ∧ Y = X ∧ F = [(1, .fp (y3z s) 0), (8, .i .i64 k)]
theorem yje {α : Type} {p : α → Bool} {l : List α} {i : Nat} (h : i < l.length) (hn : (l.take i).all p = true) : (l.take (i + 1)).all p = p l[i] := by
  rw [List.take_add_one, List.getElem?_eq_getElem h, List.all_append, hn]; simp
theorem all_no {α : Type} {p : α → Bool} {l : List α} {i : Nat} (h : i < l.length) (hp : p l[i] = false) : l.all p = false := by
  cases hh : l.all p with
  | false => rfl
  | true => have := List.all_eq_true.1 hh _ (List.getElem_mem h); rw [hp] at this; cases this
set_option maxHeartbeats 1000000 in
theorem yh5 (s : Su) (hs : suS s) (H : Hp) : AC Tryz.prog y7p [.agg (y3z s)] H (fun v H' => v = .i .i64 (suE s) ∧ H' = H) := by
  obtain ⟨q1, q2, q3, q4, q5, q6⟩ := hs
  have q7 := q6.1
  have q8 := q6.2.1
  refine AC.code y6.at y6.ok ?_
  simp only [y6]
  refine AX.sr ?_
  simp [y6.r0, y3z]
  refine AX.seq (AX.seq (AX.reg ?_))
  simp [y6.r1]
  refine AC.fix (yfx s.name (by omega) _) ?_
  simp
  refine AX.pcond rfl (fun h1 => ?_) (fun h1 => AX.skip ?_)
  · simp at h1
    refine AX.sr ?_
    simp [y6.r2]
    refine AX.ret ?_
    simp [suE, h1]
  simp at h1
  simp
  refine AX.sr ?_
  simp [y6.r3]
  refine AC.fix (ynt s.sys q6 _) ?_
  simp
  refine AX.seq (AX.seq (AX.reg ?_))
  simp [y6.r4]
  refine AX.pcond rfl (fun h2 => ?_) (fun h2 => AX.skip ?_)
  · simp at h2
    refine AX.sr ?_
    simp [y6.r5]
    refine AX.ret ?_
    simp [suE, h1, orI, h2]
  simp at h2
  simp
  refine AX.seq (AX.seq (AX.reg ?_))
  simp [y6.r6]
  refine AX.pblock (AX.loop (RckI0 s H) 2 ⟨_, _, .refl _ _, 0, by omega, by omega, by simp, by simp, rfl, by simp [y3z]⟩ ?_)
  rintro m F X ⟨i, hi, rfl, hg, hw, rfl, rfl⟩
  simp only [y6.l0]
  refine AX.seq (AX.seq (AX.reg ?_))
  simp [y6.r7]
  refine AX.pcond rfl (fun hd => AX.skip ?_) (fun hd => AX.exit ?_)
  · simp at hd
    obtain ⟨l, hl, hll, hle⟩ : ∃ l : List Str, [[ss s.gives], [ss s.wants]][i]? = some [ss l] ∧ l.length ≤ 140737488355328 ∧ (ybe s.sys l ≠ 0 → suE s = ybe s.sys l) ∧ (ybe s.sys l = 0 → (0 < i + 1 → ybe s.sys s.gives = 0) ∧ (1 < i + 1 → ybe s.sys s.wants = 0)) := by
      match i, hd with
      | 0, _ => exact ⟨s.gives, rfl, q2, fun h => by simp [suE, h1, orI, h2, h], fun h => ⟨fun _ => h, fun h => by omega⟩⟩
      | 1, _ => exact ⟨s.wants, rfl, q3, fun h => by simp [suE, h1, orI, h2, h, hg (by omega)], fun h => ⟨fun _ => hg (by omega), fun _ => h⟩⟩
    simp
    refine AX.seq (AX.pblock (AX.seq (AX.reg ?_)))
    simp [y6.r8, y3z, y8y, show List.range 2 = [0, 1] from rfl, hl]
    refine AX.seq (AX.seq (AX.reg ?_))
    simp [y6.r9]
    refine AC.fix (yeh l (by omega) _) ?_
    simp
    refine AX.pcond rfl (fun h3 => ?_) (fun h3 => AX.skip ?_)
    · simp at h3
      refine AX.sr ?_
      simp [y6.r10]
      refine AX.ret ?_
      have : ybe s.sys l = 13 := by simp [ybe, h3]
      simp [hle.1 (by rw [this]; decide), this]
    simp at h3
    simp
    refine AX.sr ?_
    simp [y6.r11]
    refine AX.pblock (AX.loop (RckI1 s l i X) l.length ⟨_, _, .refl _ _, 0, by omega, by omega, by simp, rfl, by simp [y3z]⟩ ?_)
    rintro m F Y ⟨k, hk, rfl, ha, rfl, rfl⟩
    simp only [y6.l1]
    refine AX.seq (AX.seq (AX.reg ?_))
    simp [y6.r12, ss]
    refine AX.pcond rfl (fun he => AX.skip ?_) (fun he => AX.exit ?_)
    · simp at he
      have ht := ynp s.sys l[k] q7 q8
      have e1 := yje (p := ya5 s.sys) he ha
      have e2 := all_no (p := ya5 s.sys) he
      have hg2 : l[k]? = some l[k] := List.getElem?_eq_getElem he
      generalize l[k] = n at *
      simp
      refine AX.seq (AX.pblock (AX.seq (AX.drw ?_)))
      simp [y6.r13, y3z, ss, hg2]
      refine y3k _ (fun H2 => ht H2) ?_
      simp
      refine AX.pcond rfl (fun hb => ?_) (fun hb => AX.skip ?_)
      · simp at hb
        refine AX.sr ?_
        simp [y6.r14]
        refine AX.ret ?_
        have : ybe s.sys l = 7 := by simp only [ybe, h3, e2 hb]; rfl
        simp [hle.1 (by rw [this]; decide), this]
      simp at hb
      simp
      refine AX.reg ?_
      simp [y6.r15, y2o (i := k) (by omega)]
      exact ⟨l.length - (k + 1), by omega, _, _, .refl _ _, k + 1, by omega, rfl, e1.trans hb, rfl, by simp [y3z, ss]⟩
    simp at he
    rw [List.take_of_length_le he] at ha
    have h0 : ybe s.sys l = 0 := by simp only [ybe, h3, ha]; rfl
    obtain ⟨n1, n2⟩ := hle.2 h0
    simp
    refine AX.reg ?_
    simp [y6.r16, y2o (i := i) (by omega)]
    exact ⟨2 - (i + 1), by omega, _, _, .refl _ _, i + 1, by omega, rfl, n1, n2, rfl, by simp [y3z]⟩
  simp at hd
  have hg := hg (by omega)
  have hw := hw (by omega)
  simp
  refine AX.seq (AX.seq (AX.reg ?_))
  simp [y6.r17]
  refine AX.pblock (AX.loop (RckI2 s X) s.gives.length ⟨_, _, .refl _ _, 0, by omega, by omega, by simp, rfl, by simp [y3z]⟩ ?_)
  rintro m F Y ⟨k, hk, rfl, hx, rfl, rfl⟩
  simp only [y6.l2]
  refine AX.seq (AX.seq (AX.reg ?_))
  simp [y6.r18, y3z, ss]
  refine AX.pcond rfl (fun he => AX.skip ?_) (fun he => AX.exit ?_)
  · simp at he
    have ht := yc2 s.wants s.gives[k] (by show s.wants.length ≤ 9223372036854775807; omega)
    have e1 := yft (p := fun n => decide (n ∈ s.wants)) he hx
    have e2 := yng (p := fun n => decide (n ∈ s.wants)) he
    have hg2 : s.gives[k]? = some s.gives[k] := List.getElem?_eq_getElem he
    generalize s.gives[k] = n at *
    simp
    refine AX.seq (AX.pblock (AX.seq (AX.drw ?_)))
    simp [y6.r19, y3z, ss, hg2]
    refine y3k _ (fun H2 => ht H2) ?_
    simp [yf5]
    refine AX.pcond rfl (fun hb => ?_) (fun hb => AX.skip ?_)
    · have e3 := e2 hb
      refine AX.sr ?_
      simp [y6.r20]
      refine AX.ret ?_
      simp only [suE, e3]
      simp [h1, orI, h2, hg, hw]
    simp
    refine AX.reg ?_
    simp [y6.r21, y2o (i := k) (by omega)]
    exact ⟨s.gives.length - (k + 1), by omega, _, _, .refl _ _, k + 1, by omega, rfl, e1.trans hb, rfl, by simp [y3z, ss]⟩
  simp at he
  rw [List.take_of_length_le he] at hx
  simp
  refine AX.seq (AX.seq (AX.reg ?_))
  simp [y6.r22, y3z, ss]
  refine AX.pcond rfl (fun h6 => ?_) (fun h6 => AX.skip ?_)
  · simp at h6
    refine AX.sr ?_
    simp [y6.r23]
    refine AX.ret ?_
    simp only [suE, hx]
    simp [h1, orI, h2, hg, hw, h6]
  simp at h6
  simp
  refine AX.seq (AX.seq (AX.reg ?_))
  simp [y6.r24, y3z]
  refine AC.fix (yeh s.keeps (by omega) _) ?_
  simp
  refine AX.pcond rfl (fun h7 => ?_) (fun h7 => AX.skip ?_)
  · simp at h7
    refine AX.sr ?_
    simp [y6.r25]
    refine AX.ret ?_
    simp only [suE, hx]
    simp [h1, orI, h2, hg, hw, h7, show ¬ 6000 < s.keeps.length by omega]
  simp at h7
  simp
  refine AX.seq (AX.seq (AX.reg ?_))
  simp [y6.r26]
  refine AX.pblock (AX.loop (RckI3 s Y) s.keeps.length ⟨_, _, .refl _ _, 0, by omega, by omega, by simp, rfl, by simp [y3z, ss]⟩ ?_)
  rintro m F Z ⟨j, hj, rfl, hy, rfl, rfl⟩
  simp only [y6.l3]
  refine AX.seq (AX.seq (AX.reg ?_))
  simp [y6.r27, y3z, ss]
  refine AX.pcond rfl (fun he => AX.skip ?_) (fun he => AX.exit ?_)
  · simp at he
    have ht := yc1 s.keeps[j] (by have := q5 _ (List.getElem_mem he); omega)
    have e1 := yje (p := y7c) he hy
    have e2 := all_no (p := y7c) he
    have hg2 : s.keeps[j]? = some s.keeps[j] := List.getElem?_eq_getElem he
    generalize s.keeps[j] = n at *
    simp
    refine AX.seq (AX.pblock (AX.seq (AX.reg ?_)))
    simp [y6.r28, y3z, ss, hg2]
    refine AC.fix (ht _) ?_
    simp
    refine AX.pcond rfl (fun hb => ?_) (fun hb => AX.skip ?_)
    · simp at hb
      have e3 := e2 hb
      refine AX.sr ?_
      simp [y6.r29]
      refine AX.ret ?_
      simp only [suE, hx, e3]
      simp [h1, orI, h2, hg, hw, h7, show ¬ 6000 < s.keeps.length by omega]
    simp at hb
    simp
    refine AX.reg ?_
    simp [y6.r30, y2o (i := j) (by omega)]
    exact ⟨s.keeps.length - (j + 1), by omega, _, _, .refl _ _, j + 1, by omega, rfl, e1.trans hb, rfl, by simp [y3z, ss]⟩
  simp at he
  rw [List.take_of_length_le he] at hy
  simp
  refine AX.sr ?_
  simp [y6.r31]
  refine AX.ret ?_
  simp only [suE, hx, hy]
  simp [h1, orI, h2, hg, hw, h7, show ¬ 6000 < s.keeps.length by omega]
end Go.Proofs.YtjajpilacdfnbaaGreatDoor
namespace Go.Proofs.YtjajpilacdfnbaaGreatDoor
open Am C
set_option linter.unusedSimpArgs false
set_option linter.unusedVariables false
theorem ynh {l : List Su} {i : Nat} (h : i < l.length) : yb3 (l.take (i + 1)) = yb3 (l.take i) ++ l[i].sys.objs.map Ob.name ++ l[i].sys.fns.map Fu.name := by
  rw [List.take_add_one, List.getElem?_eq_getElem h, List.append_assoc]
  unfold yb3
  rw [List.flatMap_append]
  simp [ybi, Function.comp_def, thN]
theorem yg5 {α β : Type} {f : α → β} {l : List α} {k : Nat} (h : k < l.length) : (l.map f).take (k + 1) = (l.map f).take k ++ [f l[k]] := by
  rw [List.take_add_one, List.getElem?_map, List.getElem?_eq_getElem h]; rfl
def RaI0 (l : List Su) (H : Hp) (m : Nat) (F : Fr) (X : Hp) : Prop :=
  ∃ i, i ≤ l.length ∧ m = l.length - i ∧ X = H ∧ F = [(0, .fs (l.map y3z)), (3, ss (y3y (yb3 (l.take i)))), (4, .i .i64 i)]
def RaI1 (l : List Su) (s : Su) (i : Nat) (P : List Str) (H : Hp) (m : Nat) (F : Fr) (X : Hp) : Prop :=
  ∃ k, k ≤ s.sys.objs.length ∧ m = s.sys.objs.length - k ∧ X = H ∧ F = [(0, .fs (l.map y3z)), (3, ss (y3y (P ++ (s.sys.objs.map Ob.name).take k))), (4, .i .i64 i), (5, .i .i64 k)]
def RaI2 (l : List Su) (s : Su) (i : Nat) (P : List Str) (H : Hp) (m : Nat) (F : Fr) (X : Hp) : Prop :=
  ∃ k, k ≤ s.sys.fns.length ∧ m = s.sys.fns.length - k ∧ X = H ∧ F = [(0, .fs (l.map y3z)), (3, ss (y3y (P ++ (s.sys.fns.map Fu.name).take k))), (4, .i .i64 i), (6, .i .i64 k)]
set_option maxHeartbeats 1000000 in
theorem Rall_ok (l : List Su) (hl : l.length ≤ 8) (hs : ∀ s ∈ l, s.sys.objs.length ≤ 600 ∧ s.sys.fns.length ≤ 600) (H : Hp) : AC Tryz.prog y8o [.fs (l.map y3z)] H (fun v H' => v = ss (y3y (yb3 l)) ∧ H' = H) := by
  refine AC.codeP y16.at y16.ok (yfh _) fun hlt => ?_
  simp only [y16]
  refine AX.sr ?_
  simp [y16.r0]
  refine AX.sr ?_
  simp [y16.r1]
  refine AX.seq (AX.seq (AX.reg ?_))
  simp [y16.r2]
  refine AX.pblock (AX.loop (RaI0 l H) l.length ⟨_, _, Wk.frz0 (ydp (.refl _) (ydp (.sl0 _) (ydp (.refl _) frzF_nil))), 0, by omega, by omega, rfl, by simp [yb3]; rfl⟩ ?_)
  rintro m F X ⟨i, hi, rfl, rfl, rfl⟩
  simp only [y16.l0]
  refine AX.seq (AX.seq (AX.reg ?_))
  simp [y16.r3]
  refine AX.pcond rfl (fun hd => AX.skip ?_) (fun hd => AX.exit ?_)
  · simp at hd
    have hg : l[i]? = some l[i] := List.getElem?_eq_getElem hd
    have hz := hs _ (List.getElem_mem hd)
    have hal := yd6 (l.take i) fun s h => hs s (List.mem_of_mem_take h)
    have e3 := ynh hd
    simp only [List.length_take] at hal
    generalize l[i] = s at *
    generalize yb3 (l.take i) = P at *
    simp
    refine AX.seq (AX.pblock (AX.seq (AX.seq (AX.reg ?_))))
    simp [y16.r4]
    refine AX.pblock (AX.loop (RaI1 l s i P X) s.sys.objs.length ⟨_, _, .refl _ _, 0, by omega, by omega, rfl, by simp⟩ ?_)
    rintro m F Y ⟨k, hk, rfl, rfl, rfl⟩
    simp only [y16.l1]
    refine AX.seq (AX.seq (AX.reg ?_))
    simp [y16.r5, hg, y3z]
    refine AX.pcond rfl (fun hb => AX.skip ?_) (fun hb => AX.exit ?_)
    · simp at hb
      have hg2 : s.sys.objs[k]? = some s.sys.objs[k] := List.getElem?_eq_getElem hb
      have e4 := yg5 (f := Ob.name) hb
      have hsl := y9d (P ++ (s.sys.objs.map Ob.name).take k)
      have htl : ((s.sys.objs.map Ob.name).take k).length ≤ 600 := by simp; omega
      generalize s.sys.objs[k] = o at *
      simp
      refine AX.seq (AX.pblock (AX.reg ?_))
      simp [y16.r6, hg, y3z, hg2, y49, -List.map_take]
      refine AC.fix (yfy _ o.name (by simp only [List.length_append] at hsl; omega) _) ?_
      rw [← y91, List.append_assoc, ← e4]
      simp [-List.map_take]
      refine AX.reg ?_
      simp [y16.r7, y2o (i := k) (by omega), -List.map_take]
      exact ⟨s.sys.objs.length - (k + 1), by omega, _, _, .refl _ _, k + 1, by omega, rfl, rfl, by simp [y3z, -List.map_take]⟩
    simp at hb
    rw [List.take_of_length_le (by simpa using hb)]
    obtain ⟨Q, hQ⟩ : ∃ Q, Q = P ++ s.sys.objs.map Ob.name := ⟨_, rfl⟩
    have hQl : Q.length ≤ 9600 + 600 := by rw [hQ]; simp; omega
    rw [← hQ] at e3 ⊢
    clear hQ
    simp
    refine AX.sr ?_
    simp [y16.r8]
    refine AX.pblock (AX.loop (RaI2 l s i Q Y) s.sys.fns.length ⟨_, _, .refl _ _, 0, by omega, by omega, rfl, by simp [y3z]⟩ ?_)
    rintro m F Y ⟨k, hk, rfl, rfl, rfl⟩
    simp only [y16.l2]
    refine AX.seq (AX.seq (AX.reg ?_))
    simp [y16.r9, hg, y3z]
    refine AX.pcond rfl (fun hb => AX.skip ?_) (fun hb => AX.exit ?_)
    · simp at hb
      have hg2 : s.sys.fns[k]? = some s.sys.fns[k] := List.getElem?_eq_getElem hb
      have e4 := yg5 (f := Fu.name) hb
      have hsl := y9d (Q ++ (s.sys.fns.map Fu.name).take k)
      have htl : ((s.sys.fns.map Fu.name).take k).length ≤ 600 := by simp; omega
      generalize s.sys.fns[k] = o at *
      simp
      refine AX.seq (AX.pblock (AX.reg ?_))
      simp [y16.r10, hg, y3z, hg2, y6i, -List.map_take]
      refine AC.fix (yfy _ o.name (by simp only [List.length_append] at hsl; omega) _) ?_
      rw [← y91, List.append_assoc, ← e4]
      simp [-List.map_take]
      refine AX.reg ?_
      simp [y16.r11, y2o (i := k) (by omega), -List.map_take]
      exact ⟨s.sys.fns.length - (k + 1), by omega, _, _, .refl _ _, k + 1, by omega, rfl, rfl, by simp [y3z, -List.map_take]⟩
    simp at hb
    rw [List.take_of_length_le (by simpa using hb)]
    rw [← e3]
    simp
    refine AX.reg ?_
    simp [y16.r12, y2o (i := i) (by omega)]
    exact ⟨l.length - (i + 1), by omega, _, _, .refl _ _, i + 1, by omega, rfl, rfl, by simp [y3z]⟩
  simp at hd
  rw [List.take_of_length_le hd]
  simp
  refine AX.sr ?_
  simp [y16.r13]
  refine AX.ret ?_
  simp
  exact ⟨.refl _, .refl _⟩
def ob0 : Ob := ⟨[], [], []⟩
def fu0 : Fu := ⟨[], [], []⟩
def prT : Option Th → Ob × Fu
  | some (.inl o) => (o, fu0)
  | some (.inr f) => (ob0, f)
  | none => (ob0, fu0)
def inV (s : Sy) (n : Str) : V := let t := (ybi s).find? fun t => decide (thN t = n); .tup [.agg (y49 (prT t).1), .agg (y6i (prT t).2), .b t.isSome]
theorem yd1 {H : Hp} {S : Nat → Prop} {a b c a' b' c' : V} (h1 : Frz H S a a') (h2 : Frz H S b b') (h3 : Frz H S c c') : Frz H S (.tup [a, b, c]) (.tup [a', b', c']) :=
  .tup _ _ rfl fun j u v hu hv => by
    match j, hu, hv with
    | 0, hu, hv => simp at hu hv; subst hu; subst hv; exact h1
    | 1, hu, hv => simp at hu hv; subst hu; subst hv; exact h2
    | 2, hu, hv => simp at hu hv; subst hu; subst hv; exact h3
theorem yfg {H : Hp} {S : Nat → Prop} {a b c a' b' c' : V} (h1 : Frz H S a a') (h2 : Frz H S b b') (h3 : Frz H S c c') : Frz H S (.agg [a, b, c]) (.agg [a', b', c']) :=
  .agg _ _ rfl fun j u v hu hv => by
    match j, hu, hv with
    | 0, hu, hv => simp at hu hv; subst hu; subst hv; exact h1
    | 1, hu, hv => simp at hu hv; subst hu; subst hv; exact h2
    | 2, hu, hv => simp at hu hv; subst hu; subst hv; exact h3
theorem ymj {H : Hp} {S : Nat → Prop} : Frz H S (.agg [.s [], .s [], .sl none 0 0]) (.agg (y49 ob0)) := yfg (.refl _) (.refl _) (.sl0 _)
def RiI0 (s : Sy) (n : Str) (a4 a5 : Nat) (H : Hp) (m : Nat) (F : Fr) (X : Hp) : Prop :=
  ∃ k, k ≤ s.objs.length ∧ m = s.objs.length - k ∧ (s.objs.take k).find? (fun o => decide (o.name = n)) = none ∧ X = H ∧ F = [(1, .s n), (2, .fp (y53 s) 0), (4, .p (some (a4, 0, 3))), (5, .p (some (a5, 0, 3))), (7, .i .i64 k)]
def RiI1 (s : Sy) (n : Str) (a4 a5 : Nat) (H : Hp) (m : Nat) (F : Fr) (X : Hp) : Prop :=
  ∃ k, k ≤ s.fns.length ∧ m = s.fns.length - k ∧ (s.fns.take k).find? (fun o => decide (o.name = n)) = none ∧ X = H ∧ F = [(1, .s n), (2, .fp (y53 s) 0), (4, .p (some (a4, 0, 3))), (5, .p (some (a5, 0, 3))), (8, .i .i64 k)]
theorem find_ths {s : Sy} {n : Str} : (∀ o, s.objs.find? (fun o => decide (o.name = n)) = some o → (ybi s).find? (fun t => decide (thN t = n)) = some (.inl o)) ∧
    (s.objs.find? (fun o => decide (o.name = n)) = none → (ybi s).find? (fun t => decide (thN t = n)) = (s.fns.find? fun o => decide (o.name = n)).map .inr) := by
  have e1 : (s.objs.map (Sum.inl (β := Fu))).find? (fun t => decide (thN t = n)) = (s.objs.find? fun o => decide (o.name = n)).map .inl := by
    rw [List.find?_map]; rfl
  have e2 : (s.fns.map (Sum.inr (α := Ob))).find? (fun t => decide (thN t = n)) = (s.fns.find? fun o => decide (o.name = n)).map .inr := by
    rw [List.find?_map]; rfl
  unfold ybi
  rw [List.find?_append, e1, e2]
  constructor
  · intro o h; rw [h]; rfl
  · intro h; rw [h]; rfl
theorem Rin_ok (s : Sy) (n : Str) (h1 : s.objs.length ≤ 600) (h2 : s.fns.length ≤ 600) (H : Hp) : AC Tryz.prog y98 [.agg (y53 s), .s n] H (fun v H' => v = inV s n ∧ H' = H) := by
  obtain ⟨f1, f2⟩ := @find_ths s n
  refine AC.codeP y1o.at y1o.ok (by simp [inV, y49, y6i, y7b]) fun hlt => ?_
  simp only [y1o]
  refine AX.sr ?_
  simp [y1o.r0, y53]
  have hE := (Hp.Ext.add hlt (.cells [.s [], .s [], .sl none 0 0] 3)).trans (Hp.Ext.add (Hp.add_lt hlt _) (.cells [.s [], .s [], .s []] 3))
  have hL := Hp.add_lt (Hp.add_lt hlt (.cells [.s [], .s [], .sl none 0 0] 3)) (.cells [.s [], .s [], .s []] 3)
  have g4 : ((H.add (.cells [.s [], .s [], .sl none 0 0] 3)).add (.cells [.s [], .s [], .s []] 3)).get H.next = some (.cells [.s [], .s [], .sl none 0 0] 3) := by simp
  have g5 : ((H.add (.cells [.s [], .s [], .sl none 0 0] 3)).add (.cells [.s [], .s [], .s []] 3)).get (H.next + 1) = some (.cells [.s [], .s [], .s []] 3) := by simp
  obtain ⟨a4, ha4⟩ : ∃ a, a = H.next := ⟨_, rfl⟩
  obtain ⟨a5, ha5⟩ : ∃ a, a = H.next + 1 := ⟨_, rfl⟩
  have h4 : H.next ≤ a4 := by omega
  have h5 : H.next ≤ a5 := by omega
  have h45 : a4 ≠ a5 := by omega
  have hret : ∀ (b4 b5 : Blk) (Z : Hp), H.Ext Z → (∀ id blk, Z.get id = some blk → id < Z.next) → H.Ext ((Z.upd a4 b4).upd a5 b5) := fun b4 b5 Z e1 e2 => (e1.upd hlt h4 _).upd hlt h5 _
  rw [← ha5] at g5
  rw [← ha5]
  rw [← ha4] at g4
  rw [← ha4]
  generalize (H.add (.cells [.s [], .s [], .sl none 0 0] 3)).add (.cells [.s [], .s [], .s []] 3) = X at *
  clear ha4 ha5
  refine AX.seq (AX.seq (AX.reg ?_))
  simp [y1o.r1]
  refine AX.pblock (AX.loop (RiI0 s n a4 a5 X) s.objs.length ⟨_, _, .refl _ _, 0, by omega, by omega, by simp, rfl, by simp [y53]⟩ ?_)
  rintro m F Y ⟨k, hk, rfl, hf, rfl, rfl⟩
  simp only [y1o.l0]
  refine AX.seq (AX.seq (AX.reg ?_))
  simp [y1o.r2, y53]
  refine AX.pcond rfl (fun hd => AX.skip ?_) (fun hd => AX.exit ?_)
  · simp at hd
    have hg : s.objs[k]? = some s.objs[k] := List.getElem?_eq_getElem hd
    obtain ⟨e1, e2⟩ := ygw hd hf
    generalize s.objs[k] = o at *
    simp
    refine AX.seq (AX.pblock (AX.seq (AX.reg ?_)))
    simp [y1o.r3, hg, y49]
    refine AX.pcond rfl (fun hb => ?_) (fun hb => AX.skip ?_)
    · have e3 := f1 _ (e1 hb)
      have e4 : inV s n = .tup [.agg (y49 o), .agg (y6i fu0), .b true] := by unfold inV; rw [e3]; rfl
      refine AX.sr ?_
      simp [y1o.r4, hg, g4, g5, h45, h45.symm, y49]
      refine AX.ret ?_
      rw [e4]
      simp [y49, h45, h45.symm]
      exact ⟨hret _ _ _ hE hL, .refl _⟩
    simp
    refine AX.reg ?_
    simp [y1o.r5, y2o (i := k) (by omega)]
    exact ⟨s.objs.length - (k + 1), by omega, _, _, .refl _ _, k + 1, by omega, rfl, e2 hb, rfl, by simp [y53]⟩
  simp at hd
  rw [List.take_of_length_le hd] at hf
  have f3 := f2 hf
  simp
  refine AX.seq (AX.seq (AX.reg ?_))
  simp [y1o.r6]
  refine AX.pblock (AX.loop (RiI1 s n a4 a5 Y) s.fns.length ⟨_, _, .refl _ _, 0, by omega, by omega, by simp, rfl, by simp [y53]⟩ ?_)
  rintro m F Z ⟨k, hk, rfl, hf2, rfl, rfl⟩
  simp only [y1o.l1]
  refine AX.seq (AX.seq (AX.reg ?_))
  simp [y1o.r7, y53]
  refine AX.pcond rfl (fun hd => AX.skip ?_) (fun hd => AX.exit ?_)
  · simp at hd
    have hg : s.fns[k]? = some s.fns[k] := List.getElem?_eq_getElem hd
    obtain ⟨e1, e2⟩ := ygw hd hf2
    generalize s.fns[k] = o at *
    simp
    refine AX.seq (AX.pblock (AX.seq (AX.reg ?_)))
    simp [y1o.r8, hg, y6i]
    refine AX.pcond rfl (fun hb => ?_) (fun hb => AX.skip ?_)
    · rw [e1 hb] at f3
      have e4 : inV s n = .tup [.agg (y49 ob0), .agg (y6i o), .b true] := by unfold inV; rw [f3]; rfl
      refine AX.seq (AX.drw ?_)
      simp [y1o.r9, hg, g4, g5, h45, h45.symm, y6i]
      refine AX.ret ?_
      rw [e4]
      simp [y6i, h45, h45.symm]
      exact ⟨hret _ _ _ hE hL, yd1 ymj (.refl _) (.refl _)⟩
    simp
    refine AX.reg ?_
    simp [y1o.r10, y2o (i := k) (by omega)]
    exact ⟨s.fns.length - (k + 1), by omega, _, _, .refl _ _, k + 1, by omega, rfl, e2 hb, rfl, by simp [y53]⟩
  simp at hd
  rw [List.take_of_length_le hd] at hf2
  rw [hf2] at f3
  have e4 : inV s n = .tup [.agg (y49 ob0), .agg (y6i fu0), .b false] := by unfold inV; rw [f3]; rfl
  simp
  refine AX.sr ?_
  simp [y1o.r11, g4, g5, h45, h45.symm]
  refine AX.ret ?_
  rw [e4]
  simp [h45, h45.symm]
  exact ⟨hret _ _ _ hE hL, yd1 ymj (.refl _) (.refl _)⟩
end Go.Proofs.YtjajpilacdfnbaaGreatDoor
