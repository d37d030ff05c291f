/- Part 28 of the proof of the laws of the queries: S20f, Sum1, Sum2, Sum3. -/
import Derived.Test.YtjajpilacdfnbaaGreatDoorX25
import Derived.Test.YtjajpilacdfnbaaGreatDoorX26
import Derived.Test.YtjajpilacdfnbaaGreatDoorX27
namespace Go.Proofs.YtjajpilacdfnbaaGreatDoor
open Am C
set_option linter.unusedSimpArgs false
set_option linter.unusedVariables false
def EaInv {α : Type} (ask : α → Int) (cmp : α → α → Int) (enc : α → List V) (l : List α) (f g : Go.FuncId) (H : Hp) (m : Nat) (F : Fr) (X : Hp) : Prop :=
  ∃ i, i ≤ l.length ∧ m = l.length - i ∧ chk ask cmp none l = chk ask cmp (pv l i) (l.drop i) ∧ H.Ext X ∧ (∀ id blk, X.get id = some blk → id < X.next) ∧
    F = [(0, .fs (l.map enc)), (1, .fn f []), (2, .fn g []), (10, .fs (l.map enc)), (11, .i .i64 l.length), (12, .i .i64 i)]
theorem yka (l : List Ob) (hl : l.length ≤ 9223372036854775807) (hs : ∀ x ∈ l, obS x) (H : Hp) : AC Tryz.prog y6f [.fs (l.map y49), .fn y6e [], .fn y6w []] H (fun v H' => v = .i .i64 (chk obE yg1 none l) ∧ H' = H) := by
  refine AC.codeP yy.at yy.ok (by simp) fun hlt => ?_
  simp only [yy]
  refine AX.sr ?_
  simp [yy.r0]
  refine AX.seq (AX.seq (AX.reg ?_))
  simp [yy.r1]
  refine AX.pblock (AX.loop (EaInv obE yg1 y49 l y6e y6w H) l.length ⟨_, _, .refl _ _, 0, by omega, by omega, rfl, .refl _, hlt, by simp⟩ ?_)
  rintro m F X ⟨i, hi, rfl, hch, X1, L1, rfl⟩
  simp only [yy.l0]
  refine AX.sr ?_
  simp [yy.r2]
  refine AX.seq (AX.pcond rfl (fun hd => AX.skip ?_) (fun hd => AX.exit ?_))
  case refine_2 =>
    simp at hd
    rw [ycg hd] at hch
    simp
    refine AX.sr ?_
    simp [yy.r10]
    refine AX.ret ?_
    simp [hch]
    exact ⟨X1, .refl _⟩
  simp at hd
  have hx := hs _ (List.getElem_mem hd)
  rw [yau hd] at hch
  have hg : l[i]? = some l[i] := List.getElem?_eq_getElem hd
  simp
  generalize l[i] = x at *
  refine AX.seq (AX.pblock (AX.seq (AX.reg ?_)))
  simp [yy.r3, hg, y49, y7b, ss]
  have X4 := X1.trans (y8j L1 (.cells [.s [], .s [], .sl none 0 0] 3) (.cells [.s x.name, .s x.kinds, .fs (x.marks.map y7b)] 3))
  have L4 := lt2 L1 (.cells [.s [], .s [], .sl none 0 0] 3) (.cells [.s x.name, .s x.kinds, .fs (x.marks.map y7b)] 3)
  have G4 : ((X.add (.cells [.s [], .s [], .sl none 0 0] 3)).upd X.next (.cells [.s x.name, .s x.kinds, .fs (x.marks.map y7b)] 3)).get X.next = some (.cells [.s x.name, .s x.kinds, .fs (x.marks.map y7b)] 3) := by simp
  generalize (X.add (.cells [.s [], .s [], .sl none 0 0] 3)).upd X.next (.cells [.s x.name, .s x.kinds, .fs (x.marks.map y7b)] 3) = Z at *
  generalize X.next = id at *
  refine AX.seq (AX.seq (AX.reg ?_))
  simp [yy.r4, G4]
  refine AC.fix (yk2 x (by have := hx.1; omega) (by have := hx.2.1; omega) (by have := hx.2.2.1; omega) (fun m hm => by have := hx.2.2.2 m hm; omega) _) ?_
  simp
  refine AX.sr ?_
  simp [yy.r5]
  refine AX.pcond rfl (fun he => ?_) (fun he => AX.skip ?_)
  · simp at he
    rw [if_pos he] at hch
    refine AX.sr ?_
    simp [yy.r6]
    refine AX.ret ?_
    simp [hch]
    exact ⟨X4, .refl _⟩
  simp at he
  rw [if_neg (by simp [he])] at hch
  simp
  refine AX.testD (yb0 yg1 (pv l i) x) [(0, .fs (l.map y49)), (1, .fn y6e []), (2, .fn y6w []), (10, .fs (l.map y49)), (11, .i .i64 l.length), (12, .i .i64 i), (35, .b (yb0 yg1 (pv l i) x))] ?_ rfl (fun hf => ?_) (fun hf => AX.skip ?_)
  · cases i with
    | zero => simp [yy.r7, pv, yb0]
    | succ j =>
      have hj : l[j]? = some l[j] := List.getElem?_eq_getElem (by omega)
      have hwj : IntKind.i64.wrap (j : Int) = (j : Int) := y3e (by omega) (by omega)
      have e1 : yb0 yg1 (pv l (j + 1)) x = decide (0 ≤ yg1 l[j] x) := by simp [pv, yb0, hj]
      have hy := hs _ (List.getElem_mem (show j < l.length by omega))
      generalize l[j] = y at *
      rw [e1]
      simp [yy.r7, hwj, hj, hg, G4, y49, y7b, ss]
      refine y3k _ (fun H2 => byObj_ok y x H2) ?_
      simp [yg1, y49]
      all_goals rfl
  · refine AX.sr ?_
    simp [yy.r8]
    refine AX.ret ?_
    rw [if_pos hf] at hch
    simp [hch]
    exact ⟨X4, .refl _⟩
  rw [if_neg (by simp [hf])] at hch
  simp
  refine AX.reg ?_
  simp [yy.r9, y2j hd hl]
  exact ⟨l.length - (i + 1), by omega, _, _, .refl _ _, i + 1, by omega, rfl, hch, X4, L4, by simp⟩
theorem yny (l : List Fu) (hl : l.length ≤ 9223372036854775807) (hs : ∀ x ∈ l, fuS x) (H : Hp) : AC Tryz.prog y6u [.fs (l.map y6i), .fn y5t [], .fn y7f []] H (fun v H' => v = .i .i64 (chk fuE yg2 none l) ∧ H' = H) := by
  refine AC.codeP y13.at y13.ok (by simp) fun hlt => ?_
  simp only [y13]
  refine AX.sr ?_
  simp [y13.r0]
  refine AX.seq (AX.seq (AX.reg ?_))
  simp [y13.r1]
  refine AX.pblock (AX.loop (EaInv fuE yg2 y6i l y5t y7f H) l.length ⟨_, _, .refl _ _, 0, by omega, by omega, rfl, .refl _, hlt, by simp⟩ ?_)
  rintro m F X ⟨i, hi, rfl, hch, X1, L1, rfl⟩
  simp only [y13.l0]
  refine AX.sr ?_
  simp [y13.r2]
  refine AX.seq (AX.pcond rfl (fun hd => AX.skip ?_) (fun hd => AX.exit ?_))
  case refine_2 =>
    simp at hd
    rw [ycg hd] at hch
    simp
    refine AX.sr ?_
    simp [y13.r10]
    refine AX.ret ?_
    simp [hch]
    exact ⟨X1, .refl _⟩
  simp at hd
  have hx := hs _ (List.getElem_mem hd)
  rw [yau hd] at hch
  have hg : l[i]? = some l[i] := List.getElem?_eq_getElem hd
  simp
  generalize l[i] = x at *
  refine AX.seq (AX.pblock (AX.seq (AX.reg ?_)))
  simp [y13.r3, hg, y6i, y7b, ss]
  have X4 := X1.trans (y8j L1 (.cells [.s [], .s [], .s []] 3) (.cells [.s x.name, .s x.kinds, .s x.ret] 3))
  have L4 := lt2 L1 (.cells [.s [], .s [], .s []] 3) (.cells [.s x.name, .s x.kinds, .s x.ret] 3)
  have G4 : ((X.add (.cells [.s [], .s [], .s []] 3)).upd X.next (.cells [.s x.name, .s x.kinds, .s x.ret] 3)).get X.next = some (.cells [.s x.name, .s x.kinds, .s x.ret] 3) := by simp
  generalize (X.add (.cells [.s [], .s [], .s []] 3)).upd X.next (.cells [.s x.name, .s x.kinds, .s x.ret] 3) = Z at *
  generalize X.next = id at *
  refine AX.seq (AX.seq (AX.reg ?_))
  simp [y13.r4, G4]
  refine AC.fix (yh3 x (by have := hx.1; omega) (by have := hx.2; omega) _) ?_
  simp
  refine AX.sr ?_
  simp [y13.r5]
  refine AX.pcond rfl (fun he => ?_) (fun he => AX.skip ?_)
  · simp at he
    rw [if_pos he] at hch
    refine AX.sr ?_
    simp [y13.r6]
    refine AX.ret ?_
    simp [hch]
    exact ⟨X4, .refl _⟩
  simp at he
  rw [if_neg (by simp [he])] at hch
  simp
  refine AX.testD (yb0 yg2 (pv l i) x) [(0, .fs (l.map y6i)), (1, .fn y5t []), (2, .fn y7f []), (10, .fs (l.map y6i)), (11, .i .i64 l.length), (12, .i .i64 i), (35, .b (yb0 yg2 (pv l i) x))] ?_ rfl (fun hf => ?_) (fun hf => AX.skip ?_)
  · cases i with
    | zero => simp [y13.r7, pv, yb0]
    | succ j =>
      have hj : l[j]? = some l[j] := List.getElem?_eq_getElem (by omega)
      have hwj : IntKind.i64.wrap (j : Int) = (j : Int) := y3e (by omega) (by omega)
      have e1 : yb0 yg2 (pv l (j + 1)) x = decide (0 ≤ yg2 l[j] x) := by simp [pv, yb0, hj]
      have hy := hs _ (List.getElem_mem (show j < l.length by omega))
      generalize l[j] = y at *
      rw [e1]
      simp [y13.r7, hwj, hj, hg, G4, y6i, y7b, ss]
      refine y3k _ (fun H2 => byFn_ok y x H2) ?_
      simp [yg2, y6i]
      all_goals rfl
  · refine AX.sr ?_
    simp [y13.r8]
    refine AX.ret ?_
    rw [if_pos hf] at hch
    simp [hch]
    exact ⟨X4, .refl _⟩
  rw [if_neg (by simp [hf])] at hch
  simp
  refine AX.reg ?_
  simp [y13.r9, y2j hd hl]
  exact ⟨l.length - (i + 1), by omega, _, _, .refl _ _, i + 1, by omega, rfl, hch, X4, L4, by simp⟩
theorem ykb (l : List Cn) (hl : l.length ≤ 9223372036854775807) (hs : ∀ x ∈ l, cnS x) (H : Hp) : AC Tryz.prog y6g [.fs (l.map y4l), .fn y83 [], .fn y62 []] H (fun v H' => v = .i .i64 (chk cnE yea none l) ∧ H' = H) := by
  refine AC.codeP yz.at yz.ok (by simp) fun hlt => ?_
  simp only [yz]
  refine AX.sr ?_
  simp [yz.r0]
  refine AX.seq (AX.seq (AX.reg ?_))
  simp [yz.r1]
  refine AX.pblock (AX.loop (EaInv cnE yea y4l l y83 y62 H) l.length ⟨_, _, .refl _ _, 0, by omega, by omega, rfl, .refl _, hlt, by simp⟩ ?_)
  rintro m F X ⟨i, hi, rfl, hch, X1, L1, rfl⟩
  simp only [yz.l0]
  refine AX.sr ?_
  simp [yz.r2]
  refine AX.seq (AX.pcond rfl (fun hd => AX.skip ?_) (fun hd => AX.exit ?_))
  case refine_2 =>
    simp at hd
    rw [ycg hd] at hch
    simp
    refine AX.sr ?_
    simp [yz.r10]
    refine AX.ret ?_
    simp [hch]
    exact ⟨X1, .refl _⟩
  simp at hd
  have hx := hs _ (List.getElem_mem hd)
  rw [yau hd] at hch
  have hg : l[i]? = some l[i] := List.getElem?_eq_getElem hd
  simp
  generalize l[i] = x at *
  refine AX.seq (AX.pblock (AX.seq (AX.reg ?_)))
  simp [yz.r3, hg, y4l, y7b, ss]
  have X4 := X1.trans (y8j L1 (.cells [.i .i64 0, .s [], .s [], .i .i64 0, .s [], .sl none 0 0] 6) (.cells [.i .i64 x.op, .s x.a, .s x.b, .i .i64 x.k, .s x.tag, .fs (x.args.map fun a => [.s a])] 6))
  have L4 := lt2 L1 (.cells [.i .i64 0, .s [], .s [], .i .i64 0, .s [], .sl none 0 0] 6) (.cells [.i .i64 x.op, .s x.a, .s x.b, .i .i64 x.k, .s x.tag, .fs (x.args.map fun a => [.s a])] 6)
  have G4 : ((X.add (.cells [.i .i64 0, .s [], .s [], .i .i64 0, .s [], .sl none 0 0] 6)).upd X.next (.cells [.i .i64 x.op, .s x.a, .s x.b, .i .i64 x.k, .s x.tag, .fs (x.args.map fun a => [.s a])] 6)).get X.next = some (.cells [.i .i64 x.op, .s x.a, .s x.b, .i .i64 x.k, .s x.tag, .fs (x.args.map fun a => [.s a])] 6) := by simp
  generalize (X.add (.cells [.i .i64 0, .s [], .s [], .i .i64 0, .s [], .sl none 0 0] 6)).upd X.next (.cells [.i .i64 x.op, .s x.a, .s x.b, .i .i64 x.k, .s x.tag, .fs (x.args.map fun a => [.s a])] 6) = Z at *
  generalize X.next = id at *
  refine AX.seq (AX.seq (AX.reg ?_))
  simp [yz.r4, G4]
  refine AC.fix (con_ok x (by have := hx.1; omega) (by have := hx.2.1; omega) (by have := hx.2.2.1; omega) (by have := hx.2.2.2.1; omega) (fun a ha => by have := hx.2.2.2.2 a ha; omega) _) ?_
  simp
  refine AX.sr ?_
  simp [yz.r5]
  refine AX.pcond rfl (fun he => ?_) (fun he => AX.skip ?_)
  · simp at he
    rw [if_pos he] at hch
    refine AX.sr ?_
    simp [yz.r6]
    refine AX.ret ?_
    simp [hch]
    exact ⟨X4, .refl _⟩
  simp at he
  rw [if_neg (by simp [he])] at hch
  simp
  refine AX.testD (yb0 yea (pv l i) x) [(0, .fs (l.map y4l)), (1, .fn y83 []), (2, .fn y62 []), (10, .fs (l.map y4l)), (11, .i .i64 l.length), (12, .i .i64 i), (35, .b (yb0 yea (pv l i) x))] ?_ rfl (fun hf => ?_) (fun hf => AX.skip ?_)
  · cases i with
    | zero => simp [yz.r7, pv, yb0]
    | succ j =>
      have hj : l[j]? = some l[j] := List.getElem?_eq_getElem (by omega)
      have hwj : IntKind.i64.wrap (j : Int) = (j : Int) := y3e (by omega) (by omega)
      have e1 : yb0 yea (pv l (j + 1)) x = decide (0 ≤ yea l[j] x) := by simp [pv, yb0, hj]
      have hy := hs _ (List.getElem_mem (show j < l.length by omega))
      generalize l[j] = y at *
      rw [e1]
      simp [yz.r7, hwj, hj, hg, G4, y4l, y7b, ss]
      refine y3k _ (fun H2 => yi6 y x (by have := hy.2.2.2.1; omega) (by have := hx.2.2.2.1; omega) H2) ?_
      simp [yea, y4l]
      all_goals rfl
  · refine AX.sr ?_
    simp [yz.r8]
    refine AX.ret ?_
    rw [if_pos hf] at hch
    simp [hch]
    exact ⟨X4, .refl _⟩
  rw [if_neg (by simp [hf])] at hch
  simp
  refine AX.reg ?_
  simp [yz.r9, y2j hd hl]
  exact ⟨l.length - (i + 1), by omega, _, _, .refl _ _, i + 1, by omega, rfl, hch, X4, L4, by simp⟩
theorem yno (s : Sy) (hs : syS s) (H : Hp) : AC Tryz.prog y9a [.agg (y53 s)] H (fun v H' => v = .i .i64 (yee s) ∧ H' = H) := by
  obtain ⟨lo, lf, lc, ho, hf, hcn⟩ := hs
  refine AC.code y1v.at y1v.ok ?_
  simp only [y1v]
  refine AX.sr ?_
  simp [y1v.r0, y53]
  refine AX.seq ?_
  refine AX.test (decide (600 < s.objs.length) || decide (600 < s.fns.length) || decide (6000 < s.cons.length)) [(1, .fp (y53 s) 0), (20, .b (decide (600 < s.objs.length) || decide (600 < s.fns.length) || decide (6000 < s.cons.length)))] ?_ rfl (fun hb => ?_) (fun hb => AX.skip ?_)
  · by_cases h1 : 600 < s.objs.length
    · simp [y1v.r1, y53, h1]
    by_cases h2 : 600 < s.fns.length
    · simp [y1v.r1, y53, h1, h2]
    · simp [y1v.r1, y53, h1, h2]
  · refine AX.sr ?_
    simp [y1v.r2]
    refine AX.ret ?_
    simp at hb
    have : 600 < s.objs.length ∨ 600 < s.fns.length ∨ 6000 < s.cons.length := by omega
    simp [yee, this]
  simp at hb
  have hn : ¬ (600 < s.objs.length ∨ 600 < s.fns.length ∨ 6000 < s.cons.length) := by omega
  have eS : yee s = orI [chk obE yg1 none s.objs, chk fuE yg2 none s.fns, chk cnE yea none s.cons] := by unfold yee; rw [if_neg hn]
  rw [eS]
  simp
  refine AX.seq (AX.seq (AX.reg ?_))
  simp [y1v.r3, y53]
  refine AC.fix (yka s.objs (by omega) ho _) ?_
  generalize chk obE yg1 none s.objs = a
  simp
  refine AX.sr ?_
  simp [y1v.r4]
  refine AX.pcond rfl (fun hd => ?_) (fun hd => AX.skip ?_)
  · simp at hd
    refine AX.sr ?_
    simp [y1v.r5]
    refine AX.ret ?_
    simp [or1 _ _ hd]
  simp at hd
  rw [or0 _ _ hd]
  simp
  refine AX.seq (AX.seq (AX.reg ?_))
  simp [y1v.r6]
  refine AC.fix (yny s.fns (by omega) hf _) ?_
  generalize chk fuE yg2 none s.fns = b
  simp
  refine AX.sr ?_
  simp [y1v.r7]
  refine AX.pcond rfl (fun he => ?_) (fun he => AX.skip ?_)
  · simp at he
    refine AX.sr ?_
    simp [y1v.r8]
    refine AX.ret ?_
    simp [or1 _ _ he]
  simp at he
  rw [or0 _ _ he]
  simp
  refine AX.sr ?_
  simp [y1v.r9]
  refine AC.fix (ykb s.cons (by omega) hcn _) ?_
  generalize chk cnE yea none s.cons = c
  simp
  refine AX.ret ?_
  by_cases h : c = 0 <;> simp [orI, h]
end Go.Proofs.YtjajpilacdfnbaaGreatDoor
namespace Go.Proofs.YtjajpilacdfnbaaGreatDoor
open Am C
set_option linter.unusedSimpArgs false
set_option linter.unusedVariables false
theorem yma (a b : Str) : (ltB a b || a == b) = !ltB b a := by
  rcases ydn a b with h | h | h
  · rw [h, ybr h]; rfl
  · subst h
    have : ltB a a = false := by cases hh : ltB a a with | false => rfl | true => exact absurd hh (y8u a)
    rw [this]; simp
  · rw [h, ybr h]
    have : a ≠ b := fun e => by subst e; exact y8u _ h
    simp [this]
def RsInv (l : List Str) (H : Hp) (m : Nat) (F : Fr) (X : Hp) : Prop :=
  ∃ i, 1 ≤ i ∧ (i ≤ l.length ∨ i = 1) ∧ m = l.length + 1 - i ∧ (∀ j, j + 1 < i → ltB (l.getD j []) (l.getD (j + 1) []) = true) ∧ X = H ∧ F = [(0, ss l), (3, .i .i64 i)]
theorem yga {fid : Go.FuncId} {fn : Go.Func} (hf : Tryz.prog.funcs[fid]? = some fn) (hok : y23 Tryz.prog fn y1y = true) (l : List Str) (hl : l.length ≤ 9223372036854775000) (H : Hp) : AC Tryz.prog fid [ss l] H (fun v H' => v = .b (risB l) ∧ H' = H) := by
  refine AC.code hf hok ?_
  simp only [y1y]
  refine AX.sr ?_
  simp [y1y.r0]
  refine AX.seq (AX.seq (AX.reg ?_))
  simp [y1y.r1]
  refine AX.pblock (AX.loop (RsInv l H) l.length ⟨_, _, .refl _ _, 1, by omega, .inr rfl, by omega, by omega, rfl, rfl⟩ ?_)
  rintro m F X ⟨i, h1, hi, rfl, hx, rfl, rfl⟩
  simp only [y1y.l0]
  refine AX.seq (AX.seq (AX.reg ?_))
  simp [y1y.r2, ss]
  refine AX.pcond rfl (fun hd => AX.skip ?_) (fun hd => AX.exit ?_)
  case refine_2 =>
    simp at hd
    simp
    refine AX.sr ?_
    simp [y1y.r6]
    refine AX.ret ?_
    have : risB l = true := decide_eq_true fun j hj => hx j (by omega)
    simp [this]
  simp at hd
  simp
  have w1 : Go.IntKind.i64.wrap ((i : Int) - 1) = ((i - 1 : Nat) : Int) := by rw [y3e (by omega) (by omega)]; omega
  have hd1 : i - 1 < l.length := by omega
  refine AX.seq (AX.pblock (AX.seq (AX.drw ?_)))
  simp [y1y.r3, hd, w1, hd1]
  refine AX.pcond rfl (fun hb => ?_) (fun hb => AX.skip ?_)
  · refine AX.sr ?_
    simp [y1y.r4]
    refine AX.ret ?_
    have hb' : ltB l[i - 1] l[i] = false := by
      have := yma l[i] l[i - 1]
      cases hh : ltB l[i - 1] l[i] with
      | false => rfl
      | true => rw [hh] at this; simp at this hb; simp [this] at hb
    have : risB l = false := decide_eq_false fun hh => by
      have := hh (i - 1) (by omega)
      simp [show i - 1 + 1 = i by omega, hd, hd1, hb'] at this
    simp [this]
  simp
  have hb' : ltB l[i - 1] l[i] = true := by
    have := yma l[i] l[i - 1]
    cases hh : ltB l[i - 1] l[i] with
    | true => rfl
    | false => rw [hh] at this; simp at this hb; simp [hb] at this
  refine AX.reg ?_
  simp [y1y.r5, y2o (i := i) (by omega)]
  refine ⟨l.length + 1 - (i + 1), by omega, _, _, .refl _ _, i + 1, by omega, by omega, rfl, fun j hj => ?_, rfl, by simp [ss]⟩
  by_cases e : j + 1 < i
  · exact hx j e
  · have : j = i - 1 := by omega
    subst this
    simpa [show i - 1 + 1 = i by omega, hd, hd1] using hb'
theorem yin (l : List Str) (hl : l.length ≤ 9223372036854775000) (H : Hp) : AC Tryz.prog y7g [ss l] H (fun v H' => v = .b (risB l) ∧ H' = H) := yga y1y.at y1y.ok l hl H
theorem idxOb.ok : y23 Tryz.prog Tryz.f66 (yav 3 true) = true := by kernel_rfl
theorem conOb.ok : y23 Tryz.prog Tryz.f29 (yke y4c) = true := by kernel_rfl
theorem idxFu.ok : y23 Tryz.prog Tryz.f67 (yav 3 true) = true := by kernel_rfl
theorem conFu.ok : y23 Tryz.prog Tryz.f31 (yke y4i) = true := by kernel_rfl
theorem conOb_ok (l : List Ob) (f : Go.FuncId) (caps : List V) (p : Ob → Bool) (hl : l.length ≤ 9223372036854775807) (H : Hp) (hc : ∀ x ∈ l, AC Tryz.prog f (.agg (y49 x) :: caps) H (fun v H' => v = .b (p x) ∧ H' = H)) :
    AC Tryz.prog y45 [.fs (l.map y49), .fn f caps] H (fun v H' => v = .b (l.any p) ∧ H' = H) :=
  yfn y2k.at conOb.ok (yfb y1e.at idxOb.ok l y49 (fun x _ => rfl) (fun h => by cases h) f caps p hl H hc)
theorem conFu_ok (l : List Fu) (f : Go.FuncId) (caps : List V) (p : Fu → Bool) (hl : l.length ≤ 9223372036854775807) (H : Hp) (hc : ∀ x ∈ l, AC Tryz.prog f (.agg (y6i x) :: caps) H (fun v H' => v = .b (p x) ∧ H' = H)) :
    AC Tryz.prog y4b [.fs (l.map y6i), .fn f caps] H (fun v H' => v = .b (l.any p) ∧ H' = H) :=
  yfn y2l.at conFu.ok (yfb y1k.at idxFu.ok l y6i (fun x _ => rfl) (fun h => by cases h) f caps p hl H hc)
theorem ck11_ok (o : Ob) (id : Nat) (n : Str) (H : Hp) (hb : H.get id = some (.cells [.s n] 1)) : AC Tryz.prog y5y [.agg (y49 o), .p (some (id, 0, 1))] H (fun v H' => v = .b (decide (o.name = n)) ∧ H' = H) := by
  refine AC.code y2s.at y2s.ok ?_
  simp only [y2s]
  refine AX.sr ?_
  simp [y2s.r0, y49]
  refine AX.sr ?_
  simp [y2s.r1, hb]
  refine AX.ret ?_
  simp
theorem ck12_ok (o : Fu) (id : Nat) (n : Str) (H : Hp) (hb : H.get id = some (.cells [.s n] 1)) : AC Tryz.prog y5x [.agg (y6i o), .p (some (id, 0, 1))] H (fun v H' => v = .b (decide (o.name = n)) ∧ H' = H) := by
  refine AC.code y2r.at y2r.ok ?_
  simp only [y2r]
  refine AX.sr ?_
  simp [y2r.r0, y6i]
  refine AX.sr ?_
  simp [y2r.r1, hb]
  refine AX.ret ?_
  simp
def suS (s : Su) : Prop := s.name.length ≤ 140737488355328 ∧ s.gives.length ≤ 140737488355328 ∧ s.wants.length ≤ 140737488355328 ∧ s.keeps.length ≤ 140737488355328 ∧ (∀ k ∈ s.keeps, k.length ≤ 140737488355328) ∧ syS s.sys
theorem ck1_ok (s : Su) (hs : suS s) (n : Str) (id : Nat) (H : Hp) (hb : H.get id = some (.cells (y3z s) 7)) : AC Tryz.prog y3w [.s n, .p (some (id, 0, 7))] H (fun v H' => v = .b (ya5 s.sys n) ∧ H' = H) := by
  obtain ⟨_, _, _, _, _, q1, q2, _⟩ := hs
  refine AC.codeP y39.at y39.ok (ymk _) fun hlt => ?_
  simp only [y39]
  refine AX.sr ?_
  simp [y39.r0]
  have hne : id ≠ H.next := by have := hlt _ _ hb; omega
  have hb' : (H.add (.cells [.s n] 1)).get id = some (.cells (y3z s) 7) := by simp [hne, hb]
  have hb2 : (H.add (.cells [.s n] 1)).get H.next = some (.cells [.s n] 1) := by simp
  have hE := Hp.Ext.add hlt (.cells [.s n] 1)
  generalize H.add (.cells [.s n] 1) = X at *
  generalize H.next = k at *
  refine AX.seq (AX.join (F1 := [(3, .b (ya5 s.sys n))]) (H1 := X) (AX.reg ?_) ?_)
  · have h1 := conOb_ok s.sys.objs y5y [.p (some (k, 0, 1))] (fun o => decide (o.name = n)) (by omega) X (fun o _ => ck11_ok o k n X hb2)
    have h2 := conFu_ok s.sys.fns y5x [.p (some (k, 0, 1))] (fun o => decide (o.name = n)) (by omega) X (fun o _ => ck12_ok o k n X hb2)
    simp [y39.r1, hb', y3z]
    refine AC.fix h1 ?_
    by_cases ha : s.sys.objs.any (fun o => decide (o.name = n)) = true
    · simp [ha, ya5]
    · simp only [Bool.not_eq_true] at ha
      simp [ha, hb', y3z]
      refine AC.fix h2 ?_
      simp [ya5, ha]
  refine AX.ret ?_
  simp
  exact ⟨hE, .refl _⟩
theorem ck2_ok (s : Su) (hs : suS s) (n : Str) (id k : Nat) (H : Hp) (hb : H.get id = some (.cells (y3z s) 7)) (hk : H.get k = some (.cells [.fn y3w [.p (some (id, 0, 7))]] 1)) :
    AC Tryz.prog y6o [.s n, .p (some (k, 0, 1))] H (fun v H' => v = .b (!ya5 s.sys n) ∧ H' = H) := by
  refine AC.code y38.at y38.ok ?_
  simp only [y38]
  refine AX.sr ?_
  simp [y38.r0]
  refine AX.sr ?_
  simp [y38.r1, hk]
  refine AC.fix (ck1_ok s hs n id H hb) ?_
  simp
  refine AX.ret ?_
  simp
theorem ck3_ok (s : Su) (hs : suS s) (n : Str) (id : Nat) (H : Hp) (hb : H.get id = some (.cells (y3z s) 7)) : AC Tryz.prog y6n [.s n, .p (some (id, 0, 7))] H (fun v H' => v = .b (decide (n ∈ s.wants)) ∧ H' = H) := by
  obtain ⟨_, _, q, _⟩ := hs
  refine AC.code y37.at y37.ok ?_
  simp only [y37]
  refine AX.sr ?_
  simp [y37.r0]
  refine AX.sr ?_
  simp [y37.r1, hb, y3z]
  refine AC.fix (ybd s.wants n (by omega) _) ?_
  simp
  refine AX.ret ?_
  simp
theorem ck4_ok (n : Str) (hn : n.length ≤ 140737488355328) (H : Hp) : AC Tryz.prog y7x [.s n] H (fun v H' => v = .b (!y7c n) ∧ H' = H) := by
  refine AC.code y36.at y36.ok ?_
  simp only [y36]
  refine AX.sr ?_
  simp [y36.r0]
  refine AX.sr ?_
  simp [y36.r1]
  refine AC.fix (y72 n (by omega) _) ?_
  simp
  refine AX.ret ?_
  simp
end Go.Proofs.YtjajpilacdfnbaaGreatDoor
namespace Go.Proofs.YtjajpilacdfnbaaGreatDoor
open Am C
set_option linter.unusedSimpArgs false
set_option linter.unusedVariables false
theorem ynf {α : Type} (p : α → Bool) (l : List α) : (l.any fun x => !p x) = !l.all p := by
  induction l with
  | nil => rfl
  | cons x r ih => simp [ih, Bool.not_and]
def SckInv (s : Su) (id k : Nat) (X : Hp) (m : Nat) (F : Fr) (Y : Hp) : Prop :=
  ∃ i, i ≤ 2 ∧ m = 2 - i ∧ (0 < i → ybe s.sys s.gives = 0) ∧ (1 < i → ybe s.sys s.wants = 0) ∧ Y = X ∧ F = [(1, .p (some (id, 0, 7))), (4, .p (some (k, 0, 1))), (22, .fs [[ss s.gives], [ss s.wants]]), (23, .i .i64 2), (24, .i .i64 i)]
theorem yi5 (s : Su) (hs : suS s) (H : Hp) : AC Tryz.prog y8r [.agg (y3z s)] H (fun v H' => v = .i .i64 (suE s) ∧ H' = H) := by
  have hs' := hs
  obtain ⟨q1, q2, q3, q4, q5, q6⟩ := hs'
  refine AC.codeP yj.at yj.ok (free_i _ _) fun hlt => ?_
  simp only [yj]
  refine AX.sr ?_
  simp [yj.r0, y3z]
  have hb : (H.add (.cells [.s s.name, ss s.gives, ss s.wants, ss s.keeps, .fs (s.sys.objs.map y49), .fs (s.sys.fns.map y6i), .fs (s.sys.cons.map y4l)] 7)).get H.next = some (.cells (y3z s) 7) := by simp [y3z]
  have hE := Hp.Ext.add hlt (.cells [.s s.name, ss s.gives, ss s.wants, ss s.keeps, .fs (s.sys.objs.map y49), .fs (s.sys.fns.map y6i), .fs (s.sys.cons.map y4l)] 7)
  have hL := Hp.add_lt hlt (.cells [.s s.name, ss s.gives, ss s.wants, ss s.keeps, .fs (s.sys.objs.map y49), .fs (s.sys.fns.map y6i), .fs (s.sys.cons.map y4l)] 7)
  generalize H.add (.cells [.s s.name, ss s.gives, ss s.wants, ss s.keeps, .fs (s.sys.objs.map y49), .fs (s.sys.fns.map y6i), .fs (s.sys.cons.map y4l)] 7) = X at *
  generalize H.next = id at *
  refine AX.seq (AX.seq (AX.reg ?_))
  simp [yj.r1, hb, y3z]
  refine AC.fix (yc5 s.name (by omega) _) ?_
  simp
  refine AX.pcond rfl (fun h1 => ?_) (fun h1 => AX.skip ?_)
  · simp at h1
    refine AX.sr ?_
    simp [yj.r2]
    refine AX.ret ?_
    simp [suE, h1]
    exact ⟨hE, .refl _⟩
  simp at h1
  simp
  refine AX.seq (AX.seq (AX.reg ?_))
  simp [yj.r3, hb, y3z]
  refine AC.fix (yno s.sys q6 _) ?_
  simp
  refine AX.sr ?_
  simp [yj.r4]
  refine AX.pcond rfl (fun h2 => ?_) (fun h2 => AX.skip ?_)
  · simp at h2
    refine AX.sr ?_
    simp [yj.r5]
    refine AX.ret ?_
    simp [suE, h1, orI, h2]
    exact ⟨hE, .refl _⟩
  simp at h2
  simp
  refine AX.sr ?_
  simp [yj.r6]
  have hE2 := hE.trans (y8j hL (.cells [.nf] 1) (.cells [.fn y3w [.p (some (id, 0, 7))]] 1))
  have hL2 := lt2 hL (.cells [.nf] 1) (.cells [.fn y3w [.p (some (id, 0, 7))]] 1)
  have hk : ((X.add (.cells [.nf] 1)).upd X.next (.cells [.fn y3w [.p (some (id, 0, 7))]] 1)).get X.next = some (.cells [.fn y3w [.p (some (id, 0, 7))]] 1) := by simp
  have hb2 : ((X.add (.cells [.nf] 1)).upd X.next (.cells [.fn y3w [.p (some (id, 0, 7))]] 1)).get id = some (.cells (y3z s) 7) := by
    have := hL _ _ hb
    simp [show id ≠ X.next by omega, hb]
  generalize (X.add (.cells [.nf] 1)).upd X.next (.cells [.fn y3w [.p (some (id, 0, 7))]] 1) = Y at *
  generalize X.next = k at *
  refine AX.seq (AX.seq (AX.reg ?_))
  simp [yj.r7, hb2, y3z, y8y, show List.range 2 = [0, 1] from rfl]
  refine AX.pblock (AX.loop (SckInv s id k Y) 2 ⟨_, _, .refl _ _, 0, by omega, by omega, by simp, by simp, rfl, rfl⟩ ?_)
  rintro m F Z ⟨i, hi, rfl, hg, hw, rfl, rfl⟩
  simp only [yj.l0]
  refine AX.sr ?_
  simp [yj.r8]
  refine AX.seq (AX.pcond rfl (fun hd => AX.skip ?_) (fun hd => AX.exit ?_))
  · simp at hd
    obtain ⟨l, hl, hll, hle⟩ : ∃ l : List Str, [[ss s.gives], [ss s.wants]][i]? = some [ss l] ∧ l.length ≤ 140737488355328 ∧ (ybe s.sys l ≠ 0 → suE s = ybe s.sys l) ∧ (ybe s.sys l = 0 → (0 < i + 1 → ybe s.sys s.gives = 0) ∧ (1 < i + 1 → ybe s.sys s.wants = 0)) := by
      match i, hd with
      | 0, _ => exact ⟨s.gives, rfl, q2, fun h => by simp [suE, h1, orI, h2, h], fun h => ⟨fun _ => h, fun h => by omega⟩⟩
      | 1, _ => exact ⟨s.wants, rfl, q3, fun h => by simp [suE, h1, orI, h2, h, hg (by omega)], fun h => ⟨fun _ => hg (by omega), fun _ => h⟩⟩
    simp
    refine AX.seq (AX.pblock (AX.seq (AX.reg ?_)))
    simp [yj.r9, hl]
    refine AX.pblock (AX.seq (AX.reg ?_))
    simp [yj.r10]
    refine AC.fix (yin l (by omega) _) ?_
    simp
    refine AX.pcond rfl (fun h3 => ?_) (fun h3 => ?_)
    · simp at h3
      refine AX.sr ?_
      simp [yj.r11]
      refine AX.ret ?_
      have : ybe s.sys l = 13 := by simp [ybe, h3]
      simp [hle.1 (by rw [this]; decide), this]
      exact ⟨hE2, .refl _⟩
    simp at h3
    have hcon := y8x l y6o [.p (some (k, 0, 1))] (fun n => !ya5 s.sys n) (by omega) Z fun n _ => ck2_ok s hs n id k Z hb2 hk
    rw [ynf] at hcon
    refine AX.sr ?_
    simp [yj.r12]
    refine AC.fix hcon ?_
    simp
    refine AX.pcond rfl (fun h4 => ?_) (fun h4 => AX.skip ?_)
    · simp only [Bool.not_eq_true'] at h4
      refine AX.sr ?_
      simp [yj.r13]
      refine AX.ret ?_
      have : ybe s.sys l = 7 := by simp only [ybe, h3, h4]; rfl
      simp [hle.1 (by rw [this]; decide), this]
      exact ⟨hE2, .refl _⟩
    simp only [Bool.not_eq_false'] at h4
    have h0 : ybe s.sys l = 0 := by simp only [ybe, h3, h4]; rfl
    obtain ⟨n1, n2⟩ := hle.2 h0
    simp
    refine AX.reg ?_
    simp [yj.r14, y2o (i := i) (by omega)]
    exact ⟨2 - (i + 1), by omega, _, _, .refl _ _, i + 1, by omega, rfl, n1, n2, rfl, by simp⟩
  simp at hd
  have hg := hg (by omega)
  have hw := hw (by omega)
  simp
  refine AX.seq (AX.pblock (AX.seq (AX.reg ?_)))
  have hcon := y8x s.gives y6n [.p (some (id, 0, 7))] (fun n => decide (n ∈ s.wants)) (by omega) Z fun n _ => ck3_ok s hs n id Z hb2
  simp [yj.r15, hb2, y3z]
  refine AC.fix hcon ?_
  generalize hx : (s.gives.any fun n => decide (n ∈ s.wants)) = x
  simp
  refine AX.pcond rfl (fun h5 => ?_) (fun h5 => ?_)
  · subst h5
    refine AX.sr ?_
    simp [yj.r16]
    refine AX.ret ?_
    simp only [suE, hx]
    simp [h1, orI, h2, hg, hw]
    exact ⟨hE2, .refl _⟩
  subst h5
  refine AX.sr ?_
  simp [yj.r17, hb2, y3z, ss]
  refine AX.pcond rfl (fun h6 => ?_) (fun h6 => ?_)
  · simp at h6
    refine AX.sr ?_
    simp [yj.r18]
    refine AX.ret ?_
    simp only [suE, hx]
    simp [h1, orI, h2, hg, hw, h6]
    exact ⟨hE2, .refl _⟩
  simp at h6
  refine AX.sr ?_
  simp [yj.r19, hb2, y3z]
  refine AC.fix (yin s.keeps (by omega) _) ?_
  simp
  refine AX.pcond rfl (fun h7 => ?_) (fun h7 => ?_)
  · simp at h7
    refine AX.sr ?_
    simp [yj.r20]
    refine AX.ret ?_
    simp only [suE, hx]
    simp [h1, orI, h2, hg, hw, h7, show ¬ 6000 < s.keeps.length by omega]
    exact ⟨hE2, .refl _⟩
  simp at h7
  have hcon2 := y8x s.keeps y7x [] (fun n => !y7c n) (by omega) Z fun n hn => ck4_ok n (by have := q5 n hn; omega) Z
  rw [ynf] at hcon2
  refine AX.sr ?_
  simp [yj.r21, hb2, y3z]
  refine AC.fix hcon2 ?_
  generalize hy : s.keeps.all y7c = y
  simp
  refine AX.pcond rfl (fun h8 => ?_) (fun h8 => AX.skip ?_)
  · simp at h8
    subst h8
    refine AX.sr ?_
    simp [yj.r22]
    refine AX.ret ?_
    simp only [suE, hx, hy]
    simp [h1, orI, h2, hg, hw, h7, show ¬ 6000 < s.keeps.length by omega]
    exact ⟨hE2, .refl _⟩
  simp at h8
  subst h8
  simp
  refine AX.sr ?_
  simp [yj.r23]
  refine AX.ret ?_
  simp only [suE, hx, hy]
  simp [h1, orI, h2, hg, hw, h7, show ¬ 6000 < s.keeps.length by omega]
  exact ⟨hE2, .refl _⟩
end Go.Proofs.YtjajpilacdfnbaaGreatDoor
namespace Go.Proofs.YtjajpilacdfnbaaGreatDoor
open Am C
set_option linter.unusedSimpArgs false
set_option linter.unusedVariables false
theorem yf5 (l : List Str) (x : Str) : decide (0 ≤ ye3 l x) = decide (x ∈ l) := by
  have := @yar l x
  by_cases h : x ∈ l
  · have h2 : ¬ ye3 l x < 0 := fun e => this.1 e h
    simp [h]; omega
  · have h2 := this.2 h
    simp [h]; omega
end Go.Proofs.YtjajpilacdfnbaaGreatDoor
