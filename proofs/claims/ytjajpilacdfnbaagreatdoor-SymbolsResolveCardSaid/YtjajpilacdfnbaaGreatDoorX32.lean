/- Part 32 of the proof of the laws of the queries: S37c, LGr, LWk, LRes. -/
import Derived.Test.YtjajpilacdfnbaaGreatDoorX16
import Derived.Test.YtjajpilacdfnbaaGreatDoorX25
import Derived.Test.YtjajpilacdfnbaaGreatDoorX28
import Derived.Test.YtjajpilacdfnbaaGreatDoorX29
import Derived.Test.YtjajpilacdfnbaaGreatDoorX30
import Derived.Test.YtjajpilacdfnbaaGreatDoorX31
namespace Go.Proofs.YtjajpilacdfnbaaGreatDoor
open Am C
set_option linter.unusedSimpArgs false
set_option linter.unusedVariables false
section
open Go Go.RowKit
theorem Am.AC.codeR {P : Program} {f : FuncId} {fn : Func} {a : AFunc} (hf : P.funcs[f]? = some fn) (hok : y23 P fn a = true) {args : List V} {H : Hp} {R : V → Prop}
    (h : (∀ id blk, H.get id = some blk → id < H.next) → AX P a.n a.body (Ends (fun r H' => (R r ∧ ybf r) ∧ H.Ext H') a.res) (fr0 0 args) H) : AC P f args H (fun r H' => R r ∧ H' = H) :=
  AC.lt (ylx hf hok) fun hl => (AC.code hf hok (h hl)).trim fun r H' ⟨⟨e, hfr⟩, h1, h2⟩ =>
    ⟨H, ⟨Nat.le_refl _, h1, fun id blk hg => ⟨hl id blk hg, h2 id blk hg⟩, fun id cs m hg => .inl ⟨m, hg⟩, fun id es hg => .inl hg⟩, hfr.ok _, e, rfl⟩
end
theorem yad {i : Nat} (h : i ≤ 9223372036854775000) : Go.IntKind.i64.wrap ((i : Int) + 1) = ((i + 1 : Nat) : Int) := by rw [y3e (by omega) (by omega)]; omega
def syZ (s : Sy) : Prop := s.objs.length ≤ 140737488355328 ∧ s.fns.length ≤ 140737488355328 ∧ s.cons.length ≤ 140737488355328 ∧ (∀ o ∈ s.objs, obS o) ∧ (∀ f ∈ s.fns, fuS f ∧ f.ret.length ≤ 140737488355328) ∧
  ∀ c ∈ s.cons, c.a.length ≤ 140737488355328 ∧ c.b.length ≤ 140737488355328 ∧ c.tag.length ≤ 140737488355328 ∧ c.args.length ≤ 140737488355328 ∧ ∀ a ∈ c.args, a.length ≤ 140737488355328
def GrInv (s : Sy) (H : Hp) (m : Nat) (F : Fr) (X : Hp) : Prop :=
  ∃ i n, i ≤ s.objs.length ∧ m = s.objs.length - i ∧ n ≤ 30000 ∧ X = H ∧ F = [(2, .fp (y53 s) 0), (5, .i .i64 (n : Nat)), (6, .i .i64 i)]
def GrIn (s : Sy) (i n0 : Nat) (ms : List Mk) (H : Hp) (m : Nat) (F : Fr) (X : Hp) : Prop :=
  ∃ k n, k ≤ ms.length ∧ k ≤ 100 ∧ m = ms.length - k ∧ n ≤ n0 + k * 140737488355328 ∧ X = H ∧ F = [(2, .fp (y53 s) 0), (5, .i .i64 (n : Nat)), (6, .i .i64 i), (7, .i .i64 k)]
def GrInv2 (s : Sy) (H : Hp) (m : Nat) (F : Fr) (X : Hp) : Prop :=
  ∃ i n, i ≤ s.fns.length ∧ m = s.fns.length - i ∧ n ≤ 30000 ∧ X = H ∧ F = [(2, .fp (y53 s) 0), (5, .i .i64 (n : Nat)), (8, .i .i64 i)]
def GrInv3 (s : Sy) (H : Hp) (m : Nat) (F : Fr) (X : Hp) : Prop :=
  ∃ i n, i ≤ s.cons.length ∧ m = s.cons.length - i ∧ n ≤ 60000 ∧ (∀ (j : Nat) c, j < i → s.cons[j]? = some c → c.args.length ≤ 6000) ∧ H.Ext X ∧ (∀ id blk, X.get id = some blk → id < X.next) ∧ F = [(2, .fp (y53 s) 0), (5, .i .i64 (n : Nat)), (9, .i .i64 i)]
def GrIn3 (s : Sy) (i n0 id : Nat) (args : List Str) (H : Hp) (m : Nat) (F : Fr) (X : Hp) : Prop :=
  ∃ k n, k ≤ args.length ∧ k ≤ 100 ∧ m = args.length - k ∧ n0 ≤ n ∧ n ≤ n0 + k * 140737488355328 ∧ X = H ∧ F = [(2, .fp (y53 s) 0), (5, .i .i64 (n : Nat)), (9, .i .i64 i), (10, .p (some (id, 0, 6))), (11, .i .i64 k)]
theorem yk3 (most : Nat) (hm : most ≤ 100) (s : Sy) (hs : syZ s) (H : Hp) : AC Tryz.prog y7w [.agg (y53 s), .i .i64 (most : Nat)] H (fun v H' => (∃ b, v = .b b ∧ (b = false → syS s)) ∧ H' = H) := by
  obtain ⟨z1, z2, z3, zo, zf, zc⟩ := hs
  refine AC.codeR y0.at y0.ok fun hlt => ?_
  simp only [y0]
  refine AX.sr ?_
  simp [y0.r0, y53]
  refine AX.seq ?_
  refine AX.test (decide (most < s.objs.length) || decide (most < s.fns.length) || decide (most < s.cons.length)) [(2, .fp (y53 s) 0), (30, .b (decide (most < s.objs.length) || decide (most < s.fns.length) || decide (most < s.cons.length)))] ?_ rfl (fun hb => ?_) (fun hb => AX.skip ?_)
  · by_cases h1 : most < s.objs.length
    · simp [y0.r1, y53, h1]
    by_cases h2 : most < s.fns.length
    · simp [y0.r1, y53, h1, h2]
    · simp [y0.r1, y53, h1, h2]
  · refine AX.sr ?_
    simp [y0.r2]
    refine AX.ret ?_
    simp
    exact .refl _
  simp at hb
  simp
  refine AX.sr ?_
  simp [y0.r3]
  refine AX.seq (AX.seq (AX.reg ?_))
  simp [y0.r4]
  refine AX.pblock (AX.loop (GrInv s H) s.objs.length ⟨_, _, .refl _ _, 0, 0, by omega, by omega, by omega, rfl, by simp [y53]⟩ ?_)
  rintro m F X ⟨i, n, hi, rfl, hn, hX, rfl⟩
  obtain rfl := hX.symm
  simp only [y0.l0]
  refine AX.seq (AX.seq (AX.reg ?_))
  simp [y0.r5, y53]
  refine AX.pcond rfl (fun hc => AX.skip ?_) (fun hc => AX.exit ?_)
  · simp at hc
    obtain ⟨b1, b2, b3, b4⟩ := zo _ (List.getElem_mem hc)
    have hg : s.objs[i]? = some s.objs[i] := List.getElem?_eq_getElem hc
    simp
    generalize s.objs[i] = o at *
    have w1 : Go.IntKind.i64.wrap ((n : Int) + o.name.length) = (n : Int) + o.name.length := y3e (by omega) (by omega)
    have w2 : Go.IntKind.i64.wrap ((n : Int) + o.name.length + o.kinds.length) = (n : Int) + o.name.length + o.kinds.length := y3e (by omega) (by omega)
    have w3 : Go.IntKind.i64.wrap (10 * (o.marks.length : Int)) = 10 * (o.marks.length : Int) := y3e (by omega) (by omega)
    have w4 : Go.IntKind.i64.wrap ((n : Int) + o.name.length + o.kinds.length + 10 * o.marks.length) = (n : Int) + o.name.length + o.kinds.length + 10 * o.marks.length := y3e (by omega) (by omega)
    refine AX.seq (AX.pblock (AX.seq (AX.drw ?_)))
    simp [y0.r6, y53, hg, y49, w1, w2, w3, w4]
    obtain ⟨n0, hn0⟩ : ∃ n0, n0 = n + o.name.length + o.kinds.length + 10 * o.marks.length := ⟨_, rfl⟩
    rw [show ((n : Int) + o.name.length + o.kinds.length + 10 * o.marks.length) = ((n0 : Nat) : Int) by omega]
    refine AX.seq (AX.seq (AX.reg ?_))
    simp [y0.r7]
    refine AX.pblock (AX.loop (GrIn s i n0 o.marks H) o.marks.length ⟨_, _, .refl _ _, 0, n0, by omega, by omega, by omega, by omega, rfl, by simp [y53]⟩ ?_)
    rintro m F Y ⟨k, n1, hkl, hk5, rfl, h1, hY, rfl⟩
    obtain rfl := hY.symm
    simp only [y0.l1]
    refine AX.seq (AX.test (decide (k < o.marks.length ∧ k < 100)) [(2, .fp (y53 s) 0), (5, .i .i64 (n1 : Nat)), (6, .i .i64 i), (7, .i .i64 k), (76, .b (decide (k < o.marks.length ∧ k < 100)))] ?_ rfl (fun h => AX.skip ?_) (fun h => AX.exit ?_))
    · by_cases hkk : k < o.marks.length
      · simp [y0.r8, y53, hg, y49, hkk]
      · simp [y0.r8, y53, hg, y49, hkk]
    · simp at h
      have b5 := b4 _ (List.getElem_mem h.1)
      have hgk : o.marks[k]? = some (o.marks[k]'h.1) := List.getElem?_eq_getElem h.1
      generalize o.marks[k]'h.1 = mk at *
      have w5 : Go.IntKind.i64.wrap ((n1 : Int) + mk.tag.length) = (n1 : Int) + mk.tag.length := y3e (by omega) (by omega)
      simp
      refine AX.seq (AX.pblock (AX.reg ?_))
      simp [y0.r9, y53, hg, hgk, y49, y7b, w5]
      rw [show ((n1 : Int) + mk.tag.length) = ((n1 + mk.tag.length : Nat) : Int) by omega]
      refine AX.reg ?_
      simp [y0.r10, yad (show k ≤ 9223372036854775000 by omega)]
      refine ⟨o.marks.length - (k + 1), by omega, _, _, .refl _ _, k + 1, n1 + mk.tag.length, by omega, by omega, rfl, ?_, rfl, by simp [y53]⟩
      rw [Nat.succ_mul]; omega
    · simp
      refine AX.sr ?_
      simp [y0.r11]
      by_cases hbig : 30000 < n1
      · refine AX.pcond (t := true) (by simp; omega) (fun _ => AX.seq (AX.reg ?_)) (fun h => by simp at h)
        simp [y0.r12]
        refine AX.ret ?_
        simp
        exact .refl _
      · refine AX.pcond (t := false) (by simp; omega) (fun h => by simp at h) (fun _ => AX.skip ?_)
        simp
        refine AX.reg ?_
        simp [y0.r13, yad (show i ≤ 9223372036854775000 by omega)]
        exact ⟨s.objs.length - (i + 1), by omega, _, _, .refl _ _, i + 1, n1, by omega, rfl, by omega, rfl, by simp [y53]⟩
  simp at hc
  simp
  refine AX.seq (AX.seq (AX.reg ?_))
  simp [y0.r14]
  refine AX.pblock (AX.loop (GrInv2 s H) s.fns.length ⟨_, _, .refl _ _, 0, n, by omega, by omega, by omega, rfl, by simp [y53]⟩ ?_)
  rintro m F X ⟨j, n2, hj, rfl, hn2, hX, rfl⟩
  obtain rfl := hX.symm
  simp only [y0.l2]
  refine AX.seq (AX.seq (AX.reg ?_))
  simp [y0.r15, y53]
  refine AX.pcond rfl (fun hd => AX.skip ?_) (fun hd => AX.exit ?_)
  · simp at hd
    obtain ⟨⟨b1, b2⟩, b3⟩ := zf _ (List.getElem_mem hd)
    have hg : s.fns[j]? = some s.fns[j] := List.getElem?_eq_getElem hd
    simp
    generalize s.fns[j] = f at *
    have w1 : Go.IntKind.i64.wrap ((n2 : Int) + f.name.length) = (n2 : Int) + f.name.length := y3e (by omega) (by omega)
    have w2 : Go.IntKind.i64.wrap ((n2 : Int) + f.name.length + f.kinds.length) = (n2 : Int) + f.name.length + f.kinds.length := y3e (by omega) (by omega)
    have w3 : Go.IntKind.i64.wrap ((n2 : Int) + f.name.length + f.kinds.length + f.ret.length) = (n2 : Int) + f.name.length + f.kinds.length + f.ret.length := y3e (by omega) (by omega)
    refine AX.seq (AX.pblock (AX.seq (AX.drw ?_)))
    simp [y0.r16, y53, hg, y6i, w1, w2, w3]
    obtain ⟨n1, hn1⟩ : ∃ n1, n1 = n2 + f.name.length + f.kinds.length + f.ret.length := ⟨_, rfl⟩
    rw [show ((n2 : Int) + f.name.length + f.kinds.length + f.ret.length) = ((n1 : Nat) : Int) by omega]
    refine AX.sr ?_
    simp [y0.r17]
    by_cases hbig : 30000 < n1
    · refine AX.pcond (t := true) (by simp; omega) (fun _ => AX.seq (AX.reg ?_)) (fun h => by simp at h)
      simp [y0.r18]
      refine AX.ret ?_
      simp
      exact .refl _
    · refine AX.pcond (t := false) (by simp; omega) (fun h => by simp at h) (fun _ => AX.skip ?_)
      simp
      refine AX.reg ?_
      simp [y0.r19, yad (show j ≤ 9223372036854775000 by omega)]
      exact ⟨s.fns.length - (j + 1), by omega, _, _, .refl _ _, j + 1, n1, by omega, rfl, by omega, rfl, by simp [y53]⟩
  simp at hd
  simp
  refine AX.seq (AX.seq (AX.reg ?_))
  simp [y0.r20]
  refine AX.pblock (AX.loop (GrInv3 s H) s.cons.length ⟨_, _, .refl _ _, 0, n2, by omega, by omega, by omega, fun j c h => by omega, .refl _, hlt, by simp [y53]⟩ ?_)
  rintro m F X ⟨q, n3, hq, rfl, hn3, hall, X1, L1, rfl⟩
  simp only [y0.l3]
  refine AX.seq (AX.seq (AX.reg ?_))
  simp [y0.r21, y53]
  refine AX.pcond rfl (fun he => AX.skip ?_) (fun he => AX.exit ?_)
  case refine_2 =>
    simp at he
    simp
    refine AX.sr ?_
    simp [y0.r31]
    refine AX.ret ?_
    simp
    refine ⟨⟨by omega, by omega, by omega, zo, fun f hf => (zf f hf).1, fun c hcm => ?_⟩, X1⟩
    obtain ⟨g1, g2, g3, g4, g5⟩ := zc c hcm
    obtain ⟨k, hk⟩ := List.mem_iff_getElem?.1 hcm
    have := hall k c (by have := (List.getElem?_eq_some_iff.1 hk).1; omega) hk
    exact ⟨g1, g2, g3, by omega, g5⟩
  simp at he
  obtain ⟨g1, g2, g3, g4, g5⟩ := zc _ (List.getElem_mem he)
  have hg : s.cons[q]? = some s.cons[q] := List.getElem?_eq_getElem he
  simp
  generalize s.cons[q] = c at *
  refine AX.seq (AX.pblock (AX.seq (AX.reg ?_)))
  simp [y0.r22, hg, y4l, ss]
  have X4 := X1.trans (y8j L1 (.cells [.i .i64 0, .s [], .s [], .i .i64 0, .s [], .sl none 0 0] 6) (.cells [.i .i64 c.op, .s c.a, .s c.b, .i .i64 c.k, .s c.tag, .fs (c.args.map fun x => [.s x])] 6))
  have L4 := lt2 L1 (.cells [.i .i64 0, .s [], .s [], .i .i64 0, .s [], .sl none 0 0] 6) (.cells [.i .i64 c.op, .s c.a, .s c.b, .i .i64 c.k, .s c.tag, .fs (c.args.map fun x => [.s x])] 6)
  have G4 : ((X.add (.cells [.i .i64 0, .s [], .s [], .i .i64 0, .s [], .sl none 0 0] 6)).upd X.next (.cells [.i .i64 c.op, .s c.a, .s c.b, .i .i64 c.k, .s c.tag, .fs (c.args.map fun x => [.s x])] 6)).get X.next = some (.cells [.i .i64 c.op, .s c.a, .s c.b, .i .i64 c.k, .s c.tag, .fs (c.args.map fun x => [.s x])] 6) := by simp
  generalize (X.add (.cells [.i .i64 0, .s [], .s [], .i .i64 0, .s [], .sl none 0 0] 6)).upd X.next (.cells [.i .i64 c.op, .s c.a, .s c.b, .i .i64 c.k, .s c.tag, .fs (c.args.map fun x => [.s x])] 6) = Z at *
  generalize X.next = id at *
  have w1 : Go.IntKind.i64.wrap ((n3 : Int) + c.a.length) = (n3 : Int) + c.a.length := y3e (by omega) (by omega)
  have w2 : Go.IntKind.i64.wrap ((n3 : Int) + c.a.length + c.b.length) = (n3 : Int) + c.a.length + c.b.length := y3e (by omega) (by omega)
  have w3 : Go.IntKind.i64.wrap ((n3 : Int) + c.a.length + c.b.length + c.tag.length) = (n3 : Int) + c.a.length + c.b.length + c.tag.length := y3e (by omega) (by omega)
  have w4 : Go.IntKind.i64.wrap (10 * (c.args.length : Int)) = 10 * (c.args.length : Int) := y3e (by omega) (by omega)
  have w5 : Go.IntKind.i64.wrap ((n3 : Int) + c.a.length + c.b.length + c.tag.length + 10 * c.args.length) = (n3 : Int) + c.a.length + c.b.length + c.tag.length + 10 * c.args.length := y3e (by omega) (by omega)
  refine AX.sr ?_
  simp [y0.r23, G4, w1, w2, w3, w4, w5]
  obtain ⟨n0, hn0⟩ : ∃ n0, n0 = n3 + c.a.length + c.b.length + c.tag.length + 10 * c.args.length := ⟨_, rfl⟩
  rw [show ((n3 : Int) + c.a.length + c.b.length + c.tag.length + 10 * c.args.length) = ((n0 : Nat) : Int) by omega]
  refine AX.seq (AX.seq (AX.reg ?_))
  simp [y0.r24]
  refine AX.pblock (AX.loop (GrIn3 s q n0 id c.args Z) c.args.length ⟨_, _, .refl _ _, 0, n0, by omega, by omega, by omega, by omega, by omega, rfl, by simp [y53]⟩ ?_)
  rintro m F Y ⟨k, n1, hkl, hk5, rfl, h0, h1, hY, rfl⟩
  obtain rfl := hY.symm
  simp only [y0.l4]
  refine AX.seq (AX.test (decide (k < c.args.length ∧ k < 100)) [(2, .fp (y53 s) 0), (5, .i .i64 (n1 : Nat)), (9, .i .i64 q), (10, .p (some (id, 0, 6))), (11, .i .i64 k), (166, .b (decide (k < c.args.length ∧ k < 100)))] ?_ rfl (fun h => AX.skip ?_) (fun h => AX.exit ?_))
  · by_cases hkk : k < c.args.length
    · simp [y0.r25, y53, G4, hkk]
    · simp [y0.r25, y53, G4, hkk]
  · simp at h
    have b5 := g5 _ (List.getElem_mem h.1)
    have hgk : c.args[k]? = some (c.args[k]'h.1) := List.getElem?_eq_getElem h.1
    generalize c.args[k]'h.1 = a at *
    have w6 : Go.IntKind.i64.wrap ((n1 : Int) + a.length) = (n1 : Int) + a.length := y3e (by omega) (by omega)
    simp
    refine AX.seq (AX.pblock (AX.reg ?_))
    simp [y0.r26, G4, hgk, w6]
    rw [show ((n1 : Int) + a.length) = ((n1 + a.length : Nat) : Int) by omega]
    refine AX.reg ?_
    simp [y0.r27, yad (show k ≤ 9223372036854775000 by omega)]
    refine ⟨c.args.length - (k + 1), by omega, _, _, .refl _ _, k + 1, n1 + a.length, by omega, by omega, rfl, by omega, ?_, rfl, by simp [y53]⟩
    rw [Nat.succ_mul]; omega
  · simp
    refine AX.sr ?_
    simp [y0.r28]
    by_cases hbig : 60000 < n1
    · refine AX.pcond (t := true) (by simp; omega) (fun _ => AX.seq (AX.reg ?_)) (fun h => by simp at h)
      simp [y0.r29]
      refine AX.ret ?_
      simp
      exact X4
    · refine AX.pcond (t := false) (by simp; omega) (fun h => by simp at h) (fun _ => AX.skip ?_)
      simp
      refine AX.reg ?_
      simp [y0.r30, yad (show q ≤ 9223372036854775000 by omega)]
      refine ⟨s.cons.length - (q + 1), by omega, _, _, .refl _ _, q + 1, n1, by omega, rfl, by omega, fun j c' hj' hc' => ?_, X4, L4, by simp [y53]⟩
      by_cases e : j = q
      · subst e
        rw [hg] at hc'; injection hc' with hc'; subst hc'; omega
      · exact hall j c' (by omega) hc'
end Go.Proofs.YtjajpilacdfnbaaGreatDoor
namespace Go.Proofs.YtjajpilacdfnbaaGreatDoor
open Am C
set_option linter.unusedSimpArgs false
set_option linter.unusedVariables false
def suZ (s : Su) : Prop := s.name.length ≤ 140737488355328 ∧ s.gives.length ≤ 140737488355328 ∧ s.wants.length ≤ 140737488355328 ∧ s.keeps.length ≤ 140737488355328 ∧ (∀ k ∈ s.keeps, k.length ≤ 140737488355328) ∧ syZ s.sys
def GtInv (l : List Str) (H : Hp) (m : Nat) (F : Fr) (X : Hp) : Prop :=
  ∃ i, i ≤ l.length ∧ i ≤ 60 ∧ m = l.length - i ∧ X = H ∧ F = [(0, ss l), (3, .i .i64 i)]
theorem yc4 (l : List Str) (H : Hp) : AC Tryz.prog y54 [ss l] H (fun v H' => (∃ b, v = .b b) ∧ H' = H) := by
  refine AC.code y1j.at y1j.ok ?_
  simp only [y1j]
  refine AX.sr ?_
  simp [y1j.r0]
  refine AX.seq (AX.seq (AX.reg ?_))
  simp [y1j.r1]
  refine AX.pblock (AX.loop (GtInv l H) l.length ⟨_, _, .refl _ _, 0, by omega, by omega, by omega, rfl, rfl⟩ ?_)
  rintro m F X ⟨i, hi, hi60, rfl, rfl, rfl⟩
  simp only [y1j.l0]
  refine AX.seq (AX.seq (AX.reg ?_))
  simp [y1j.r2, ss]
  refine AX.pcond rfl (fun hc => AX.skip ?_) (fun hc => AX.exit ?_)
  · simp at hc
    simp
    obtain ⟨tb, htb⟩ : ∃ tb, tb = (decide (60 ≤ i) || decide (100 < l[i].length)) := ⟨_, rfl⟩
    refine AX.seq (AX.pblock (AX.test tb [(0, ss l), (3, .i .i64 i), (19, .b tb)] ?_ rfl (fun h => AX.seq (AX.reg ?_)) (fun h => AX.skip ?_)))
    · by_cases h60 : 60 ≤ i
      · simp [y1j.r3, h60, htb, ss]
      · simp [y1j.r3, h60, htb, ss, hc]
    · simp [y1j.r4]
      refine AX.ret ?_
      simp
    · rw [htb] at h
      simp at h
      simp
      refine AX.reg ?_
      simp [y1j.r5, y2o (show i ≤ 9223372036854775000 by omega)]
      exact ⟨l.length - (i + 1), by omega, _, _, .refl _ _, i + 1, by omega, by omega, rfl, rfl, by simp [ss]⟩
  simp
  refine AX.sr ?_
  simp [y1j.r6]
  refine AX.ret ?_
  simp
def GkInv (l : List Str) (H : Hp) (m : Nat) (F : Fr) (X : Hp) : Prop :=
  ∃ i, i ≤ l.length ∧ m = l.length - i ∧ X = H ∧ F = [(0, ss l), (3, .i .i64 i)]
theorem yfe (l : List Str) (hl : l.length ≤ 140737488355328) (H : Hp) : AC Tryz.prog y65 [ss l] H (fun v H' => (∃ b, v = .b b) ∧ H' = H) := by
  refine AC.code y1m.at y1m.ok ?_
  simp only [y1m]
  refine AX.sr ?_
  simp [y1m.r0]
  refine AX.seq (AX.seq (AX.reg ?_))
  simp [y1m.r1]
  refine AX.pblock (AX.loop (GkInv l H) l.length ⟨_, _, .refl _ _, 0, by omega, by omega, rfl, rfl⟩ ?_)
  rintro m F X ⟨i, hi, rfl, rfl, rfl⟩
  simp only [y1m.l0]
  refine AX.seq (AX.seq (AX.reg ?_))
  simp [y1m.r2, ss]
  refine AX.pcond rfl (fun hc => AX.skip ?_) (fun hc => AX.exit ?_)
  · simp at hc
    simp
    refine AX.seq (AX.pblock (AX.seq (AX.reg ?_)))
    simp [y1m.r3, hc]
    refine AX.pcond rfl (fun h => AX.seq (AX.reg ?_)) (fun h => AX.skip ?_)
    · simp [y1m.r4]
      refine AX.ret ?_
      simp
    · simp
      refine AX.reg ?_
      simp [y1m.r5, y2o (show i ≤ 9223372036854775000 by omega)]
      exact ⟨l.length - (i + 1), by omega, _, _, .refl _ _, i + 1, by omega, rfl, rfl, by simp [ss]⟩
  simp
  refine AX.sr ?_
  simp [y1m.r6]
  refine AX.ret ?_
  simp
theorem yi4 (s : Su) (hs : suZ s) (H : Hp) : AC Tryz.prog y7v [.agg (y3z s)] H (fun v H' => (∃ b, v = .b b ∧ (b = false → suS s)) ∧ H' = H) := by
  obtain ⟨z1, z2, z3, z4, z5, z6⟩ := hs
  have hS : syS s.sys → suS s := fun h => ⟨z1, z2, z3, z4, z5, h⟩
  refine AC.code y2w.at y2w.ok ?_
  simp only [y2w]
  refine AX.sr ?_
  simp [y2w.r0, y3z]
  refine AX.sr ?_
  by_cases h1 : 100 < s.name.length
  · simp [y2w.r1, y3z, h1]
    refine AX.ret ?_
    simp
  simp [y2w.r1, y3z, h1]
  refine (yk3 80 (by omega) s.sys z6 H).mono ?_
  rintro _ _ ⟨⟨b, rfl, hb⟩, rfl⟩
  cases b with
  | true =>
    simp
    refine AX.ret ?_
    simp
  | false =>
  have hS := hS (hb rfl)
  simp
  refine (yc4 s.gives _).mono ?_
  rintro _ _ ⟨⟨b, rfl⟩, rfl⟩
  cases b with
  | true =>
    simp
    refine AX.ret ?_
    simp
  | false =>
  simp
  refine (yc4 s.wants _).mono ?_
  rintro _ _ ⟨⟨b, rfl⟩, rfl⟩
  cases b with
  | true =>
    simp
    refine AX.ret ?_
    simp
  | false =>
  by_cases h2 : 200 < s.keeps.length
  · simp [h2, ss]
    refine AX.ret ?_
    simp
  simp [h2, ss]
  refine (yfe s.keeps z4 _).mono ?_
  rintro _ _ ⟨⟨b, rfl⟩, rfl⟩
  simp
  refine AX.ret ?_
  simp
  cases b <;> simp [hS]
def GaInv (l : List Su) (H : Hp) (m : Nat) (F : Fr) (X : Hp) : Prop :=
  ∃ i, i ≤ l.length ∧ m = l.length - i ∧ (∀ s ∈ l.take i, suS s) ∧ X = H ∧ F = [(0, .fs (l.map y3z)), (3, .i .i64 i)]
theorem yic (l : List Su) (hl : l.length ≤ 140737488355328) (hs : ∀ s ∈ l, suZ s) (H : Hp) : AC Tryz.prog y6t [.fs (l.map y3z)] H (fun v H' => (∃ b, v = .b b ∧ (b = false → l.length ≤ 12 ∧ ∀ s ∈ l, suS s)) ∧ H' = H) := by
  refine AC.code y1g.at y1g.ok ?_
  simp only [y1g]
  refine AX.sr ?_
  simp [y1g.r0]
  refine AX.seq (AX.seq (AX.reg ?_))
  simp [y1g.r1]
  refine AX.pcond rfl (fun h8 => ?_) (fun h8 => AX.skip ?_)
  · refine AX.sr ?_
    simp [y1g.r2]
    refine AX.ret ?_
    simp
  simp at h8
  simp
  refine AX.seq (AX.seq (AX.reg ?_))
  simp [y1g.r3]
  refine AX.pblock (AX.loop (GaInv l H) l.length ⟨_, _, .refl _ _, 0, by omega, by omega, by simp, rfl, rfl⟩ ?_)
  rintro m F X ⟨i, hi, rfl, ha, rfl, rfl⟩
  simp only [y1g.l0]
  refine AX.seq (AX.seq (AX.reg ?_))
  simp [y1g.r4]
  refine AX.pcond rfl (fun hd => AX.skip ?_) (fun hd => AX.exit ?_)
  · simp at hd
    have hg : l[i]? = some l[i] := List.getElem?_eq_getElem hd
    have hz := hs _ (List.getElem_mem hd)
    have e1 := List.take_append_getElem hd
    generalize l[i] = s at *
    simp
    refine AX.seq (AX.pblock (AX.seq (AX.reg ?_)))
    simp [y1g.r5, hg, y3z]
    refine (yi4 s hz X).mono ?_
    rintro _ _ ⟨⟨b, rfl, hb⟩, rfl⟩
    simp
    refine AX.pcond rfl (fun h => AX.seq (AX.reg ?_)) (fun h => AX.skip ?_)
    · simp [y1g.r6]
      refine AX.ret ?_
      simp
    · have hss := hb h
      simp
      refine AX.reg ?_
      simp [y1g.r7, y2o (show i ≤ 9223372036854775000 by omega)]
      refine ⟨l.length - (i + 1), by omega, _, _, .refl _ _, i + 1, by omega, rfl, ?_, rfl, by simp [y3z]⟩
      rw [← e1]
      intro x hx
      rcases List.mem_append.1 hx with hx | hx
      · exact ha x hx
      · simp at hx; subst hx; exact hss
  simp at hd
  rw [List.take_of_length_le hd] at ha
  simp
  refine AX.sr ?_
  simp [y1g.r8]
  refine AX.ret ?_
  simp
  exact ⟨by omega, ha⟩
end Go.Proofs.YtjajpilacdfnbaaGreatDoor
namespace Go.Proofs.YtjajpilacdfnbaaGreatDoor
open Am C
set_option linter.unusedSimpArgs false
set_option linter.unusedVariables false
def syW (n : Str) : Sy := ⟨[], [⟨n, [112], [118]⟩], []⟩
def suN : Su := ⟨[110], [], [[102, 40, 41]], [], syW [102, 40, 41]⟩
def suM : Su := ⟨[109], [[102, 40, 41]], [], [], syW [102, 40, 41]⟩
theorem resW1 : yf1 [suN, suM] = ([⟨[102, 40, 41], [109], [[110]]⟩], [], 0) := by kernel_rfl
theorem resW2 : yf1 [suN] = ([], [102, 40, 41], 7) := by kernel_rfl
theorem suN_S : suS suN := ⟨by decide, by decide, by decide, by decide, by simp [suN], by decide, by decide, by decide, by simp [suN, syW], by simp [suN, syW, fuS], by simp [suN, syW]⟩
theorem suM_S : suS suM := ⟨by decide, by decide, by decide, by decide, by simp [suM], by decide, by decide, by decide, by simp [suM, syW], by simp [suM, syW, fuS], by simp [suM, syW]⟩
theorem yhp (n : Str) (H : Hp) : AC Tryz.prog y6d [.s n] H (fun v H' => v = .agg (y53 (syW n)) ∧ H' = H) := by
  refine AC.codeP y3i.at y3i.ok (by simp [y53, syW, y6i]) fun hlt => ?_
  simp only [y3i]
  refine AX.sr ?_
  simp [y3i.r0]
  refine AX.sr ?_
  simp [y3i.r1, y8y]
  refine AX.ret ?_
  simp [y53, syW, y6i]
  exact ⟨y8j hlt _ _, .refl _⟩
set_option maxHeartbeats 1000000 in
theorem works_ok (H : Hp) : AC Tryz.prog y7u [] H (fun v H' => v = .b true ∧ H' = H) := by
  have h1 := ycj [suN, suM] (by decide) (by intro s hs; simp at hs; rcases hs with rfl | rfl; exact suN_S; exact suM_S) H
  have h2 := ycj [suN] (by decide) (by intro s hs; simp at hs; subst hs; exact suN_S) H
  rw [resW1] at h1
  rw [resW2] at h2
  refine AC.code y2c.at y2c.ok ?_
  simp only [y2c]
  refine AX.sr ?_
  simp [y2c.r0]
  refine AX.sr ?_
  simp [y2c.r1, y8y]
  refine AC.fix (yhp _ H) ?_
  simp [y53]
  refine AC.fix (yhp _ H) ?_
  simp [y53]
  refine AC.fix h1 ?_
  simp [rsV]
  refine AX.sr ?_
  simp [y2c.r2, y8y]
  refine AC.fix (yhp _ H) ?_
  simp [y53]
  refine AC.fix h2 ?_
  simp [rsV]
  refine AX.sr ?_
  simp [y2c.r3, smV, ycn, y8y]
  refine AC.fix (ynm [[110]] [[110]] (by decide) H) ?_
  simp
  refine AX.ret ?_
  simp
end Go.Proofs.YtjajpilacdfnbaaGreatDoor
namespace Go.Proofs.YtjajpilacdfnbaaGreatDoor
open Am C
set_option linter.unusedSimpArgs false
set_option linter.unusedVariables false
theorem yli (l : List Su) : (yf1 l).1.length ≤ 9600 ∧ ∀ x ∈ (yf1 l).1, x.wanted.length ≤ 8 := by
  by_cases h : okL l
  · have hsz : ∀ s ∈ l, s.sys.objs.length ≤ 600 ∧ s.sys.fns.length ≤ 600 := fun s hs => by
      have := ydd (yg6 (h.2.1 s hs)).2.1; exact ⟨this.1, this.2.1⟩
    have h8 := h.1
    rw [res_ok.2 h]
    constructor
    · have h1 := List.length_filter_le (fun n => decide (y9j n (y63 l n) ≠ [])) (y3y (yb3 l))
      have h2 := y9d (yb3 l)
      have h3 := yd6 l hsz
      simp only [List.length_map]
      omega
    · intro x hx
      obtain ⟨n, _, rfl⟩ := List.mem_map.1 hx
      have h1 := y9d ((wns n (y63 l n)).map Su.name)
      have h2 := (yc8 n (y63 l n)).2.2
      have h3 := yd0 l n
      simp at h1
      show (y9n n (y63 l n)).length ≤ 8
      unfold y9n
      omega
  · rw [res_bad h]; simp
end Go.Proofs.YtjajpilacdfnbaaGreatDoor
