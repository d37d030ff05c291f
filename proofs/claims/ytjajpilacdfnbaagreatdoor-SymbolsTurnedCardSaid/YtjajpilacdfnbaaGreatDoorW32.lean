/- Part 32 of the proof of the laws of the queries: S37c, LGr, LWk, LRes. -/
import Derived.Test.YtjajpilacdfnbaaGreatDoorW16
import Derived.Test.YtjajpilacdfnbaaGreatDoorW25
import Derived.Test.YtjajpilacdfnbaaGreatDoorW28
import Derived.Test.YtjajpilacdfnbaaGreatDoorW29
import Derived.Test.YtjajpilacdfnbaaGreatDoorW30
import Derived.Test.YtjajpilacdfnbaaGreatDoorW31
namespace Go.Proofs.YtjajpilacdfnbaaGreatDoor
open Am C
set_option linter.unusedSimpArgs false
set_option linter.unusedVariables false
section
open Go Go.RowKit
theorem Am.AC.codeR {P : Program} {f : FuncId} {fn : Func} {a : AFunc} (hf : P.funcs[f]? = some fn) (hok : okFunc P fn a = true) {args : List V} {H : Hp} {R : V → Prop}
    (h : (∀ id blk, H.get id = some blk → id < H.next) → AX P a.n a.body (Ends (fun r H' => (R r ∧ free r) ∧ H.Ext H') a.res) (fr0 0 args) H) : AC P f args H (fun r H' => R r ∧ H' = H) :=
  AC.lt (okFn_of hf hok) fun hl => (AC.code hf hok (h hl)).trim fun r H' ⟨⟨e, hfr⟩, h1, h2⟩ =>
    ⟨H, ⟨Nat.le_refl _, h1, fun id blk hg => ⟨hl id blk hg, h2 id blk hg⟩, fun id cs m hg => .inl ⟨m, hg⟩, fun id es hg => .inl hg⟩, hfr.ok _, e, rfl⟩
end
theorem i64_succ' {i : Nat} (h : i ≤ 9223372036854775000) : Go.IntKind.i64.wrap ((i : Int) + 1) = ((i + 1 : Nat) : Int) := by rw [wrap_i64 (by omega) (by omega)]; omega
def syZ (s : Sy) : Prop := s.objs.length ≤ 140737488355328 ∧ s.fns.length ≤ 140737488355328 ∧ s.cons.length ≤ 140737488355328 ∧ (∀ o ∈ s.objs, obS o) ∧ (∀ f ∈ s.fns, fuS f ∧ f.ret.length ≤ 140737488355328) ∧
  ∀ c ∈ s.cons, c.a.length ≤ 140737488355328 ∧ c.b.length ≤ 140737488355328 ∧ c.tag.length ≤ 140737488355328 ∧ c.args.length ≤ 140737488355328 ∧ ∀ a ∈ c.args, a.length ≤ 140737488355328
def GrInv (s : Sy) (H : Hp) (m : Nat) (F : Fr) (X : Hp) : Prop :=
  ∃ i n, i ≤ s.objs.length ∧ m = s.objs.length - i ∧ n ≤ 30000 ∧ X = H ∧ F = [(2, .fp (sycs s) 0), (5, .i .i64 (n : Nat)), (6, .i .i64 i)]
def GrIn (s : Sy) (i n0 : Nat) (ms : List Mk) (H : Hp) (m : Nat) (F : Fr) (X : Hp) : Prop :=
  ∃ k n, k ≤ ms.length ∧ k ≤ 100 ∧ m = ms.length - k ∧ n ≤ n0 + k * 140737488355328 ∧ X = H ∧ F = [(2, .fp (sycs s) 0), (5, .i .i64 (n : Nat)), (6, .i .i64 i), (7, .i .i64 k)]
def GrInv2 (s : Sy) (H : Hp) (m : Nat) (F : Fr) (X : Hp) : Prop :=
  ∃ i n, i ≤ s.fns.length ∧ m = s.fns.length - i ∧ n ≤ 30000 ∧ X = H ∧ F = [(2, .fp (sycs s) 0), (5, .i .i64 (n : Nat)), (8, .i .i64 i)]
def GrInv3 (s : Sy) (H : Hp) (m : Nat) (F : Fr) (X : Hp) : Prop :=
  ∃ i n, i ≤ s.cons.length ∧ m = s.cons.length - i ∧ n ≤ 60000 ∧ (∀ (j : Nat) c, j < i → s.cons[j]? = some c → c.args.length ≤ 6000) ∧ H.Ext X ∧ (∀ id blk, X.get id = some blk → id < X.next) ∧ F = [(2, .fp (sycs s) 0), (5, .i .i64 (n : Nat)), (9, .i .i64 i)]
def GrIn3 (s : Sy) (i n0 id : Nat) (args : List Str) (H : Hp) (m : Nat) (F : Fr) (X : Hp) : Prop :=
  ∃ k n, k ≤ args.length ∧ k ≤ 100 ∧ m = args.length - k ∧ n0 ≤ n ∧ n ≤ n0 + k * 140737488355328 ∧ X = H ∧ F = [(2, .fp (sycs s) 0), (5, .i .i64 (n : Nat)), (9, .i .i64 i), (10, .p (some (id, 0, 6))), (11, .i .i64 k)]
theorem SGreatM_ok (most : Nat) (hm : most ≤ 100) (s : Sy) (hs : syZ s) (H : Hp) : AC Tryz.prog n_weftlaw15_Great [.agg (sycs s), .i .i64 (most : Nat)] H (fun v H' => (∃ b, v = .b b ∧ (b = false → syS s)) ∧ H' = H) := by
  obtain ⟨z1, z2, z3, zo, zf, zc⟩ := hs
  refine AC.codeR weftlaw15_Great.at weftlaw15_Great.ok fun hlt => ?_
  simp only [weftlaw15_Great]
  refine AX.seq (AX.reg ?_)
  simp [weftlaw15_Great.r0, sycs]
  refine AX.seq ?_
  refine AX.test (decide (most < s.objs.length) || decide (most < s.fns.length) || decide (most < s.cons.length)) [(2, .fp (sycs s) 0), (30, .b (decide (most < s.objs.length) || decide (most < s.fns.length) || decide (most < s.cons.length)))] ?_ rfl (fun hb => ?_) (fun hb => AX.skip ?_)
  · by_cases h1 : most < s.objs.length
    · simp [weftlaw15_Great.r1, sycs, h1]
    by_cases h2 : most < s.fns.length
    · simp [weftlaw15_Great.r1, sycs, h1, h2]
    · simp [weftlaw15_Great.r1, sycs, h1, h2]
  · refine AX.seq (AX.reg ?_)
    simp [weftlaw15_Great.r2]
    refine AX.ret ?_
    simp
    exact .refl _
  simp at hb
  simp
  refine AX.seq (AX.reg ?_)
  simp [weftlaw15_Great.r3]
  refine AX.seq (AX.seq (AX.reg ?_))
  simp [weftlaw15_Great.r4]
  refine AX.pblock (AX.loop (GrInv s H) s.objs.length ⟨_, _, .refl _ _, 0, 0, by omega, by omega, by omega, rfl, by simp [sycs]⟩ ?_)
  rintro m F X ⟨i, n, hi, rfl, hn, hX, rfl⟩
  obtain rfl := hX.symm
  simp only [weftlaw15_Great.l0]
  refine AX.seq (AX.seq (AX.reg ?_))
  simp [weftlaw15_Great.r5, sycs]
  refine AX.pcond rfl (fun hc => AX.skip ?_) (fun hc => AX.exit ?_)
  · simp at hc
    obtain ⟨b1, b2, b3, b4⟩ := zo _ (List.getElem_mem hc)
    have hg : s.objs[i]? = some s.objs[i] := List.getElem?_eq_getElem hc
    simp
    generalize s.objs[i] = o at *
    have w1 : Go.IntKind.i64.wrap ((n : Int) + o.name.length) = (n : Int) + o.name.length := wrap_i64 (by omega) (by omega)
    have w2 : Go.IntKind.i64.wrap ((n : Int) + o.name.length + o.kinds.length) = (n : Int) + o.name.length + o.kinds.length := wrap_i64 (by omega) (by omega)
    have w3 : Go.IntKind.i64.wrap (10 * (o.marks.length : Int)) = 10 * (o.marks.length : Int) := wrap_i64 (by omega) (by omega)
    have w4 : Go.IntKind.i64.wrap ((n : Int) + o.name.length + o.kinds.length + 10 * o.marks.length) = (n : Int) + o.name.length + o.kinds.length + 10 * o.marks.length := wrap_i64 (by omega) (by omega)
    refine AX.seq (AX.pblock (AX.seq (AX.drw ?_)))
    simp [weftlaw15_Great.r6, sycs, hg, obcs, w1, w2, w3, w4]
    obtain ⟨n0, hn0⟩ : ∃ n0, n0 = n + o.name.length + o.kinds.length + 10 * o.marks.length := ⟨_, rfl⟩
    rw [show ((n : Int) + o.name.length + o.kinds.length + 10 * o.marks.length) = ((n0 : Nat) : Int) by omega]
    refine AX.seq (AX.seq (AX.reg ?_))
    simp [weftlaw15_Great.r7]
    refine AX.pblock (AX.loop (GrIn s i n0 o.marks H) o.marks.length ⟨_, _, .refl _ _, 0, n0, by omega, by omega, by omega, by omega, rfl, by simp [sycs]⟩ ?_)
    rintro m F Y ⟨k, n1, hkl, hk5, rfl, h1, hY, rfl⟩
    obtain rfl := hY.symm
    simp only [weftlaw15_Great.l1]
    refine AX.seq (AX.test (decide (k < o.marks.length ∧ k < 100)) [(2, .fp (sycs s) 0), (5, .i .i64 (n1 : Nat)), (6, .i .i64 i), (7, .i .i64 k), (76, .b (decide (k < o.marks.length ∧ k < 100)))] ?_ rfl (fun h => AX.skip ?_) (fun h => AX.exit ?_))
    · by_cases hkk : k < o.marks.length
      · simp [weftlaw15_Great.r8, sycs, hg, obcs, hkk]
      · simp [weftlaw15_Great.r8, sycs, hg, obcs, hkk]
    · simp at h
      have b5 := b4 _ (List.getElem_mem h.1)
      have hgk : o.marks[k]? = some (o.marks[k]'h.1) := List.getElem?_eq_getElem h.1
      generalize o.marks[k]'h.1 = mk at *
      have w5 : Go.IntKind.i64.wrap ((n1 : Int) + mk.tag.length) = (n1 : Int) + mk.tag.length := wrap_i64 (by omega) (by omega)
      simp
      refine AX.seq (AX.pblock (AX.reg ?_))
      simp [weftlaw15_Great.r9, sycs, hg, hgk, obcs, mkcs, w5]
      rw [show ((n1 : Int) + mk.tag.length) = ((n1 + mk.tag.length : Nat) : Int) by omega]
      refine AX.reg ?_
      simp [weftlaw15_Great.r10, i64_succ' (show k ≤ 9223372036854775000 by omega)]
      refine ⟨o.marks.length - (k + 1), by omega, _, _, .refl _ _, k + 1, n1 + mk.tag.length, by omega, by omega, rfl, ?_, rfl, by simp [sycs]⟩
      rw [Nat.succ_mul]; omega
    · simp
      refine AX.seq (AX.reg ?_)
      simp [weftlaw15_Great.r11]
      by_cases hbig : 30000 < n1
      · refine AX.pcond (t := true) (by simp; omega) (fun _ => AX.seq (AX.reg ?_)) (fun h => by simp at h)
        simp [weftlaw15_Great.r12]
        refine AX.ret ?_
        simp
        exact .refl _
      · refine AX.pcond (t := false) (by simp; omega) (fun h => by simp at h) (fun _ => AX.skip ?_)
        simp
        refine AX.reg ?_
        simp [weftlaw15_Great.r13, i64_succ' (show i ≤ 9223372036854775000 by omega)]
        exact ⟨s.objs.length - (i + 1), by omega, _, _, .refl _ _, i + 1, n1, by omega, rfl, by omega, rfl, by simp [sycs]⟩
  simp at hc
  simp
  refine AX.seq (AX.seq (AX.reg ?_))
  simp [weftlaw15_Great.r14]
  refine AX.pblock (AX.loop (GrInv2 s H) s.fns.length ⟨_, _, .refl _ _, 0, n, by omega, by omega, by omega, rfl, by simp [sycs]⟩ ?_)
  rintro m F X ⟨j, n2, hj, rfl, hn2, hX, rfl⟩
  obtain rfl := hX.symm
  simp only [weftlaw15_Great.l2]
  refine AX.seq (AX.seq (AX.reg ?_))
  simp [weftlaw15_Great.r15, sycs]
  refine AX.pcond rfl (fun hd => AX.skip ?_) (fun hd => AX.exit ?_)
  · simp at hd
    obtain ⟨⟨b1, b2⟩, b3⟩ := zf _ (List.getElem_mem hd)
    have hg : s.fns[j]? = some s.fns[j] := List.getElem?_eq_getElem hd
    simp
    generalize s.fns[j] = f at *
    have w1 : Go.IntKind.i64.wrap ((n2 : Int) + f.name.length) = (n2 : Int) + f.name.length := wrap_i64 (by omega) (by omega)
    have w2 : Go.IntKind.i64.wrap ((n2 : Int) + f.name.length + f.kinds.length) = (n2 : Int) + f.name.length + f.kinds.length := wrap_i64 (by omega) (by omega)
    have w3 : Go.IntKind.i64.wrap ((n2 : Int) + f.name.length + f.kinds.length + f.ret.length) = (n2 : Int) + f.name.length + f.kinds.length + f.ret.length := wrap_i64 (by omega) (by omega)
    refine AX.seq (AX.pblock (AX.seq (AX.drw ?_)))
    simp [weftlaw15_Great.r16, sycs, hg, fucs, w1, w2, w3]
    obtain ⟨n1, hn1⟩ : ∃ n1, n1 = n2 + f.name.length + f.kinds.length + f.ret.length := ⟨_, rfl⟩
    rw [show ((n2 : Int) + f.name.length + f.kinds.length + f.ret.length) = ((n1 : Nat) : Int) by omega]
    refine AX.seq (AX.reg ?_)
    simp [weftlaw15_Great.r17]
    by_cases hbig : 30000 < n1
    · refine AX.pcond (t := true) (by simp; omega) (fun _ => AX.seq (AX.reg ?_)) (fun h => by simp at h)
      simp [weftlaw15_Great.r18]
      refine AX.ret ?_
      simp
      exact .refl _
    · refine AX.pcond (t := false) (by simp; omega) (fun h => by simp at h) (fun _ => AX.skip ?_)
      simp
      refine AX.reg ?_
      simp [weftlaw15_Great.r19, i64_succ' (show j ≤ 9223372036854775000 by omega)]
      exact ⟨s.fns.length - (j + 1), by omega, _, _, .refl _ _, j + 1, n1, by omega, rfl, by omega, rfl, by simp [sycs]⟩
  simp at hd
  simp
  refine AX.seq (AX.seq (AX.reg ?_))
  simp [weftlaw15_Great.r20]
  refine AX.pblock (AX.loop (GrInv3 s H) s.cons.length ⟨_, _, .refl _ _, 0, n2, by omega, by omega, by omega, fun j c h => by omega, .refl _, hlt, by simp [sycs]⟩ ?_)
  rintro m F X ⟨q, n3, hq, rfl, hn3, hall, X1, L1, rfl⟩
  simp only [weftlaw15_Great.l3]
  refine AX.seq (AX.seq (AX.reg ?_))
  simp [weftlaw15_Great.r21, sycs]
  refine AX.pcond rfl (fun he => AX.skip ?_) (fun he => AX.exit ?_)
  case refine_2 =>
    simp at he
    simp
    refine AX.seq (AX.reg ?_)
    simp [weftlaw15_Great.r31]
    refine AX.ret ?_
    simp
    refine ⟨⟨by omega, by omega, by omega, zo, fun f hf => (zf f hf).1, fun c hcm => ?_⟩, X1⟩
    obtain ⟨g1, g2, g3, g4, g5⟩ := zc c hcm
    obtain ⟨k, hk⟩ := List.mem_iff_getElem?.1 hcm
    have := hall k c (by have := (List.getElem?_eq_some_iff.1 hk).1; omega) hk
    exact ⟨g1, g2, g3, by omega, g5⟩
  simp at he
  obtain ⟨g1, g2, g3, g4, g5⟩ := zc _ (List.getElem_mem he)
  have hg : s.cons[q]? = some s.cons[q] := List.getElem?_eq_getElem he
  simp
  generalize s.cons[q] = c at *
  refine AX.seq (AX.pblock (AX.seq (AX.reg ?_)))
  simp [weftlaw15_Great.r22, hg, cncs, ss]
  have X4 := X1.trans (ext2 L1 (.cells [.i .i64 0, .s [], .s [], .i .i64 0, .s [], .sl none 0 0] 6) (.cells [.i .i64 c.op, .s c.a, .s c.b, .i .i64 c.k, .s c.tag, .fs (c.args.map fun x => [.s x])] 6))
  have L4 := lt2 L1 (.cells [.i .i64 0, .s [], .s [], .i .i64 0, .s [], .sl none 0 0] 6) (.cells [.i .i64 c.op, .s c.a, .s c.b, .i .i64 c.k, .s c.tag, .fs (c.args.map fun x => [.s x])] 6)
  have G4 : ((X.add (.cells [.i .i64 0, .s [], .s [], .i .i64 0, .s [], .sl none 0 0] 6)).upd X.next (.cells [.i .i64 c.op, .s c.a, .s c.b, .i .i64 c.k, .s c.tag, .fs (c.args.map fun x => [.s x])] 6)).get X.next = some (.cells [.i .i64 c.op, .s c.a, .s c.b, .i .i64 c.k, .s c.tag, .fs (c.args.map fun x => [.s x])] 6) := by simp
  generalize (X.add (.cells [.i .i64 0, .s [], .s [], .i .i64 0, .s [], .sl none 0 0] 6)).upd X.next (.cells [.i .i64 c.op, .s c.a, .s c.b, .i .i64 c.k, .s c.tag, .fs (c.args.map fun x => [.s x])] 6) = Z at *
  generalize X.next = id at *
  have w1 : Go.IntKind.i64.wrap ((n3 : Int) + c.a.length) = (n3 : Int) + c.a.length := wrap_i64 (by omega) (by omega)
  have w2 : Go.IntKind.i64.wrap ((n3 : Int) + c.a.length + c.b.length) = (n3 : Int) + c.a.length + c.b.length := wrap_i64 (by omega) (by omega)
  have w3 : Go.IntKind.i64.wrap ((n3 : Int) + c.a.length + c.b.length + c.tag.length) = (n3 : Int) + c.a.length + c.b.length + c.tag.length := wrap_i64 (by omega) (by omega)
  have w4 : Go.IntKind.i64.wrap (10 * (c.args.length : Int)) = 10 * (c.args.length : Int) := wrap_i64 (by omega) (by omega)
  have w5 : Go.IntKind.i64.wrap ((n3 : Int) + c.a.length + c.b.length + c.tag.length + 10 * c.args.length) = (n3 : Int) + c.a.length + c.b.length + c.tag.length + 10 * c.args.length := wrap_i64 (by omega) (by omega)
  refine AX.seq (AX.reg ?_)
  simp [weftlaw15_Great.r23, G4, w1, w2, w3, w4, w5]
  obtain ⟨n0, hn0⟩ : ∃ n0, n0 = n3 + c.a.length + c.b.length + c.tag.length + 10 * c.args.length := ⟨_, rfl⟩
  rw [show ((n3 : Int) + c.a.length + c.b.length + c.tag.length + 10 * c.args.length) = ((n0 : Nat) : Int) by omega]
  refine AX.seq (AX.seq (AX.reg ?_))
  simp [weftlaw15_Great.r24]
  refine AX.pblock (AX.loop (GrIn3 s q n0 id c.args Z) c.args.length ⟨_, _, .refl _ _, 0, n0, by omega, by omega, by omega, by omega, by omega, rfl, by simp [sycs]⟩ ?_)
  rintro m F Y ⟨k, n1, hkl, hk5, rfl, h0, h1, hY, rfl⟩
  obtain rfl := hY.symm
  simp only [weftlaw15_Great.l4]
  refine AX.seq (AX.test (decide (k < c.args.length ∧ k < 100)) [(2, .fp (sycs s) 0), (5, .i .i64 (n1 : Nat)), (9, .i .i64 q), (10, .p (some (id, 0, 6))), (11, .i .i64 k), (166, .b (decide (k < c.args.length ∧ k < 100)))] ?_ rfl (fun h => AX.skip ?_) (fun h => AX.exit ?_))
  · by_cases hkk : k < c.args.length
    · simp [weftlaw15_Great.r25, sycs, G4, hkk]
    · simp [weftlaw15_Great.r25, sycs, G4, hkk]
  · simp at h
    have b5 := g5 _ (List.getElem_mem h.1)
    have hgk : c.args[k]? = some (c.args[k]'h.1) := List.getElem?_eq_getElem h.1
    generalize c.args[k]'h.1 = a at *
    have w6 : Go.IntKind.i64.wrap ((n1 : Int) + a.length) = (n1 : Int) + a.length := wrap_i64 (by omega) (by omega)
    simp
    refine AX.seq (AX.pblock (AX.reg ?_))
    simp [weftlaw15_Great.r26, G4, hgk, w6]
    rw [show ((n1 : Int) + a.length) = ((n1 + a.length : Nat) : Int) by omega]
    refine AX.reg ?_
    simp [weftlaw15_Great.r27, i64_succ' (show k ≤ 9223372036854775000 by omega)]
    refine ⟨c.args.length - (k + 1), by omega, _, _, .refl _ _, k + 1, n1 + a.length, by omega, by omega, rfl, by omega, ?_, rfl, by simp [sycs]⟩
    rw [Nat.succ_mul]; omega
  · simp
    refine AX.seq (AX.reg ?_)
    simp [weftlaw15_Great.r28]
    by_cases hbig : 60000 < n1
    · refine AX.pcond (t := true) (by simp; omega) (fun _ => AX.seq (AX.reg ?_)) (fun h => by simp at h)
      simp [weftlaw15_Great.r29]
      refine AX.ret ?_
      simp
      exact X4
    · refine AX.pcond (t := false) (by simp; omega) (fun h => by simp at h) (fun _ => AX.skip ?_)
      simp
      refine AX.reg ?_
      simp [weftlaw15_Great.r30, i64_succ' (show q ≤ 9223372036854775000 by omega)]
      refine ⟨s.cons.length - (q + 1), by omega, _, _, .refl _ _, q + 1, n1, by omega, rfl, by omega, fun j c' hj' hc' => ?_, X4, L4, by simp [sycs]⟩
      by_cases e : j = q
      · subst e
        rw [hg] at hc'; injection hc' with hc'; subst hc'; omega
      · exact hall j c' (by omega) hc'
end Go.Proofs.YtjajpilacdfnbaaGreatDoor
namespace Go.Proofs.YtjajpilacdfnbaaGreatDoor
open Am C
set_option linter.unusedSimpArgs false
set_option linter.unusedVariables false
def suZ (s : Su) : Prop := s.name.length ≤ 140737488355328 ∧ s.gives.length ≤ 140737488355328 ∧ s.wants.length ≤ 140737488355328 ∧ s.keeps.length ≤ 140737488355328 ∧ (∀ k ∈ s.keeps, k.length ≤ 140737488355328) ∧ syZ s.sys
def GtInv (l : List Str) (H : Hp) (m : Nat) (F : Fr) (X : Hp) : Prop :=
  ∃ i, i ≤ l.length ∧ i ≤ 60 ∧ m = l.length - i ∧ X = H ∧ F = [(0, ss l), (3, .i .i64 i)]
theorem GreatTexts_ok (l : List Str) (H : Hp) : AC Tryz.prog n_weftlaw21_GreatTexts [ss l] H (fun v H' => (∃ b, v = .b b) ∧ H' = H) := by
  refine AC.code weftlaw21_GreatTexts.at weftlaw21_GreatTexts.ok ?_
  simp only [weftlaw21_GreatTexts]
  refine AX.seq (AX.reg ?_)
  simp [weftlaw21_GreatTexts.r0]
  refine AX.seq (AX.seq (AX.reg ?_))
  simp [weftlaw21_GreatTexts.r1]
  refine AX.pblock (AX.loop (GtInv l H) l.length ⟨_, _, .refl _ _, 0, by omega, by omega, by omega, rfl, rfl⟩ ?_)
  rintro m F X ⟨i, hi, hi60, rfl, rfl, rfl⟩
  simp only [weftlaw21_GreatTexts.l0]
  refine AX.seq (AX.seq (AX.reg ?_))
  simp [weftlaw21_GreatTexts.r2, ss]
  refine AX.pcond rfl (fun hc => AX.skip ?_) (fun hc => AX.exit ?_)
  · simp at hc
    simp
    obtain ⟨tb, htb⟩ : ∃ tb, tb = (decide (60 ≤ i) || decide (100 < l[i].length)) := ⟨_, rfl⟩
    refine AX.seq (AX.pblock (AX.test tb [(0, ss l), (3, .i .i64 i), (19, .b tb)] ?_ rfl (fun h => AX.seq (AX.reg ?_)) (fun h => AX.skip ?_)))
    · by_cases h60 : 60 ≤ i
      · simp [weftlaw21_GreatTexts.r3, h60, htb, ss]
      · simp [weftlaw21_GreatTexts.r3, h60, htb, ss, hc]
    · simp [weftlaw21_GreatTexts.r4]
      refine AX.ret ?_
      simp
    · rw [htb] at h
      simp at h
      simp
      refine AX.reg ?_
      simp [weftlaw21_GreatTexts.r5, i64_succ (show i ≤ 9223372036854775000 by omega)]
      exact ⟨l.length - (i + 1), by omega, _, _, .refl _ _, i + 1, by omega, by omega, rfl, rfl, by simp [ss]⟩
  simp
  refine AX.seq (AX.reg ?_)
  simp [weftlaw21_GreatTexts.r6]
  refine AX.ret ?_
  simp
def GkInv (l : List Str) (H : Hp) (m : Nat) (F : Fr) (X : Hp) : Prop :=
  ∃ i, i ≤ l.length ∧ m = l.length - i ∧ X = H ∧ F = [(0, ss l), (3, .i .i64 i)]
theorem greatKeeps_ok (l : List Str) (hl : l.length ≤ 140737488355328) (H : Hp) : AC Tryz.prog n_weftlaw24_greatKeeps [ss l] H (fun v H' => (∃ b, v = .b b) ∧ H' = H) := by
  refine AC.code weftlaw24_greatKeeps.at weftlaw24_greatKeeps.ok ?_
  simp only [weftlaw24_greatKeeps]
  refine AX.seq (AX.reg ?_)
  simp [weftlaw24_greatKeeps.r0]
  refine AX.seq (AX.seq (AX.reg ?_))
  simp [weftlaw24_greatKeeps.r1]
  refine AX.pblock (AX.loop (GkInv l H) l.length ⟨_, _, .refl _ _, 0, by omega, by omega, rfl, rfl⟩ ?_)
  rintro m F X ⟨i, hi, rfl, rfl, rfl⟩
  simp only [weftlaw24_greatKeeps.l0]
  refine AX.seq (AX.seq (AX.reg ?_))
  simp [weftlaw24_greatKeeps.r2, ss]
  refine AX.pcond rfl (fun hc => AX.skip ?_) (fun hc => AX.exit ?_)
  · simp at hc
    simp
    refine AX.seq (AX.pblock (AX.seq (AX.reg ?_)))
    simp [weftlaw24_greatKeeps.r3, hc]
    refine AX.pcond rfl (fun h => AX.seq (AX.reg ?_)) (fun h => AX.skip ?_)
    · simp [weftlaw24_greatKeeps.r4]
      refine AX.ret ?_
      simp
    · simp
      refine AX.reg ?_
      simp [weftlaw24_greatKeeps.r5, i64_succ (show i ≤ 9223372036854775000 by omega)]
      exact ⟨l.length - (i + 1), by omega, _, _, .refl _ _, i + 1, by omega, rfl, rfl, by simp [ss]⟩
  simp
  refine AX.seq (AX.reg ?_)
  simp [weftlaw24_greatKeeps.r6]
  refine AX.ret ?_
  simp
theorem SumGreat_ok (s : Su) (hs : suZ s) (H : Hp) : AC Tryz.prog n_weftlaw24_Great [.agg (sucs s)] H (fun v H' => (∃ b, v = .b b ∧ (b = false → suS s)) ∧ H' = H) := by
  obtain ⟨z1, z2, z3, z4, z5, z6⟩ := hs
  have hS : syS s.sys → suS s := fun h => ⟨z1, z2, z3, z4, z5, h⟩
  refine AC.code weftlaw24_Great.at weftlaw24_Great.ok ?_
  simp only [weftlaw24_Great]
  refine AX.seq (AX.reg ?_)
  simp [weftlaw24_Great.r0, sucs]
  refine AX.seq (AX.reg ?_)
  by_cases h1 : 100 < s.name.length
  · simp [weftlaw24_Great.r1, sucs, h1]
    refine AX.ret ?_
    simp
  simp [weftlaw24_Great.r1, sucs, h1]
  refine (SGreatM_ok 80 (by omega) s.sys z6 H).mono ?_
  rintro _ _ ⟨⟨b, rfl, hb⟩, rfl⟩
  cases b with
  | true =>
    simp
    refine AX.ret ?_
    simp
  | false =>
  have hS := hS (hb rfl)
  simp
  refine (GreatTexts_ok s.gives _).mono ?_
  rintro _ _ ⟨⟨b, rfl⟩, rfl⟩
  cases b with
  | true =>
    simp
    refine AX.ret ?_
    simp
  | false =>
  simp
  refine (GreatTexts_ok s.wants _).mono ?_
  rintro _ _ ⟨⟨b, rfl⟩, rfl⟩
  cases b with
  | true =>
    simp
    refine AX.ret ?_
    simp
  | false =>
  by_cases h2 : 200 < s.keeps.length
  · simp [h2, ss]
    refine AX.ret ?_
    simp
  simp [h2, ss]
  refine (greatKeeps_ok s.keeps z4 _).mono ?_
  rintro _ _ ⟨⟨b, rfl⟩, rfl⟩
  simp
  refine AX.ret ?_
  simp
  cases b <;> simp [hS]
def GaInv (l : List Su) (H : Hp) (m : Nat) (F : Fr) (X : Hp) : Prop :=
  ∃ i, i ≤ l.length ∧ m = l.length - i ∧ (∀ s ∈ l.take i, suS s) ∧ X = H ∧ F = [(0, .fs (l.map sucs)), (3, .i .i64 i)]
theorem GreatAll_ok (l : List Su) (hl : l.length ≤ 140737488355328) (hs : ∀ s ∈ l, suZ s) (H : Hp) : AC Tryz.prog n_weftlaw28_GreatAll [.fs (l.map sucs)] H (fun v H' => (∃ b, v = .b b ∧ (b = false → l.length ≤ 12 ∧ ∀ s ∈ l, suS s)) ∧ H' = H) := by
  refine AC.code weftlaw28_GreatAll.at weftlaw28_GreatAll.ok ?_
  simp only [weftlaw28_GreatAll]
  refine AX.seq (AX.reg ?_)
  simp [weftlaw28_GreatAll.r0]
  refine AX.seq (AX.seq (AX.reg ?_))
  simp [weftlaw28_GreatAll.r1]
  refine AX.pcond rfl (fun h8 => ?_) (fun h8 => AX.skip ?_)
  · refine AX.seq (AX.reg ?_)
    simp [weftlaw28_GreatAll.r2]
    refine AX.ret ?_
    simp
  simp at h8
  simp
  refine AX.seq (AX.seq (AX.reg ?_))
  simp [weftlaw28_GreatAll.r3]
  refine AX.pblock (AX.loop (GaInv l H) l.length ⟨_, _, .refl _ _, 0, by omega, by omega, by simp, rfl, rfl⟩ ?_)
  rintro m F X ⟨i, hi, rfl, ha, rfl, rfl⟩
  simp only [weftlaw28_GreatAll.l0]
  refine AX.seq (AX.seq (AX.reg ?_))
  simp [weftlaw28_GreatAll.r4]
  refine AX.pcond rfl (fun hd => AX.skip ?_) (fun hd => AX.exit ?_)
  · simp at hd
    have hg : l[i]? = some l[i] := List.getElem?_eq_getElem hd
    have hz := hs _ (List.getElem_mem hd)
    have e1 := List.take_append_getElem hd
    generalize l[i] = s at *
    simp
    refine AX.seq (AX.pblock (AX.seq (AX.reg ?_)))
    simp [weftlaw28_GreatAll.r5, hg, sucs]
    refine (SumGreat_ok s hz X).mono ?_
    rintro _ _ ⟨⟨b, rfl, hb⟩, rfl⟩
    simp
    refine AX.pcond rfl (fun h => AX.seq (AX.reg ?_)) (fun h => AX.skip ?_)
    · simp [weftlaw28_GreatAll.r6]
      refine AX.ret ?_
      simp
    · have hss := hb h
      simp
      refine AX.reg ?_
      simp [weftlaw28_GreatAll.r7, i64_succ (show i ≤ 9223372036854775000 by omega)]
      refine ⟨l.length - (i + 1), by omega, _, _, .refl _ _, i + 1, by omega, rfl, ?_, rfl, by simp [sucs]⟩
      rw [← e1]
      intro x hx
      rcases List.mem_append.1 hx with hx | hx
      · exact ha x hx
      · simp at hx; subst hx; exact hss
  simp at hd
  rw [List.take_of_length_le hd] at ha
  simp
  refine AX.seq (AX.reg ?_)
  simp [weftlaw28_GreatAll.r8]
  refine AX.ret ?_
  simp
  exact ⟨by omega, ha⟩
end Go.Proofs.YtjajpilacdfnbaaGreatDoor
namespace Go.Proofs.YtjajpilacdfnbaaGreatDoor
open Am C
set_option linter.unusedSimpArgs false
set_option linter.unusedVariables false
def syW (n : Str) : Sy := ⟨[], [⟨n, [112], [118]⟩], []⟩
def suN : Su := ⟨[110], [], [[102, 40, 41]], [], syW [102, 40, 41]⟩
def suM : Su := ⟨[109], [[102, 40, 41]], [], [], syW [102, 40, 41]⟩
theorem resW1 : resS [suN, suM] = ([⟨[102, 40, 41], [109], [[110]]⟩], [], 0) := by kernel_rfl
theorem resW2 : resS [suN] = ([], [102, 40, 41], 7) := by kernel_rfl
theorem suN_S : suS suN := ⟨by decide, by decide, by decide, by decide, by simp [suN], by decide, by decide, by decide, by simp [suN, syW], by simp [suN, syW, fuS], by simp [suN, syW]⟩
theorem suM_S : suS suM := ⟨by decide, by decide, by decide, by decide, by simp [suM], by decide, by decide, by decide, by simp [suM, syW], by simp [suM, syW, fuS], by simp [suM, syW]⟩
theorem lsys_ok (n : Str) (H : Hp) : AC Tryz.prog n_weftlaw28_sys [.s n] H (fun v H' => v = .agg (sycs (syW n)) ∧ H' = H) := by
  refine AC.codeP weftlaw28_sysI.at weftlaw28_sysI.ok (by simp [sycs, syW, fucs]) fun hlt => ?_
  simp only [weftlaw28_sysI]
  refine AX.seq (AX.reg ?_)
  simp [weftlaw28_sysI.r0]
  refine AX.seq (AX.reg ?_)
  simp [weftlaw28_sysI.r1, repl]
  refine AX.ret ?_
  simp [sycs, syW, fucs]
  exact ⟨ext2 hlt _ _, .refl _⟩
set_option maxHeartbeats 1000000 in
theorem works_ok (H : Hp) : AC Tryz.prog n_weftlaw28_works [] H (fun v H' => v = .b true ∧ H' = H) := by
  have h1 := Resolve_ok [suN, suM] (by decide) (by intro s hs; simp at hs; rcases hs with rfl | rfl; exact suN_S; exact suM_S) H
  have h2 := Resolve_ok [suN] (by decide) (by intro s hs; simp at hs; subst hs; exact suN_S) H
  rw [resW1] at h1
  rw [resW2] at h2
  refine AC.code weftlaw28_worksI.at weftlaw28_worksI.ok ?_
  simp only [weftlaw28_worksI]
  refine AX.seq (AX.reg ?_)
  simp [weftlaw28_worksI.r0]
  refine AX.seq (AX.reg ?_)
  simp [weftlaw28_worksI.r1, repl]
  refine AC.fix (lsys_ok _ H) ?_
  simp [sycs]
  refine AC.fix (lsys_ok _ H) ?_
  simp [sycs]
  refine AC.fix h1 ?_
  simp [rsV]
  refine AX.seq (AX.reg ?_)
  simp [weftlaw28_worksI.r2, repl]
  refine AC.fix (lsys_ok _ H) ?_
  simp [sycs]
  refine AC.fix h2 ?_
  simp [rsV]
  refine AX.seq (AX.reg ?_)
  simp [weftlaw28_worksI.r3, smV, smcs, repl]
  refine AC.fix (Same_ok [[110]] [[110]] (by decide) H) ?_
  simp
  refine AX.ret ?_
  simp
end Go.Proofs.YtjajpilacdfnbaaGreatDoor
namespace Go.Proofs.YtjajpilacdfnbaaGreatDoor
open Am C
set_option linter.unusedSimpArgs false
set_option linter.unusedVariables false
theorem res_bnd (l : List Su) : (resS l).1.length ≤ 9600 ∧ ∀ x ∈ (resS l).1, x.wanted.length ≤ 8 := by
  by_cases h : okL l
  · have hsz : ∀ s ∈ l, s.sys.objs.length ≤ 600 ∧ s.sys.fns.length ≤ 600 := fun s hs => by
      have := sys_ok (su_ok (h.2.1 s hs)).2.1; exact ⟨this.1, this.2.1⟩
    have h8 := h.1
    rw [res_ok.2 h]
    constructor
    · have h1 := List.length_filter_le (fun n => decide (givN n (hasX l n) ≠ [])) (sortedS (allN l))
      have h2 := sorted_le (allN l)
      have h3 := allN_len l hsz
      simp only [List.length_map]
      omega
    · intro x hx
      obtain ⟨n, _, rfl⟩ := List.mem_map.1 hx
      have h1 := sorted_le ((wns n (hasX l n)).map Su.name)
      have h2 := (sub_len n (hasX l n)).2.2
      have h3 := hasX_len l n
      simp at h1
      show (wanN n (hasX l n)).length ≤ 8
      unfold wanN
      omega
  · rw [res_bad h]; simp
end Go.Proofs.YtjajpilacdfnbaaGreatDoor
