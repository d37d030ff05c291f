/- Part 31 of the proof of the laws of the queries: S37d, S37c, S37e. -/
import Derived.Test.YtjemhlndmkbneaaGreatDoorW29
import Derived.Test.YtjemhlndmkbneaaGreatDoorW30
namespace Go.Proofs.YtjemhlndmkbneaaGreatDoor
open Am C
set_option linter.unusedSimpArgs false
set_option linter.unusedVariables false
structure SzHp (H X : Hp) (a b : Nat) (n k : Nat) : Prop where
  ext : H.Ext X
  lt : ∀ id blk, X.get id = some blk → id < X.next
  ha : H.next ≤ a
  hb : H.next ≤ b
  ne : a ≠ b
  ga : X.get a = some (.cells [.i .i64 0, .i .i64 0] 2)
  gb : X.get b = some (.cells [.i .i64 n, .i .i64 k] 2)
theorem SzHp.add {H X : Hp} {a b n k : Nat} (h : SzHp H X a b n k) (z c : Blk) : SzHp H ((X.add z).upd X.next c) a b n k ∧ ((X.add z).upd X.next c).get X.next = some c ∧ X.next ≠ b ∧ X.next ≠ a := by
  have h1 := h.lt _ _ h.ga
  have h2 := h.lt _ _ h.gb
  exact ⟨⟨h.ext.trans (ext2 h.lt z c), lt2 h.lt z c, h.ha, h.hb, h.ne, by simp [show ¬ a = X.next by omega, h.ga], by simp [show ¬ b = X.next by omega, h.gb]⟩, by simp, by omega, by omega⟩
theorem SzHp.set {H X : Hp} {a b n k : Nat} (hl : ∀ id blk, H.get id = some blk → id < H.next) (h : SzHp H X a b n k) (n' k' : Nat) : SzHp H (X.upd b (.cells [.i .i64 n', .i .i64 k'] 2)) a b n' k' :=
  ⟨h.ext.upd hl h.hb _, Hp.upd_lt h.lt (h.lt _ _ h.gb) _, h.ha, h.hb, h.ne, by simp [h.ne, h.ga], by simp⟩
def BoI0 (s : Sy) (H : Hp) (a b n0 : Nat) (m : Nat) (F : Fr) (X : Hp) : Prop :=
  ∃ i, i ≤ s.fns.length ∧ m = s.fns.length - i ∧ SzHp H X a b (n0 + fnCells (s.fns.take i)) 0 ∧ F = [(1, .fp (sycs s) 0), (2, .p (some (a, 0, 2))), (3, .p (some (b, 0, 2))), (22, .fs (s.fns.map fucs)), (23, .i .i64 s.fns.length), (24, .i .i64 i)]
def BoI1 (s : Sy) (H : Hp) (a b n : Nat) (m : Nat) (F : Fr) (X : Hp) : Prop :=
  ∃ i, i ≤ s.cons.length ∧ m = s.cons.length - i ∧ SzHp H X a b n (conCount (s.cons.take i)) ∧ F = [(2, .p (some (a, 0, 2))), (3, .p (some (b, 0, 2))), (38, .fs (s.cons.map cncs)), (39, .i .i64 s.cons.length), (40, .i .i64 i)]
theorem BOf_ok (s : Sy) (hs : syS s) (H : Hp) : AC Tryz.prog n_bound_Of [.agg (sycs s)] H (fun v H' => v = .agg [.i .i64 (sizeN s : Nat), .i .i64 (sizeC s : Nat)] ∧ H' = H) := by
  refine AC.codeP bound_Of.at bound_Of.ok (by simp) fun hlt => ?_
  simp only [bound_Of]
  refine AX.seq (AX.reg ?_)
  simp [bound_Of.r0, sycs]
  refine AX.seq (AX.reg ?_)
  simp [bound_Of.r1]
  have S0 : SzHp H ((H.add (.cells [.i .i64 0, .i .i64 0] 2)).add (.cells [.i .i64 0, .i .i64 0] 2)) H.next (H.next + 1) 0 0 :=
    ⟨(Hp.Ext.add hlt _).trans (Hp.Ext.add (Hp.add_lt hlt _) _), Hp.add_lt (Hp.add_lt hlt _) _, Nat.le_refl _, by omega, by omega, by simp, by simp⟩
  generalize (H.add (.cells [.i .i64 0, .i .i64 0] 2)).add (.cells [.i .i64 0, .i .i64 0] 2) = X at *
  generalize hb : H.next + 1 = b at *
  refine AX.seq (AX.seq (AX.reg ?_))
  simp [bound_Of.r2]
  refine AC.fix (SCheck_ok s hs _) ?_
  simp
  refine AX.pcond rfl (fun hc => ?_) (fun hc => AX.skip ?_)
  · simp at hc
    refine AX.seq (AX.reg ?_)
    simp [bound_Of.r3, S0.ga, S0.gb]
    refine AX.ret ?_
    simp [sizeN, sizeC, hc]
    exact ⟨S0.ext.upd hlt S0.ha _, .refl _⟩
  simp at hc
  have hok := sys_ok hc
  have eN : sizeN s = (sortedS (nodesS s ++ placesS s)).length + fnCells s.fns := by
    unfold sizeN nodesS placesS
    rw [if_pos hc, if_pos hc, if_pos hc, sorted_app2]
  have eC : sizeC s = conCount s.cons := by unfold sizeC; rw [if_pos hc]
  have hnl : (nodesS s).length ≤ 92400 := by
    have h1 := nodesL_len hc
    have h2 := sorted_le (nodesL s)
    unfold nodesS; rw [if_pos hc]; omega
  have hpl : (placesS s).length ≤ 45000 := by
    have h1 := placesL_len hc
    have h2 := sorted_le (placesL s)
    unfold placesS; rw [if_pos hc]; omega
  rw [eN, eC]
  simp
  refine AX.seq (AX.drw ?_)
  simp [bound_Of.r4]
  refine callD_pure _ (fun H2 => SNodes_ok s hs H2) ?_
  simp
  refine callD_pure _ (fun H2 => SPlaces_ok s hs H2) ?_
  simp [repl, show List.range 2 = [0, 1] from rfl, ss]
  refine callD_pure _ (fun H2 => Concat_ok [nodesS s, placesS s] (by simp) (by simp; omega) H2) ?_
  have hfl : [nodesS s, placesS s].flatten = nodesS s ++ placesS s := by simp
  rw [hfl]
  simp
  refine callD_pure _ (fun H2 => ISorted_ok (nodesS s ++ placesS s) (by simp; omega) H2) ?_
  have hql := sorted_le (nodesS s ++ placesS s)
  generalize sortedS (nodesS s ++ placesS s) = q at *
  simp [ss, S0.gb]
  have S1 := S0.set hlt q.length 0
  generalize X.upd b (.cells [.i .i64 (q.length : Nat), .i .i64 (0 : Nat)] 2) = X1 at *
  refine AX.seq (AX.seq (AX.reg ?_))
  simp [bound_Of.r5]
  refine AX.pblock (AX.loop (BoI0 s H H.next b q.length) s.fns.length ⟨_, _, .refl _ _, 0, by omega, by omega, by simpa [fnCells] using S1, by simp [sycs]⟩ ?_)
  rintro m F Y ⟨i, hi, rfl, S2, rfl⟩
  simp only [bound_Of.l0]
  refine AX.seq (AX.reg ?_)
  simp [bound_Of.r6]
  refine AX.seq (AX.pcond rfl (fun hd => AX.skip ?_) (fun hd => AX.exit ?_))
  · simp at hd
    have hg : s.fns[i]? = some s.fns[i] := List.getElem?_eq_getElem hd
    have hfk := fu_kinds (hok.2.2.2.2.1 _ (List.getElem_mem hd))
    have hft := fnCells_take hd
    have hfl := fnCells_le (l := s.fns.take i) fun f hf => fu_kinds (hok.2.2.2.2.1 _ (List.mem_of_mem_take hf))
    have htl : (s.fns.take i).length ≤ 600 := by simp; omega
    generalize s.fns[i] = f at *
    have hqb : q.length ≤ 140000 := by simp only [List.length_append] at hql; omega
    obtain ⟨N0, hN0⟩ : ∃ N0, N0 = q.length + fnCells (s.fns.take i) := ⟨_, rfl⟩
    rw [← hN0] at S2
    have hN1 : q.length + fnCells (s.fns.take (i + 1)) = N0 + (f.kinds.length + 1) := by rw [hft, hN0]; omega
    simp
    refine AX.seq (AX.pblock (AX.seq (AX.reg ?_)))
    simp [bound_Of.r7, hg, fucs]
    obtain ⟨S3, G3, ne3, _⟩ := S2.add (.cells [.s [], .s [], .s []] 3) (.cells [.s f.name, .s f.kinds, .s f.ret] 3)
    generalize (Y.add (.cells [.s [], .s [], .s []] 3)).upd Y.next (.cells [.s f.name, .s f.kinds, .s f.ret] 3) = Z at *
    generalize Y.next = id at *
    have w1 : Go.IntKind.i64.wrap ((f.kinds.length : Int) + 1) = (f.kinds.length : Int) + 1 := wrap_i64 (by omega) (by omega)
    have w2 : Go.IntKind.i64.wrap ((N0 : Int) + ((f.kinds.length : Int) + 1)) = (N0 : Int) + ((f.kinds.length : Int) + 1) := wrap_i64 (by omega) (by omega)
    refine AX.reg ?_
    simp [bound_Of.r8, S3.gb, G3, w1, w2]
    have S4 := S3.set hlt (N0 + (f.kinds.length + 1)) 0
    refine AX.reg ?_
    simp [bound_Of.r9, succ_of_lt hd (show s.fns.length ≤ 9223372036854775807 by omega)]
    refine ⟨s.fns.length - (i + 1), by omega, _, _, .refl _ _, i + 1, by omega, rfl, ?_, by simp [sycs]⟩
    rw [hN1]
    simpa using S4
  simp at hd
  rw [List.take_of_length_le hd] at S2
  have hfl := fnCells_le (l := s.fns) fun f hf => fu_kinds (hok.2.2.2.2.1 _ hf)
  obtain ⟨N, hN⟩ : ∃ N, N = q.length + fnCells s.fns := ⟨_, rfl⟩
  rw [← hN] at S2
  simp
  refine AX.seq (AX.seq (AX.reg ?_))
  simp [bound_Of.r10, sycs]
  refine AX.pblock (AX.loop (BoI1 s H H.next b N) s.cons.length ⟨_, _, .refl _ _, 0, by omega, by omega, by simpa [conCount] using S2, by simp⟩ ?_)
  rintro m F Y2 ⟨k, hk, rfl, S3, rfl⟩
  simp only [bound_Of.l1]
  refine AX.seq (AX.reg ?_)
  simp [bound_Of.r11]
  refine AX.seq (AX.pcond rfl (fun he => AX.skip ?_) (fun he => AX.exit ?_))
  case refine_2 =>
    simp at he
    rw [List.take_of_length_le he] at S3
    simp
    refine AX.seq (AX.reg ?_)
    simp [bound_Of.r16, S3.ga, S3.gb]
    refine AX.ret ?_
    simp [hN]
    exact ⟨S3.ext.upd hlt S3.ha _, .refl _⟩
  simp at he
  have hg : s.cons[k]? = some s.cons[k] := List.getElem?_eq_getElem he
  have hcz := hok.2.2.2.2.2 _ (List.getElem_mem he)
  have hft := conCount_take he
  have hcl := conCount_le (s.cons.take k)
  have htl : (s.cons.take k).length ≤ 6000 := by simp; omega
  generalize s.cons[k] = c at *
  generalize hcc : conCount (s.cons.take k) = g at *
  have hop : 1 ≤ c.op := by
    rw [cnE_eq] at hcz
    split at hcz
    · exact absurd hcz (by decide)
    · omega
  simp
  refine AX.seq (AX.pblock (AX.seq (AX.reg ?_)))
  simp [bound_Of.r12, hg, cncs, ss]
  obtain ⟨S4, G4, ne4, _⟩ := S3.add (.cells [.i .i64 0, .s [], .s [], .i .i64 0, .s [], .sl none 0 0] 6) (.cells [.i .i64 c.op, .s c.a, .s c.b, .i .i64 c.k, .s c.tag, .fs (c.args.map fun x => [.s x])] 6)
  generalize (Y2.add (.cells [.i .i64 0, .s [], .s [], .i .i64 0, .s [], .sl none 0 0] 6)).upd Y2.next (.cells [.i .i64 c.op, .s c.a, .s c.b, .i .i64 c.k, .s c.tag, .fs (c.args.map fun x => [.s x])] 6) = Z at *
  generalize Y2.next = id at *
  refine AX.test (decide (2 < c.op)) [(2, .p (some (H.next, 0, 2))), (3, .p (some (b, 0, 2))), (38, .fs (s.cons.map cncs)), (39, .i .i64 s.cons.length), (40, .i .i64 k), (51, .b (decide (2 < c.op)))] ?_ rfl (fun hf => AX.reg ?_) (fun hf => AX.skip ?_)
  · by_cases h1 : c.op = 1
    · simp [bound_Of.r13, G4, h1]
    by_cases h2 : c.op = 2
    · simp [bound_Of.r13, G4, h1, h2]
    · simp [bound_Of.r13, G4, h1, h2, show 2 < c.op by omega]
  · simp at hf
    have w1 : Go.IntKind.i64.wrap ((g : Int) + 1) = (g : Int) + 1 := wrap_i64 (by omega) (by omega)
    simp [bound_Of.r14, S4.gb, w1]
    have S5 := S4.set hlt N (g + 1)
    refine AX.reg ?_
    simp [bound_Of.r15, succ_of_lt he (show s.cons.length ≤ 9223372036854775807 by omega)]
    refine ⟨s.cons.length - (k + 1), by omega, _, _, .refl _ _, k + 1, by omega, rfl, ?_, by simp⟩
    rw [hft, if_pos hf]
    simpa using S5
  · simp at hf
    simp
    refine AX.reg ?_
    simp [bound_Of.r15, succ_of_lt he (show s.cons.length ≤ 9223372036854775807 by omega)]
    refine ⟨s.cons.length - (k + 1), by omega, _, _, .refl _ _, k + 1, by omega, rfl, ?_, by simp⟩
    rw [hft, if_neg (by omega)]
    exact S4
end Go.Proofs.YtjemhlndmkbneaaGreatDoor
namespace Go.Proofs.YtjemhlndmkbneaaGreatDoor
open Am C
set_option linter.unusedSimpArgs false
set_option linter.unusedVariables false
section
open Go Go.RowKit
theorem Am.AC.codeR {P : Program} {f : FuncId} {fn : Func} {a : AFunc} (hf : P.funcs[f]? = some fn) (hok : okFunc P fn a = true) {args : List V} {H : Hp} {R : V → Prop}
    (h : (∀ id blk, H.get id = some blk → id < H.next) → AX P a.n a.body (Ends (fun r H' => (R r ∧ free r) ∧ H.Ext H') a.res) (fr0 0 args) H) : AC P f args H (fun r H' => R r ∧ H' = H) :=
  AC.lt (okFn_of hf hok) fun hl => (AC.code hf hok (h hl)).trim fun r H' ⟨⟨e, hfr⟩, h1, h2⟩ =>
    ⟨H, ⟨Nat.le_refl _, h1, fun id blk hg => ⟨hl id blk hg, h2 id blk hg⟩, fun id cs m hg => .inl ⟨m, hg⟩, fun id es hg => .inl hg⟩, hfr.ok _, e, rfl⟩
end
theorem i64_succ' {i : Nat} (h : i ≤ 9223372036854775000) : Go.IntKind.i64.wrap ((i : Int) + 1) = ((i + 1 : Nat) : Int) := by rw [wrap_i64 (by omega) (by omega)]; omega
def syZ (s : Sy) : Prop := s.objs.length ≤ 140737488355328 ∧ s.fns.length ≤ 140737488355328 ∧ s.cons.length ≤ 140737488355328 ∧ (∀ o ∈ s.objs, obS o) ∧ (∀ f ∈ s.fns, fuS f ∧ f.ret.length ≤ 140737488355328) ∧
  ∀ c ∈ s.cons, c.a.length ≤ 140737488355328 ∧ c.b.length ≤ 140737488355328 ∧ c.tag.length ≤ 140737488355328 ∧ c.args.length ≤ 140737488355328 ∧ ∀ a ∈ c.args, a.length ≤ 140737488355328
def GrInv (s : Sy) (H : Hp) (m : Nat) (F : Fr) (X : Hp) : Prop :=
  ∃ i n, i ≤ s.objs.length ∧ m = s.objs.length - i ∧ n ≤ 30000 ∧ X = H ∧ F = [(2, .fp (sycs s) 0), (5, .i .i64 (n : Nat)), (6, .i .i64 i)]
def GrIn (s : Sy) (i n0 : Nat) (ms : List Mk) (H : Hp) (m : Nat) (F : Fr) (X : Hp) : Prop :=
  ∃ k n, k ≤ ms.length ∧ k ≤ 100 ∧ m = ms.length - k ∧ n ≤ n0 + k * 140737488355328 ∧ X = H ∧ F = [(2, .fp (sycs s) 0), (5, .i .i64 (n : Nat)), (6, .i .i64 i), (7, .i .i64 k)]
def GrInv2 (s : Sy) (H : Hp) (m : Nat) (F : Fr) (X : Hp) : Prop :=
  ∃ i n, i ≤ s.fns.length ∧ m = s.fns.length - i ∧ n ≤ 30000 ∧ X = H ∧ F = [(2, .fp (sycs s) 0), (5, .i .i64 (n : Nat)), (8, .i .i64 i)]
def GrInv3 (s : Sy) (H : Hp) (m : Nat) (F : Fr) (X : Hp) : Prop :=
  ∃ i n, i ≤ s.cons.length ∧ m = s.cons.length - i ∧ n ≤ 60000 ∧ (∀ (j : Nat) c, j < i → s.cons[j]? = some c → c.args.length ≤ 6000) ∧ H.Ext X ∧ (∀ id blk, X.get id = some blk → id < X.next) ∧ F = [(2, .fp (sycs s) 0), (5, .i .i64 (n : Nat)), (9, .i .i64 i)]
def GrIn3 (s : Sy) (i n0 id : Nat) (args : List Str) (H : Hp) (m : Nat) (F : Fr) (X : Hp) : Prop :=
  ∃ k n, k ≤ args.length ∧ k ≤ 100 ∧ m = args.length - k ∧ n0 ≤ n ∧ n ≤ n0 + k * 140737488355328 ∧ X = H ∧ F = [(2, .fp (sycs s) 0), (5, .i .i64 (n : Nat)), (9, .i .i64 i), (10, .p (some (id, 0, 6))), (11, .i .i64 k)]
theorem SGreat_ok (s : Sy) (hs : syZ s) (H : Hp) : AC Tryz.prog n_weftlaw15_Great [.agg (sycs s), .i .i64 100] H (fun v H' => (∃ b, v = .b b ∧ (b = false → syS s)) ∧ H' = H) := by
  obtain ⟨z1, z2, z3, zo, zf, zc⟩ := hs
  refine AC.codeR weftlaw15_Great.at weftlaw15_Great.ok fun hlt => ?_
  simp only [weftlaw15_Great]
  refine AX.seq (AX.reg ?_)
  simp [weftlaw15_Great.r0, sycs]
  refine AX.seq ?_
  refine AX.test (decide (100 < s.objs.length) || decide (100 < s.fns.length) || decide (100 < s.cons.length)) [(2, .fp (sycs s) 0), (30, .b (decide (100 < s.objs.length) || decide (100 < s.fns.length) || decide (100 < s.cons.length)))] ?_ rfl (fun hb => ?_) (fun hb => AX.skip ?_)
  · by_cases h1 : 100 < s.objs.length
    · simp [weftlaw15_Great.r1, sycs, h1]
    by_cases h2 : 100 < s.fns.length
    · simp [weftlaw15_Great.r1, sycs, h1, h2]
    · simp [weftlaw15_Great.r1, sycs, h1, h2]
  · refine AX.seq (AX.reg ?_)
    simp [weftlaw15_Great.r2]
    refine AX.ret ?_
    simp
    exact .refl _
  simp at hb
  simp
  refine AX.seq (AX.reg ?_)
  simp [weftlaw15_Great.r3]
  refine AX.seq (AX.seq (AX.reg ?_))
  simp [weftlaw15_Great.r4]
  refine AX.pblock (AX.loop (GrInv s H) s.objs.length ⟨_, _, .refl _ _, 0, 0, by omega, by omega, by omega, rfl, by simp [sycs]⟩ ?_)
  rintro m F X ⟨i, n, hi, rfl, hn, hX, rfl⟩
  obtain rfl := hX.symm
  simp only [weftlaw15_Great.l0]
  refine AX.seq (AX.seq (AX.reg ?_))
  simp [weftlaw15_Great.r5, sycs]
  refine AX.pcond rfl (fun hc => AX.skip ?_) (fun hc => AX.exit ?_)
  · simp at hc
    obtain ⟨b1, b2, b3, b4⟩ := zo _ (List.getElem_mem hc)
    have hg : s.objs[i]? = some s.objs[i] := List.getElem?_eq_getElem hc
    simp
    generalize s.objs[i] = o at *
    have w1 : Go.IntKind.i64.wrap ((n : Int) + o.name.length) = (n : Int) + o.name.length := wrap_i64 (by omega) (by omega)
    have w2 : Go.IntKind.i64.wrap ((n : Int) + o.name.length + o.kinds.length) = (n : Int) + o.name.length + o.kinds.length := wrap_i64 (by omega) (by omega)
    have w3 : Go.IntKind.i64.wrap (10 * (o.marks.length : Int)) = 10 * (o.marks.length : Int) := wrap_i64 (by omega) (by omega)
    have w4 : Go.IntKind.i64.wrap ((n : Int) + o.name.length + o.kinds.length + 10 * o.marks.length) = (n : Int) + o.name.length + o.kinds.length + 10 * o.marks.length := wrap_i64 (by omega) (by omega)
    refine AX.seq (AX.pblock (AX.seq (AX.drw ?_)))
    simp [weftlaw15_Great.r6, sycs, hg, obcs, w1, w2, w3, w4]
    obtain ⟨n0, hn0⟩ : ∃ n0, n0 = n + o.name.length + o.kinds.length + 10 * o.marks.length := ⟨_, rfl⟩
    rw [show ((n : Int) + o.name.length + o.kinds.length + 10 * o.marks.length) = ((n0 : Nat) : Int) by omega]
    refine AX.seq (AX.seq (AX.reg ?_))
    simp [weftlaw15_Great.r7]
    refine AX.pblock (AX.loop (GrIn s i n0 o.marks H) o.marks.length ⟨_, _, .refl _ _, 0, n0, by omega, by omega, by omega, by omega, rfl, by simp [sycs]⟩ ?_)
    rintro m F Y ⟨k, n1, hkl, hk5, rfl, h1, hY, rfl⟩
    obtain rfl := hY.symm
    simp only [weftlaw15_Great.l1]
    refine AX.seq (AX.test (decide (k < o.marks.length ∧ k < 100)) [(2, .fp (sycs s) 0), (5, .i .i64 (n1 : Nat)), (6, .i .i64 i), (7, .i .i64 k), (76, .b (decide (k < o.marks.length ∧ k < 100)))] ?_ rfl (fun h => AX.skip ?_) (fun h => AX.exit ?_))
    · by_cases hkk : k < o.marks.length
      · simp [weftlaw15_Great.r8, sycs, hg, obcs, hkk]
      · simp [weftlaw15_Great.r8, sycs, hg, obcs, hkk]
    · simp at h
      have b5 := b4 _ (List.getElem_mem h.1)
      have hgk : o.marks[k]? = some (o.marks[k]'h.1) := List.getElem?_eq_getElem h.1
      generalize o.marks[k]'h.1 = mk at *
      have w5 : Go.IntKind.i64.wrap ((n1 : Int) + mk.tag.length) = (n1 : Int) + mk.tag.length := wrap_i64 (by omega) (by omega)
      simp
      refine AX.seq (AX.pblock (AX.reg ?_))
      simp [weftlaw15_Great.r9, sycs, hg, hgk, obcs, mkcs, w5]
      rw [show ((n1 : Int) + mk.tag.length) = ((n1 + mk.tag.length : Nat) : Int) by omega]
      refine AX.reg ?_
      simp [weftlaw15_Great.r10, i64_succ' (show k ≤ 9223372036854775000 by omega)]
      refine ⟨o.marks.length - (k + 1), by omega, _, _, .refl _ _, k + 1, n1 + mk.tag.length, by omega, by omega, rfl, ?_, rfl, by simp [sycs]⟩
      rw [Nat.succ_mul]; omega
    · simp
      refine AX.seq (AX.reg ?_)
      simp [weftlaw15_Great.r11]
      by_cases hbig : 30000 < n1
      · refine AX.pcond (t := true) (by simp; omega) (fun _ => AX.seq (AX.reg ?_)) (fun h => by simp at h)
        simp [weftlaw15_Great.r12]
        refine AX.ret ?_
        simp
        exact .refl _
      · refine AX.pcond (t := false) (by simp; omega) (fun h => by simp at h) (fun _ => AX.skip ?_)
        simp
        refine AX.reg ?_
        simp [weftlaw15_Great.r13, i64_succ' (show i ≤ 9223372036854775000 by omega)]
        exact ⟨s.objs.length - (i + 1), by omega, _, _, .refl _ _, i + 1, n1, by omega, rfl, by omega, rfl, by simp [sycs]⟩
  simp at hc
  simp
  refine AX.seq (AX.seq (AX.reg ?_))
  simp [weftlaw15_Great.r14]
  refine AX.pblock (AX.loop (GrInv2 s H) s.fns.length ⟨_, _, .refl _ _, 0, n, by omega, by omega, by omega, rfl, by simp [sycs]⟩ ?_)
  rintro m F X ⟨j, n2, hj, rfl, hn2, hX, rfl⟩
  obtain rfl := hX.symm
  simp only [weftlaw15_Great.l2]
  refine AX.seq (AX.seq (AX.reg ?_))
  simp [weftlaw15_Great.r15, sycs]
  refine AX.pcond rfl (fun hd => AX.skip ?_) (fun hd => AX.exit ?_)
  · simp at hd
    obtain ⟨⟨b1, b2⟩, b3⟩ := zf _ (List.getElem_mem hd)
    have hg : s.fns[j]? = some s.fns[j] := List.getElem?_eq_getElem hd
    simp
    generalize s.fns[j] = f at *
    have w1 : Go.IntKind.i64.wrap ((n2 : Int) + f.name.length) = (n2 : Int) + f.name.length := wrap_i64 (by omega) (by omega)
    have w2 : Go.IntKind.i64.wrap ((n2 : Int) + f.name.length + f.kinds.length) = (n2 : Int) + f.name.length + f.kinds.length := wrap_i64 (by omega) (by omega)
    have w3 : Go.IntKind.i64.wrap ((n2 : Int) + f.name.length + f.kinds.length + f.ret.length) = (n2 : Int) + f.name.length + f.kinds.length + f.ret.length := wrap_i64 (by omega) (by omega)
    refine AX.seq (AX.pblock (AX.seq (AX.drw ?_)))
    simp [weftlaw15_Great.r16, sycs, hg, fucs, w1, w2, w3]
    obtain ⟨n1, hn1⟩ : ∃ n1, n1 = n2 + f.name.length + f.kinds.length + f.ret.length := ⟨_, rfl⟩
    rw [show ((n2 : Int) + f.name.length + f.kinds.length + f.ret.length) = ((n1 : Nat) : Int) by omega]
    refine AX.seq (AX.reg ?_)
    simp [weftlaw15_Great.r17]
    by_cases hbig : 30000 < n1
    · refine AX.pcond (t := true) (by simp; omega) (fun _ => AX.seq (AX.reg ?_)) (fun h => by simp at h)
      simp [weftlaw15_Great.r18]
      refine AX.ret ?_
      simp
      exact .refl _
    · refine AX.pcond (t := false) (by simp; omega) (fun h => by simp at h) (fun _ => AX.skip ?_)
      simp
      refine AX.reg ?_
      simp [weftlaw15_Great.r19, i64_succ' (show j ≤ 9223372036854775000 by omega)]
      exact ⟨s.fns.length - (j + 1), by omega, _, _, .refl _ _, j + 1, n1, by omega, rfl, by omega, rfl, by simp [sycs]⟩
  simp at hd
  simp
  refine AX.seq (AX.seq (AX.reg ?_))
  simp [weftlaw15_Great.r20]
  refine AX.pblock (AX.loop (GrInv3 s H) s.cons.length ⟨_, _, .refl _ _, 0, n2, by omega, by omega, by omega, fun j c h => by omega, .refl _, hlt, by simp [sycs]⟩ ?_)
  rintro m F X ⟨q, n3, hq, rfl, hn3, hall, X1, L1, rfl⟩
  simp only [weftlaw15_Great.l3]
  refine AX.seq (AX.seq (AX.reg ?_))
  simp [weftlaw15_Great.r21, sycs]
  refine AX.pcond rfl (fun he => AX.skip ?_) (fun he => AX.exit ?_)
  case refine_2 =>
    simp at he
    simp
    refine AX.seq (AX.reg ?_)
    simp [weftlaw15_Great.r31]
    refine AX.ret ?_
    simp
    refine ⟨⟨by omega, by omega, by omega, zo, fun f hf => (zf f hf).1, fun c hcm => ?_⟩, X1⟩
    obtain ⟨g1, g2, g3, g4, g5⟩ := zc c hcm
    obtain ⟨k, hk⟩ := List.mem_iff_getElem?.1 hcm
    have := hall k c (by have := (List.getElem?_eq_some_iff.1 hk).1; omega) hk
    exact ⟨g1, g2, g3, by omega, g5⟩
  simp at he
  obtain ⟨g1, g2, g3, g4, g5⟩ := zc _ (List.getElem_mem he)
  have hg : s.cons[q]? = some s.cons[q] := List.getElem?_eq_getElem he
  simp
  generalize s.cons[q] = c at *
  refine AX.seq (AX.pblock (AX.seq (AX.reg ?_)))
  simp [weftlaw15_Great.r22, hg, cncs, ss]
  have X4 := X1.trans (ext2 L1 (.cells [.i .i64 0, .s [], .s [], .i .i64 0, .s [], .sl none 0 0] 6) (.cells [.i .i64 c.op, .s c.a, .s c.b, .i .i64 c.k, .s c.tag, .fs (c.args.map fun x => [.s x])] 6))
  have L4 := lt2 L1 (.cells [.i .i64 0, .s [], .s [], .i .i64 0, .s [], .sl none 0 0] 6) (.cells [.i .i64 c.op, .s c.a, .s c.b, .i .i64 c.k, .s c.tag, .fs (c.args.map fun x => [.s x])] 6)
  have G4 : ((X.add (.cells [.i .i64 0, .s [], .s [], .i .i64 0, .s [], .sl none 0 0] 6)).upd X.next (.cells [.i .i64 c.op, .s c.a, .s c.b, .i .i64 c.k, .s c.tag, .fs (c.args.map fun x => [.s x])] 6)).get X.next = some (.cells [.i .i64 c.op, .s c.a, .s c.b, .i .i64 c.k, .s c.tag, .fs (c.args.map fun x => [.s x])] 6) := by simp
  generalize (X.add (.cells [.i .i64 0, .s [], .s [], .i .i64 0, .s [], .sl none 0 0] 6)).upd X.next (.cells [.i .i64 c.op, .s c.a, .s c.b, .i .i64 c.k, .s c.tag, .fs (c.args.map fun x => [.s x])] 6) = Z at *
  generalize X.next = id at *
  have w1 : Go.IntKind.i64.wrap ((n3 : Int) + c.a.length) = (n3 : Int) + c.a.length := wrap_i64 (by omega) (by omega)
  have w2 : Go.IntKind.i64.wrap ((n3 : Int) + c.a.length + c.b.length) = (n3 : Int) + c.a.length + c.b.length := wrap_i64 (by omega) (by omega)
  have w3 : Go.IntKind.i64.wrap ((n3 : Int) + c.a.length + c.b.length + c.tag.length) = (n3 : Int) + c.a.length + c.b.length + c.tag.length := wrap_i64 (by omega) (by omega)
  have w4 : Go.IntKind.i64.wrap (10 * (c.args.length : Int)) = 10 * (c.args.length : Int) := wrap_i64 (by omega) (by omega)
  have w5 : Go.IntKind.i64.wrap ((n3 : Int) + c.a.length + c.b.length + c.tag.length + 10 * c.args.length) = (n3 : Int) + c.a.length + c.b.length + c.tag.length + 10 * c.args.length := wrap_i64 (by omega) (by omega)
  refine AX.seq (AX.reg ?_)
  simp [weftlaw15_Great.r23, G4, w1, w2, w3, w4, w5]
  obtain ⟨n0, hn0⟩ : ∃ n0, n0 = n3 + c.a.length + c.b.length + c.tag.length + 10 * c.args.length := ⟨_, rfl⟩
  rw [show ((n3 : Int) + c.a.length + c.b.length + c.tag.length + 10 * c.args.length) = ((n0 : Nat) : Int) by omega]
  refine AX.seq (AX.seq (AX.reg ?_))
  simp [weftlaw15_Great.r24]
  refine AX.pblock (AX.loop (GrIn3 s q n0 id c.args Z) c.args.length ⟨_, _, .refl _ _, 0, n0, by omega, by omega, by omega, by omega, by omega, rfl, by simp [sycs]⟩ ?_)
  rintro m F Y ⟨k, n1, hkl, hk5, rfl, h0, h1, hY, rfl⟩
  obtain rfl := hY.symm
  simp only [weftlaw15_Great.l4]
  refine AX.seq (AX.test (decide (k < c.args.length ∧ k < 100)) [(2, .fp (sycs s) 0), (5, .i .i64 (n1 : Nat)), (9, .i .i64 q), (10, .p (some (id, 0, 6))), (11, .i .i64 k), (166, .b (decide (k < c.args.length ∧ k < 100)))] ?_ rfl (fun h => AX.skip ?_) (fun h => AX.exit ?_))
  · by_cases hkk : k < c.args.length
    · simp [weftlaw15_Great.r25, sycs, G4, hkk]
    · simp [weftlaw15_Great.r25, sycs, G4, hkk]
  · simp at h
    have b5 := g5 _ (List.getElem_mem h.1)
    have hgk : c.args[k]? = some (c.args[k]'h.1) := List.getElem?_eq_getElem h.1
    generalize c.args[k]'h.1 = a at *
    have w6 : Go.IntKind.i64.wrap ((n1 : Int) + a.length) = (n1 : Int) + a.length := wrap_i64 (by omega) (by omega)
    simp
    refine AX.seq (AX.pblock (AX.reg ?_))
    simp [weftlaw15_Great.r26, G4, hgk, w6]
    rw [show ((n1 : Int) + a.length) = ((n1 + a.length : Nat) : Int) by omega]
    refine AX.reg ?_
    simp [weftlaw15_Great.r27, i64_succ' (show k ≤ 9223372036854775000 by omega)]
    refine ⟨c.args.length - (k + 1), by omega, _, _, .refl _ _, k + 1, n1 + a.length, by omega, by omega, rfl, by omega, ?_, rfl, by simp [sycs]⟩
    rw [Nat.succ_mul]; omega
  · simp
    refine AX.seq (AX.reg ?_)
    simp [weftlaw15_Great.r28]
    by_cases hbig : 60000 < n1
    · refine AX.pcond (t := true) (by simp; omega) (fun _ => AX.seq (AX.reg ?_)) (fun h => by simp at h)
      simp [weftlaw15_Great.r29]
      refine AX.ret ?_
      simp
      exact X4
    · refine AX.pcond (t := false) (by simp; omega) (fun h => by simp at h) (fun _ => AX.skip ?_)
      simp
      refine AX.reg ?_
      simp [weftlaw15_Great.r30, i64_succ' (show q ≤ 9223372036854775000 by omega)]
      refine ⟨s.cons.length - (q + 1), by omega, _, _, .refl _ _, q + 1, n1, by omega, rfl, by omega, fun j c' hj' hc' => ?_, X4, L4, by simp [sycs]⟩
      by_cases e : j = q
      · subst e
        rw [hg] at hc'; injection hc' with hc'; subst hc'; omega
      · exact hall j c' (by omega) hc'
end Go.Proofs.YtjemhlndmkbneaaGreatDoor
namespace Go.Proofs.YtjemhlndmkbneaaGreatDoor
open Am C Go.Proofs
set_option linter.unusedSimpArgs false
set_option linter.unusedVariables false
set_option maxRecDepth 100000
def wk37.r1 : List AStep := [
  ⟨some 2, none, .op (.build [.s [], .s [], .fs []] [(0, 1, .c (.s [120])), (1, 1, .c (.s [112]))])⟩,
  ⟨some 3, none, .op (.bfz 1 3 [.s [], .s [], .fs []] [(0, 3, .t 2)])⟩,
  ⟨some 4, none, .op (.build [.i .i64 0, .s [], .s [], .i .i64 0, .s [], .fs []] [(0, 1, .c (.i .i64 1)), (1, 1, .c (.s [102, 46, 112])), (2, 1, .c (.s [120, 43, 48]))])⟩,
  ⟨some 5, none, .op (.bfz 1 6 [.i .i64 0, .s [], .s [], .i .i64 0, .s [], .fs []] [(0, 6, .t 4)])⟩,
  ⟨some 6, none, .op (.build [.fs [], .fs [], .fs []] [(0, 1, .t 3), (2, 1, .t 5)])⟩,
  ⟨some 1, none, .op (.new [.sl none 0 0, .sl none 0 0, .sl none 0 0])⟩,
  ⟨none, none, .op (.store 3 (.t 1) (.t 6))⟩]
def wk37 : AFunc := ⟨16, [.t 0], .seq (.post [] (.region weftlaw37_works.r0)) (.seq (.post [1] (.region wk37.r1)) (.seq (.post [0] (.region weftlaw37_works.r2)) (.ret)))⟩
theorem wk37.ok : okFunc Tryz.prog Tryz.f9 wk37 = true := by kernel_rfl
def wkSy : Sy := ⟨[⟨[120], [112], []⟩], [], [⟨1, [102, 46, 112], [120, 43, 48], 0, [], []⟩]⟩
theorem wkSy_n : sizeN wkSy = 2 := by kernel_rfl
theorem wkSy_c : sizeC wkSy = 0 := by kernel_rfl
theorem wkSy_s : syS wkSy := by
  refine ⟨by simp [wkSy], by simp [wkSy], by simp [wkSy], fun o ho => ?_, fun f hf => ?_, fun c hc => ?_⟩
  · simp [wkSy] at ho; subst ho; simp [obS]
  · simp [wkSy] at hf
  · simp [wkSy] at hc; subst hc; simp [cnS]
theorem works37_ok (H : Hp) : AC Tryz.prog n_weftlaw37_works [] H (fun v H' => v = .b true ∧ H' = H) := by
  refine AC.codeP weftlaw37_works.at wk37.ok (by simp) fun hlt => ?_
  simp only [wk37]
  refine AX.seq (AX.reg ?_)
  simp [weftlaw37_works.r0]
  refine AX.seq (AX.reg ?_)
  simp [wk37.r1, repl]
  have X2 := ext2 hlt (.cells [.sl none 0 0, .sl none 0 0, .sl none 0 0] 3) (.cells [.fs [[.s [120], .s [112], .fs []]], .fs [], .fs [[.i .i64 1, .s [102, 46, 112], .s [120, 43, 48], .i .i64 0, .s [], .fs []]]] 3)
  have G2 : ((H.add (.cells [.sl none 0 0, .sl none 0 0, .sl none 0 0] 3)).upd H.next (.cells [.fs [[.s [120], .s [112], .fs []]], .fs [], .fs [[.i .i64 1, .s [102, 46, 112], .s [120, 43, 48], .i .i64 0, .s [], .fs []]]] 3)).get H.next = some (.cells [.fs [[.s [120], .s [112], .fs []]], .fs [], .fs [[.i .i64 1, .s [102, 46, 112], .s [120, 43, 48], .i .i64 0, .s [], .fs []]]] 3) := by simp
  generalize (H.add (.cells [.sl none 0 0, .sl none 0 0, .sl none 0 0] 3)).upd H.next (.cells [.fs [[.s [120], .s [112], .fs []]], .fs [], .fs [[.i .i64 1, .s [102, 46, 112], .s [120, 43, 48], .i .i64 0, .s [], .fs []]]] 3) = X at *
  have hof := BOf_ok wkSy wkSy_s X
  rw [wkSy_n, wkSy_c] at hof
  refine AX.seq (AX.reg ?_)
  simp [weftlaw37_works.r2, G2]
  refine AC.fix hof ?_
  simp
  rw [show cellsEq [0, 0] [.i .i64 2, .i .i64 0] [.i .i64 2, .i .i64 0] = some true from rfl]
  simp
  refine AC.fix (Fuel_ok 2 0 X) ?_
  rw [show fuelN 2 0 = 27 from rfl]
  simp
  refine AX.ret ?_
  simp
  exact ⟨X2, .refl _⟩
theorem eq2 (a b c d : Int) : cellsEq [0, 0] [.i .i64 a, .i .i64 b] [.i .i64 c, .i .i64 d] = some (decide (a = c) && decide (b = d)) := by
  have e1 : (a == c) = decide (a = c) := rfl
  have e2 : (b == d) = decide (b = d) := rfl
  simp only [cellsEq, cellEq, if_true, e1, e2]
  cases decide (a = c) <;> cases decide (b = d) <;> rfl
theorem BoundOf_ok (s : Sy) (hs : syZ s) (n k : Int) (H : Hp) : AC Tryz.prog n_weftlaw37_BoundOf [.agg (sycs s), .agg [.i .i64 n, .i .i64 k]] H (fun v H' => v = .b true ∧ H' = H) := by
  refine AC.codeP weftlaw37_BoundOf.at weftlaw37_BoundOf.ok (by simp) fun hlt => ?_
  simp only [weftlaw37_BoundOf]
  refine AX.seq (AX.reg ?_)
  simp [weftlaw37_BoundOf.r0, sycs]
  refine AX.seq (AX.seq (AX.reg ?_))
  simp [weftlaw37_BoundOf.r1]
  refine (SGreat_ok s hs H).mono ?_
  rintro v H' ⟨⟨b, rfl, hb⟩, rfl⟩
  simp
  refine AX.pcond rfl (fun hc => ?_) (fun hc => AX.skip ?_)
  · refine AX.seq (AX.reg ?_)
    simp [weftlaw37_BoundOf.r2]
    refine AX.ret ?_
    simp
    exact ⟨.refl _, .refl _⟩
  have hsy := hb hc
  simp
  refine AX.seq (AX.reg ?_)
  simp [weftlaw37_BoundOf.r3]
  refine AC.fix (BOf_ok s hsy _) ?_
  simp
  refine AX.seq (AX.reg ?_)
  simp [weftlaw37_BoundOf.r4]
  refine AC.fix (ROf37_ok s hsy _) ?_
  simp
  refine AX.seq (AX.drw ?_)
  simp [weftlaw37_BoundOf.r5]
  rw [eq2]
  simp
  refine callD_pure _ (fun H2 => Fuel_ok n k H2) ?_
  simp
  refine callD_pure _ (fun H2 => RFuel_ok n k H2) ?_
  simp
  refine callD_pure _ (fun H2 => works37_ok H2) ?_
  simp
  refine AX.ret ?_
  simp
  exact ⟨ext2 hlt _ _, .refl _⟩
end Go.Proofs.YtjemhlndmkbneaaGreatDoor
