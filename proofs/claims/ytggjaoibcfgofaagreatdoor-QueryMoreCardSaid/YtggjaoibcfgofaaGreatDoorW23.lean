/- Part 23 of the proof of the laws of the queries: QWr3, QCal, QHol, QHol2. -/
import Derived.Test.YtggjaoibcfgofaaGreatDoorW19
import Derived.Test.YtggjaoibcfgofaaGreatDoorW20
import Derived.Test.YtggjaoibcfgofaaGreatDoorW22
namespace Go.Proofs.YtggjaoibcfgofaaGreatDoor
open Am C
set_option linter.unusedSimpArgs false
set_option linter.unusedVariables false
theorem write_all (d : Nd) (hr : rightN d = true) (w : Go.World) (ht : Pow w) :
    Go.Calls Tryz.prog 46 #[.agg #[.int .i64 d.kind, .string ⟨d.fn.toArray⟩, .int .i64 d.copy, .string ⟨d.name.toArray⟩, .int .i64 d.n, .int .i64 d.cell]] w fun e w' => e = .returned (.string ⟨(writeN d).toArray⟩) ∧ Go.RowKit.Below w.heap.size w w' := by
  obtain ⟨k1, k7, hcp, hn, hcell, hfn, hnm, hnn⟩ := (rightN_iff d).1 hr
  obtain ⟨k, fn, cp, nm, n, cl⟩ := d
  simp only at *
  have lfn : fn.length ≤ 16 := by
    rcases hfn with ⟨a, b, c⟩ | ⟨a, b⟩
    · subst b; simp
    · exact nameB_len b
  have lnm : nm.length ≤ 16 := by
    rcases hnm with ⟨a, b⟩ | ⟨a, b⟩
    · exact nameB_len b
    · subst b; simp
  have hcp' := of_decide_eq_true hcp
  have hn' := of_decide_eq_true hn
  have hcl : cl = -1 ∨ (5 ≤ k ∧ cl ≠ -1 ∧ 0 ≤ cl ∧ cl ≤ 268435456) := by
    rcases hcell with c | ⟨c, h⟩
    · exact .inl c
    · have := of_decide_eq_true h
      exact .inr ⟨c, by omega, this⟩
  have hc0 : cp = 0 ∨ 0 < cp := by omega
  rcases (by omega : k = 1 ∨ k = 2 ∨ k = 3 ∨ k = 4 ∨ k = 5 ∨ k = 6 ∨ k = 7) with rfl | rfl | rfl | rfl | rfl | rfl | rfl
  · rcases hcl with rfl | hl
    · rcases hc0 with rfl | hc
      · exact write_100 fn nm n lfn lnm hn' w ht
      · exact write_110 fn cp nm n lfn lnm hn' hc (by omega) w ht
    · omega
  · rcases hcl with rfl | hl
    · rcases hc0 with rfl | hc
      · exact write_200 fn nm n lfn lnm hn' w ht
      · exact write_210 fn cp nm n lfn lnm hn' hc (by omega) w ht
    · omega
  · rcases hcl with rfl | hl
    · rcases hc0 with rfl | hc
      · exact write_300 fn nm n lfn lnm hn' w ht
      · exact write_310 fn cp nm n lfn lnm hn' hc (by omega) w ht
    · omega
  · rcases hcl with rfl | hl
    · rcases hc0 with rfl | hc
      · exact write_400 fn nm n lfn lnm hn' w ht
      · exact write_410 fn cp nm n lfn lnm hn' hc (by omega) w ht
    · omega
  · obtain ⟨hf0, h0⟩ : fn = [] ∧ cp = 0 := by
      rcases hfn with ⟨a, b, c⟩ | ⟨a, b⟩
      · exact ⟨b, c⟩
      · exact absurd rfl a
    subst h0
    rcases hcl with rfl | hl
    · exact write_500 fn nm n lfn lnm hn' hf0 w ht
    · exact write_501 fn nm n cl lfn lnm hn' hf0 hl.2.1 hl.2.2 w ht
  · rcases hcl with rfl | hl
    · rcases hc0 with rfl | hc
      · exact write_600 fn nm n lfn lnm hn' w ht
      · exact write_610 fn cp nm n lfn lnm hn' hc (by omega) w ht
    · rcases hc0 with rfl | hc
      · exact write_601 fn nm n cl lfn lnm hn' hl.2.1 hl.2.2 w ht
      · exact write_611 fn cp nm n cl lfn lnm hn' hc (by omega) hl.2.1 hl.2.2 w ht
  · rcases hcl with rfl | hl
    · rcases hc0 with rfl | hc
      · exact write_700 fn nm n lfn lnm hn' w ht
      · exact write_710 fn cp nm n lfn lnm hn' hc (by omega) w ht
    · rcases hc0 with rfl | hc
      · exact write_701 fn nm n cl lfn lnm hn' hl.2.1 hl.2.2 w ht
      · exact write_711 fn cp nm n cl lfn lnm hn' hc (by omega) hl.2.1 hl.2.2 w ht
theorem vr_nv {κ : K} {d : Nd} {c : Go.Value} (h : VR κ (nv d) c) : c = .agg #[.int .i64 d.kind, .string ⟨d.fn.toArray⟩, .int .i64 d.copy, .string ⟨d.name.toArray⟩, .int .i64 d.n, .int .i64 d.cell] := by
  unfold nv at h
  cases h with
  | agg _ cs hl hv =>
    have hl' : cs.length = 6 := hl.symm
    match cs, hl' with
    | [a0, a1, a2, a3, a4, a5], _ =>
      have e0 := vr_i (hv 0 _ rfl)
      have e1 := vr_s (hv 1 _ rfl)
      have e2 := vr_i (hv 2 _ rfl)
      have e3 := vr_s (hv 3 _ rfl)
      have e4 := vr_i (hv 4 _ rfl)
      have e5 := vr_i (hv 5 _ rfl)
      simp at e0 e1 e2 e3 e4 e5
      subst e0 e1 e2 e3 e4 e5
      rfl
theorem write_ok (d : Nd) (hr : rightN d = true) (H : Hp) : AC Tryz.prog 46 [nv d] H (fun v H' => v = .s (writeN d) ∧ H' = H) := by
  refine AC.belowS (by kernel_rfl) fun κ cs S r => ?_
  obtain ⟨a, rfl, ra⟩ := r.one'
  obtain rfl := vr_nv ra
  exact ⟨_, fun κ' => .s _, write_all d hr κ.w (pow10_of S)⟩
def readN (s : Str) : Option Nd := if (readK s).2 = true ∧ rightN (readK s).1 = true ∧ writeN (readK s).1 = s then some (readK s).1 else none
theorem readK_len (s : Str) : (readK s).1.fn.length ≤ s.length ∧ (readK s).1.name.length ≤ s.length := by
  have ht : ∀ (d : Nd) (r : Str), (rkTail d r).1.fn = d.fn ∧ ((rkTail d r).1.name = d.name ∨ (rkTail d r).1.name.length ≤ r.length) := by
    intro d r
    cases r with
    | nil => simp [rkTail]
    | cons c r =>
      simp only [rkTail]
      repeat' split
      all_goals simp
  have hm : ∀ (d : Nd) (r : Str), (rkMid d r).1.fn = d.fn ∧ ((rkMid d r).1.name = d.name ∨ (rkMid d r).1.name.length ≤ r.length) := by
    intro d r
    cases r with
    | nil => simp [rkMid]
    | cons c r =>
      have hs := splitS_len r
      simp only [rkMid]
      repeat' split
      · simp
      · have := ht { d with copy := (readS (splitS r).1).1 } (splitS r).2
        refine ⟨this.1, this.2.imp id fun h => ?_⟩
        simp; omega
      · exact ht _ _
  have hh : ∀ (cl : Int) (r : Str), (rkHead cl r).1.fn.length ≤ r.length ∧ (rkHead cl r).1.name.length ≤ r.length := by
    intro cl r
    have hs := splitS_len r
    simp only [rkHead]
    split
    · simp [Nd.zero]; omega
    · have := hm { Nd.zero with fn := (splitS r).1, cell := cl } (splitS r).2
      refine ⟨by rw [this.1]; exact hs.1, ?_⟩
      rcases this.2 with h | h
      · exact Nat.le_trans (Nat.le_of_eq (congrArg List.length h)) (by simp [Nd.zero])
      · exact Nat.le_trans h hs.2
  simp only [readK]
  repeat' split
  · simp [Nd.zero]
  · rename_i h1 h2
    have := hh (readS (s.drop ((Go.Lib.indexByte s 43).toNat + 1))).1 (s.take (Go.Lib.indexByte s 43).toNat)
    simp at this
    omega
  · exact hh _ _
theorem NRead_ok (s : Str) (hs : s.length ≤ 9223372036854775806) (H : Hp) : AC Tryz.prog n_names_Read [.s s] H (fun v H' => v = rdV (readN s) ∧ H' = H) := by
  have hfr : free (rdV (readN s)) := by
    unfold rdV; split <;> simp [nv, Nd.cs]
  have hl := readK_len s
  refine AC.codeP names_Read.at names_Read.ok hfr fun hlt => ?_
  simp only [names_Read]
  refine AX.seq (AX.reg ?_)
  simp [names_Read.r0]
  refine AX.seq (AX.reg ?_)
  simp [names_Read.r1]
  refine AC.fix (read_ok s hs _) ?_
  have hrd : readN s = if (readK s).2 = true ∧ rightN (readK s).1 = true ∧ writeN (readK s).1 = s then some (readK s).1 else none := rfl
  rw [hrd]
  clear hrd hfr
  generalize readK s = q at hl ⊢
  obtain ⟨⟨k, fn, cp, nm, n, cl⟩, ok⟩ := q
  simp only at hl ⊢
  simp [rkV, nv, Nd.cs]
  have e1 : H.Ext (((H.add (.cells [.i .i64 0, .s [], .i .i64 0, .s [], .i .i64 0, .i .i64 0] 6)).add (.cells [.i .i64 0, .s [], .i .i64 0, .s [], .i .i64 0, .i .i64 0] 6)).upd (H.next + 1) (.cells [.i .i64 k, .s fn, .i .i64 cp, .s nm, .i .i64 n, .i .i64 cl] 6)) :=
    (((Hp.Ext.add hlt _).trans (.add (Hp.add_lt hlt _) _)).upd hlt (by omega) _)
  obtain ⟨X, hX⟩ : ∃ X, X = ((H.add (.cells [.i .i64 0, .s [], .i .i64 0, .s [], .i .i64 0, .i .i64 0] 6)).add (.cells [.i .i64 0, .s [], .i .i64 0, .s [], .i .i64 0, .i .i64 0] 6)).upd (H.next + 1) (.cells [.i .i64 k, .s fn, .i .i64 cp, .s nm, .i .i64 n, .i .i64 cl] 6) := ⟨_, rfl⟩
  have g2 : X.get H.next = some (.cells [.i .i64 0, .s [], .i .i64 0, .s [], .i .i64 0, .i .i64 0] 6) := by rw [hX]; simp
  have g4 : X.get (H.next + 1) = some (.cells [.i .i64 k, .s fn, .i .i64 cp, .s nm, .i .i64 n, .i .i64 cl] 6) := by rw [hX]; simp
  rw [← hX] at e1 ⊢
  clear hX
  refine AX.seq (AX.test (!(ok && rightN ⟨k, fn, cp, nm, n, cl⟩ && decide (writeN ⟨k, fn, cp, nm, n, cl⟩ = s))) [(2, .p (some (H.next, 0, 6))), (4, .p (some (H.next + 1, 0, 6))), (23, .b (!(ok && rightN ⟨k, fn, cp, nm, n, cl⟩ && decide (writeN ⟨k, fn, cp, nm, n, cl⟩ = s))))] ?_ rfl (fun hz => AX.seq (AX.reg ?_)) (fun hz => AX.skip ?_))
  · by_cases b1 : ok = true
    case neg => simp [names_Read.r2, b1]
    simp [names_Read.r2, b1, g4]
    refine AC.fix (right_ok ⟨k, fn, cp, nm, n, cl⟩ (by simp only; omega) (by simp only; omega) _) ?_
    by_cases b2 : rightN ⟨k, fn, cp, nm, n, cl⟩ = true
    case neg => simp [b1, b2]
    simp [b1, b2, g4]
    refine AC.fix (write_ok ⟨k, fn, cp, nm, n, cl⟩ b2 _) ?_
    by_cases b3 : writeN ⟨k, fn, cp, nm, n, cl⟩ = s
    · simp [b3]
    · simp [b3, show (writeN ⟨k, fn, cp, nm, n, cl⟩ == s) = false by simpa using b3]
  · simp [names_Read.r3, g2]
    refine AX.ret ?_
    have hn : ¬ (ok = true ∧ rightN ⟨k, fn, cp, nm, n, cl⟩ = true ∧ writeN ⟨k, fn, cp, nm, n, cl⟩ = s) := by
      rintro ⟨b1, b2, b3⟩; rw [b1, b2, decide_eq_true b3] at hz; cases hz
    rw [if_neg hn]
    simp [rdV, nv, Nd.cs, Nd.zero]
    exact ⟨e1.upd hlt (Nat.le_refl _) _, .refl _⟩
  have hn : ok = true ∧ rightN ⟨k, fn, cp, nm, n, cl⟩ = true ∧ writeN ⟨k, fn, cp, nm, n, cl⟩ = s := by
    simp only [Bool.not_eq_false', Bool.and_eq_true, decide_eq_true_eq] at hz
    exact ⟨hz.1.1, hz.1.2, hz.2⟩
  rw [if_pos hn]
  simp
  refine AX.seq (AX.reg ?_)
  simp [names_Read.r4, g2, g4]
  refine AX.ret ?_
  simp [rdV, nv, Nd.cs]
  exact ⟨e1.upd hlt (Nat.le_refl _) _, .refl _⟩
end Go.Proofs.YtggjaoibcfgofaaGreatDoor
namespace Go.Proofs.YtggjaoibcfgofaaGreatDoor
open Am C
set_option linter.unusedSimpArgs false
set_option linter.unusedVariables false
def calP (s : Str) : Option Str := match readN s with
  | some d => if d.kind = 4 then some d.fn else none
  | none => none
def calleesS (l : List Fact) (site : Str) : List Str := sortedS ((ofS l site).filterMap calP)
def sc (l : List Str) : List (List V) := l.map fun x => [V.s x]
def CalInv (x : List Str) (H : Hp) (m : Nat) (F : Fr) (X : Hp) : Prop :=
  ∃ i v, i ≤ x.length ∧ m = x.length - i ∧ Acc H 1 v X (sc ((x.take i).filterMap calP)) ∧ F = [(5, v), (12, ss x), (13, .i .i64 x.length), (14, .i .i64 i)]
theorem filt_len (x : List Str) (i : Nat) : ((x.take i).filterMap calP).length ≤ i := by
  have := List.length_filterMap_le calP (x.take i)
  have h2 : (x.take i).length ≤ i := by simp; omega
  omega
theorem Callees_ok (l : List Fact) (site : Str) (hl : l.length ≤ 9223372036854775807) (hm : ∀ f ∈ l, f.2.length ≤ 1000000) (ht : ∀ f ∈ l, ∀ x ∈ f.2, x.length ≤ 9223372036854775806) (H : Hp) : AC Tryz.prog n_query_Callees [fsV l, .s site] H (fun v H' => v = ss (calleesS l site) ∧ H' = H) := by
  have h1 := ofS_len (node := site) hm
  have h2 : ∀ x ∈ ofS l site, x.length ≤ 9223372036854775806 := fun x hx => by
    unfold ofS at hx
    cases hf : l.find? (fun f => decide (f.1 = site)) with
    | none => rw [hf] at hx; simp at hx
    | some f => rw [hf] at hx; exact ht f (List.mem_of_find?_eq_some hf) x (by simpa using hx)
  refine AC.codeP query_Callees.at query_Callees.ok (free_ss _) fun hlt => ?_
  simp only [query_Callees]
  refine AX.seq (AX.reg ?_)
  simp [query_Callees.r0]
  refine AX.seq (AX.reg ?_)
  simp [query_Callees.r1]
  refine AX.seq (AX.seq (AX.reg ?_))
  simp [query_Callees.r2]
  refine AC.fix (LOf_ok l site hl hm _) ?_
  unfold calleesS
  generalize ofS l site = x at h1 h2 ⊢
  simp [ss]
  refine AX.pblock (AX.loop (CalInv x H) x.length ⟨_, _, .refl _ _, 0, .sl none 0 0, by omega, by omega, .nil 1 0 (.refl _) hlt, rfl⟩ ?_)
  rintro m F X ⟨i, v, hi, rfl, A, rfl⟩
  simp only [query_Callees.l0]
  refine AX.seq (AX.reg ?_)
  simp [query_Callees.r3]
  refine AX.seq (AX.pcond rfl (fun hc => AX.skip ?_) (fun hc => AX.exit ?_))
  · simp at hc
    simp
    refine AX.seq (AX.pblock (AX.seq (AX.reg ?_)))
    simp [query_Callees.r4, ss, hc]
    refine AX.seq (AX.reg ?_)
    simp [query_Callees.r5]
    refine AC.fix (NRead_ok x[i] (h2 _ (List.getElem_mem hc)) _) ?_
    have htk : (x.take (i + 1)).filterMap calP = (x.take i).filterMap calP ++ (calP x[i]).toList := by
      rw [List.take_add_one, List.getElem?_eq_getElem hc, List.filterMap_append]
      cases h : calP x[i] <;> simp [h]
    have hfl := filt_len x i
    cases hr : readN x[i] with
    | none =>
      have hcal : calP x[i] = none := by unfold calP; rw [hr]
      rw [hcal] at htk
      simp [rdV, nv, Nd.cs, Nd.zero]
      refine AX.seq (AX.reg ?_)
      simp [query_Callees.r6]
      refine AX.pcond (t := false) rfl (fun h => by simp at h) (fun _ => AX.skip ?_)
      simp
      refine AX.reg ?_
      simp [query_Callees.r8, succ_of_lt hc (show x.length ≤ 9223372036854775807 by omega)]
      refine ⟨x.length - (i + 1), by omega, _, _, .refl _ _, i + 1, v, by omega, rfl, ?_, by simp [ss]⟩
      rw [htk]
      simp
      refine A.more ((Hp.Ext.add A.lt _).upd A.lt (Nat.le_refl _) _) ?_
      exact Hp.upd_lt (Hp.add_lt A.lt _) (by simp) _
    | some d =>
      simp [rdV, nv, Nd.cs]
      have A' : Acc H 1 v ((X.add (.cells [.i .i64 0, .s [], .i .i64 0, .s [], .i .i64 0, .i .i64 0] 6)).upd X.next (.cells [.i .i64 d.kind, .s d.fn, .i .i64 d.copy, .s d.name, .i .i64 d.n, .i .i64 d.cell] 6)) (sc ((x.take i).filterMap calP)) :=
        A.more ((Hp.Ext.add A.lt _).upd A.lt (Nat.le_refl _) _) (Hp.upd_lt (Hp.add_lt A.lt _) (by simp) _)
      refine AX.seq (AX.reg ?_)
      by_cases hk : d.kind = 4
      · have hcal : calP x[i] = some d.fn := by unfold calP; rw [hr]; simp [hk]
        rw [hcal] at htk
        obtain ⟨v1, H1, e1, A1⟩ := A'.app (bytes := 16) hlt (en1 [d.fn]) (by omega) (ec1 [d.fn]) (by simp [roomB, sc]; omega)
        simp only [List.map_cons, List.map_nil] at e1
        rw [hk] at e1
        simp [query_Callees.r6, hk]
        refine AX.pcond (t := true) rfl (fun _ => AX.reg ?_) (fun h => by simp at h)
        simp [query_Callees.r7, repl, -sAppend, e1]
        refine AX.reg ?_
        simp [query_Callees.r8, succ_of_lt hc (show x.length ≤ 9223372036854775807 by omega)]
        refine ⟨x.length - (i + 1), by omega, _, _, .refl _ _, i + 1, v1, by omega, rfl, ?_, by simp [ss]⟩
        rw [htk]
        simpa [sc] using A1
      · have hcal : calP x[i] = none := by unfold calP; rw [hr]; simp [hk]
        rw [hcal] at htk
        simp [query_Callees.r6, hk]
        refine AX.pcond (t := false) rfl (fun h => by simp at h) (fun _ => AX.skip ?_)
        simp
        refine AX.reg ?_
        simp [query_Callees.r8, succ_of_lt hc (show x.length ≤ 9223372036854775807 by omega)]
        refine ⟨x.length - (i + 1), by omega, _, _, .refl _ _, i + 1, v, by omega, rfl, ?_, by simp [ss]⟩
        rw [htk]
        simpa using A'
  simp at hc
  have hfull : x.take i = x := List.take_of_length_le (by omega)
  have hfl := filt_len x i
  rw [hfull] at A hfl
  simp
  refine AX.wk (Wk.freeze (fun id => H.next ≤ id) (frzF_cons A.frz frzF_nil)) ?_
  refine AX.seq (AX.reg ?_)
  simp [query_Callees.r9]
  refine AC.fix (ISorted_ok (x.filterMap calP) (by omega) _) ?_
  simp
  refine AX.ret ?_
  simp [ss]
  exact ⟨Hp.wo_new A.ext hlt, .refl _⟩
end Go.Proofs.YtggjaoibcfgofaaGreatDoor
namespace Go.Proofs.YtggjaoibcfgofaaGreatDoor
open Am C
set_option linter.unusedSimpArgs false
set_option linter.unusedVariables false
def holP (place : Str) (f : Fact) : Option Str := if place ∈ f.2 then some f.1 else none
def holdersS (l : List Fact) (place : Str) : List Str := sortedS (l.filterMap (holP place))
def HolInv (l : List Fact) (place : Str) (H : Hp) (m : Nat) (F : Fr) (X : Hp) : Prop :=
  ∃ i v, i ≤ l.length ∧ m = l.length - i ∧ Acc H 1 v X (sc ((l.take i).filterMap (holP place))) ∧ F = [(1, .s place), (5, v), (8, fsV l), (9, .i .i64 l.length), (10, .i .i64 i)]
theorem filtG_len {α β : Type} (p : α → Option β) (x : List α) (i : Nat) : ((x.take i).filterMap p).length ≤ i := by
  have := List.length_filterMap_le p (x.take i)
  have h2 : (x.take i).length ≤ i := by simp; omega
  omega
theorem Holders_ok (l : List Fact) (place : Str) (hl : l.length ≤ 1000000) (hm : ∀ f ∈ l, f.2.length ≤ 1000000) (H : Hp) : AC Tryz.prog n_query_Holders [fsV l, .s place] H (fun v H' => v = ss (holdersS l place) ∧ H' = H) := by
  refine AC.codeP query_Holders.at query_Holders.ok (free_ss _) fun hlt => ?_
  simp only [query_Holders]
  refine AX.seq (AX.reg ?_)
  simp [query_Holders.r0]
  refine AX.seq (AX.reg ?_)
  simp [query_Holders.r1]
  refine AX.seq (AX.seq (AX.reg ?_))
  simp [query_Holders.r2, fsV]
  refine AX.pblock (AX.loop (HolInv l place H) l.length ⟨_, _, .refl _ _, 0, .sl none 0 0, by omega, by omega, .nil 1 0 (.refl _) hlt, rfl⟩ ?_)
  rintro m F X ⟨i, v, hi, rfl, A, rfl⟩
  simp only [query_Holders.l0]
  refine AX.seq (AX.reg ?_)
  simp [query_Holders.r3]
  refine AX.seq (AX.pcond rfl (fun hc => AX.skip ?_) (fun hc => AX.exit ?_))
  · simp at hc
    have hmi := hm _ (List.getElem_mem hc)
    have htk : (l.take (i + 1)).filterMap (holP place) = (l.take i).filterMap (holP place) ++ (holP place l[i]).toList := by
      rw [List.take_add_one, List.getElem?_eq_getElem hc, List.filterMap_append]
      cases h : holP place l[i] <;> simp [h]
    have hfl := filtG_len (holP place) l i
    have A' : Acc H 1 v ((X.add (.cells [.s [], .sl none 0 0] 2)).upd X.next (.cells [.s l[i].1, ss l[i].2] 2)) (sc ((l.take i).filterMap (holP place))) :=
      A.more ((Hp.Ext.add A.lt _).upd A.lt (Nat.le_refl _) _) (Hp.upd_lt (Hp.add_lt A.lt _) (by simp) _)
    simp
    refine AX.seq (AX.pblock (AX.seq (AX.reg ?_)))
    simp [query_Holders.r4, fsV, hc, fcs, ss]
    refine AX.seq (AX.reg ?_)
    simp [query_Holders.r5]
    refine AC.fix (Contains_ok l[i].2 place (by omega) _) ?_
    simp
    by_cases hk : place ∈ l[i].2
    · have hcal : holP place l[i] = some l[i].1 := by unfold holP; rw [if_pos hk]
      rw [hcal] at htk
      obtain ⟨v1, H1, e1, A1⟩ := A'.app (bytes := 16) hlt (en1 [l[i].1]) (by omega) (ec1 [l[i].1]) (by simp [roomB, sc]; omega)
      simp only [List.map_cons, List.map_nil, ss] at e1
      refine AX.pcond (t := true) (by simp [hk]) (fun _ => AX.reg ?_) (fun h => by simp at h)
      simp [query_Holders.r6, repl, -sAppend, e1]
      refine AX.reg ?_
      simp [query_Holders.r7, succ_of_lt hc (show l.length ≤ 9223372036854775807 by omega)]
      refine ⟨l.length - (i + 1), by omega, _, _, .refl _ _, i + 1, v1, by omega, rfl, ?_, by simp [fsV, fcs, ss]⟩
      rw [htk]
      simpa [sc] using A1
    · have hcal : holP place l[i] = none := by unfold holP; rw [if_neg hk]
      rw [hcal] at htk
      refine AX.pcond (t := false) (by simp [hk]) (fun h => by simp at h) (fun _ => AX.skip ?_)
      simp
      refine AX.reg ?_
      simp [query_Holders.r7, succ_of_lt hc (show l.length ≤ 9223372036854775807 by omega)]
      refine ⟨l.length - (i + 1), by omega, _, _, .refl _ _, i + 1, v, by omega, rfl, ?_, by simp [fsV, fcs, ss]⟩
      rw [htk]
      simpa [ss] using A'
  simp at hc
  have hfull : l.take i = l := List.take_of_length_le (by omega)
  have hfl := filtG_len (holP place) l i
  rw [hfull] at A hfl
  simp
  refine AX.wk (Wk.freeze (fun id => H.next ≤ id) (frzF_cons A.frz frzF_nil)) ?_
  refine AX.seq (AX.reg ?_)
  simp [query_Holders.r8]
  refine AC.fix (ISorted_ok (l.filterMap (holP place)) (by omega) _) ?_
  simp
  refine AX.ret ?_
  simp [holdersS]
  exact ⟨Hp.wo_new A.ext hlt, .refl _⟩
end Go.Proofs.YtggjaoibcfgofaaGreatDoor
namespace Go.Proofs.YtggjaoibcfgofaaGreatDoor
open Am C
set_option linter.unusedSimpArgs false
set_option linter.unusedVariables false
theorem sortedS_len (l : List Str) : (sortedS l).length ≤ l.length := by
  have := sortedS_take l l.length
  rwa [List.take_length] at this
end Go.Proofs.YtggjaoibcfgofaaGreatDoor
