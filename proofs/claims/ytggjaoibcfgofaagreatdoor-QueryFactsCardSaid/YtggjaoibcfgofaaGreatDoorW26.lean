/- Part 26 of the proof of the laws of the queries: QMade, QVis, QLv. -/
import Derived.Test.YtggjaoibcfgofaaGreatDoorW25
namespace Go.Proofs.YtggjaoibcfgofaaGreatDoor
open Am C
set_option linter.unusedSimpArgs false
set_option linter.unusedVariables false
def gV (n : Nat) (G : Nat → List Nat) : V := .fs ((List.range n).map fun i => [ns (G i)])
def neV (E : List (Nat × Nat)) : V := .fs (E.map fun e => [.i .i64 (e.1 : Nat), .i .i64 (e.2 : Nat)])
@[simp] theorem free_gV (n : Nat) (G : Nat → List Nat) : free (gV n G) := free_fs fun e he v hv => by
  obtain ⟨x, _, rfl⟩ := List.mem_map.1 he
  simp at hv; subst hv; exact free_ns _
@[simp] theorem free_neV (E : List (Nat × Nat)) : free (neV E) := free_fs fun e he v hv => by
  obtain ⟨x, _, rfl⟩ := List.mem_map.1 he
  simp at hv; rcases hv with rfl | rfl <;> exact free_i _ _
theorem adj_snoc (l : List (Nat × Nat)) (e : Nat × Nat) : adj (l ++ [e]) = upd (adj l) e.1 (adj l e.1 ++ [e.2]) := by
  funext k
  simp only [adj, upd, List.filter_append, List.map_append]
  by_cases h : k = e.1
  · subst h; simp
  · have : ¬ e.1 = k := Ne.symm h
    simp [h, this]
theorem adj_len (l : List (Nat × Nat)) (k : Nat) : (adj l k).length ≤ l.length := by
  simp only [adj, List.length_map]; exact List.length_filter_le _ _
def MadeInv (E : List (Nat × Nat)) (n : Nat) (H : Hp) (m : Nat) (F : Fr) (X : Hp) : Prop :=
  ∃ i, i ≤ E.length ∧ m = E.length - i ∧ LL H X H.next n (fun k => nc (adj (E.take i) k)) (fun _ => False) ∧ F = [(0, .i .i64 n), (5, .sl (some (H.next, 0, n)) n 1), (16, neV E), (17, .i .i64 E.length), (18, .i .i64 i)]
theorem made_ok (n : Nat) (E : List (Nat × Nat)) (hn : n ≤ 20000) (hE : E.length ≤ 1000000) (hb : ∀ e ∈ E, e.1 < n ∧ e.2 < n) (H : Hp) : AC Tryz.prog n_tarjan_made [.i .i64 (n : Nat), neV E] H (fun v H' => v = gV n (adj E) ∧ H' = H) := by
  refine AC.codeP tarjan_made.at tarjan_made.ok (free_gV _ _) fun hlt => ?_
  simp only [tarjan_made]
  refine AX.seq (AX.reg ?_)
  simp [tarjan_made.r0]
  refine AX.seq (AX.stp [(0, .i .i64 n), (1, neV E), (13, .b false)] ?_ ?_)
  · simp [tarjan_made.r1]
    exact hn
  refine AX.pcond (t := false) rfl (fun h => by simp at h) (fun _ => AX.skip ?_)
  simp
  refine AX.seq (AX.reg ?_)
  simp [tarjan_made.r3, repl, roomB]
  refine ⟨by omega, ?_⟩
  rw [rep_rng]
  refine AX.seq (AX.seq (AX.reg ?_))
  simp [tarjan_made.r4, neV]
  refine AX.pblock (AX.loop (MadeInv E n H) E.length ⟨_, _, .refl _ _, 0, by omega, by omega, by simpa [nc, adj] using LL.start (.refl H) hlt n 0 _ (fun k h => h.elim), by simp [neV]⟩ ?_)
  rintro m F X ⟨i, hi, rfl, L, rfl⟩
  simp only [tarjan_made.l0]
  refine AX.seq (AX.reg ?_)
  simp [tarjan_made.r5]
  refine AX.seq (AX.pcond rfl (fun hc => AX.skip ?_) (fun hc => AX.exit ?_))
  · simp at hc
    obtain ⟨h1, h2⟩ := hb _ (List.getElem_mem hc)
    have hal := adj_len (E.take i) E[i].1
    simp at hal
    have htk : E.take (i + 1) = E.take i ++ [E[i]] := by rw [List.take_add_one, List.getElem?_eq_getElem hc]; rfl
    simp
    have L' : LL H ((X.add (.cells [.i .i64 0, .i .i64 0] 2)).upd X.next (.cells [.i .i64 E[i].1, .i .i64 E[i].2] 2)) H.next n (fun k => nc (adj (E.take i) k)) (fun k => k = X.next) :=
      L.moreK ((Hp.Ext.add L.lt _).upd L.lt (Nat.le_refl _) _) (Hp.upd_lt (Hp.add_lt L.lt _) (by simp) _) fun k hk => .inr (by subst hk; simp)
    have hYe : ((X.add (.cells [.i .i64 0, .i .i64 0] 2)).upd X.next (.cells [.i .i64 E[i].1, .i .i64 E[i].2] 2)).get X.next = some (.cells [.i .i64 E[i].1, .i .i64 E[i].2] 2) := by simp
    refine AX.seq (AX.pblock (AX.seq (AX.reg ?_)))
    simp [tarjan_made.r6, neV, hc]
    generalize (X.add (.cells [.i .i64 0, .i .i64 0] 2)).upd X.next (.cells [.i .i64 E[i].1, .i .i64 E[i].2] 2) = Y at L' hYe ⊢
    refine AX.stp [(0, .i .i64 n), (5, .sl (some (H.next, 0, n)) n 1), (7, .p (some (X.next, 0, 2))), (16, neV E), (17, .i .i64 E.length), (18, .i .i64 i), (41, .b true)] ?_ ?_
    · simp [tarjan_made.r7, h1, h2, neV, hYe]
    obtain ⟨vs, mo, q1, q2, q3, k2, X2, e1, e2, e3, L2⟩ := L'.app (i := E[i].1) (bytes := 8) (t := .i .i64 (E[i].2 : Nat)) hlt h1 rfl (by simp [nc, roomB]; omega)
    have hr := take1_rng vs h1
    have e4 := (e3 _ rfl).trans hYe
    rw [q2] at e2
    refine AX.pcond (t := true) rfl (fun _ => AX.drw ?_) (fun h => by simp at h)
    simp [tarjan_made.r8, repl, -sAppend, h1, h2, q1, q2, hr, hYe, e1, e2, e4, show E[i].1 + 1 ≤ n from h1]
    refine AX.reg ?_
    simp [tarjan_made.r9, succ_of_lt hc (show E.length ≤ 9223372036854775807 by omega)]
    refine ⟨E.length - (i + 1), by omega, _, _, .refl _ _, i + 1, by omega, rfl, ?_, by simp [neV]⟩
    have hf : (fun k => nc (adj (E.take (i + 1)) k)) = upd (fun k => nc (adj (E.take i) k)) E[i].1 (nc (adj (E.take i) E[i].1) ++ [.i .i64 (E[i].2 : Nat)]) := by
      rw [htk, adj_snoc]
      funext k
      simp only [upd]
      split <;> simp [nc]
    rw [hf]
    exact L2.wk fun k h => h.elim
  simp at hc
  have hfull : E.take i = E := List.take_of_length_le (by omega)
  rw [hfull] at L
  simp
  refine AX.seq (AX.reg ?_)
  simp [tarjan_made.r10]
  refine AX.ret ?_
  simp
  refine ⟨L.ext, ?_⟩
  have := L.frz.mono (S' := fun k => H.next ≤ k) fun k h => h.1
  simp only [nc, List.map_map] at this
  exact this
end Go.Proofs.YtggjaoibcfgofaaGreatDoor
namespace Go.Proofs.YtggjaoibcfgofaaGreatDoor
open Am C
set_option linter.unusedSimpArgs false
set_option linter.unusedVariables false
def wE (l : List Nat) : List (List V) := l.map fun x => [V.i .i64 (x : Nat)]
def sE (l : List (Nat × Nat)) : List (List V) := l.map fun p => [V.i .i64 (p.1 : Nat), V.i .i64 (p.2 : Nat)]
theorem wE_len (l : List Nat) : ∀ e ∈ wE l, e.length = 1 := fun e he => by obtain ⟨x, _, rfl⟩ := List.mem_map.1 he; rfl
theorem sE_len (l : List (Nat × Nat)) : ∀ e ∈ sE l, e.length = 2 := fun e he => by obtain ⟨x, _, rfl⟩ := List.mem_map.1 he; rfl
structure SAt (H X : Hp) (G : Nat → List Nat) (n : Nat) (s : TS) (iw iq : Option Nat) : Prop where
  ext : H.Ext X
  lt : ∀ k blk, X.get k = some blk → k < X.next
  nx : H.next + 4 < X.next
  num : ∃ m, m ≤ n ∧ X.get H.next = some (.cells (nI s.num n) m)
  low : ∃ m, m ≤ n ∧ X.get (H.next + 1) = some (.cells (nI s.low n) m)
  wt : ∃ m, m ≤ n ∧ X.get (H.next + 2) = some (.cells (bI s.wt n) m)
  part : ∃ m, m ≤ n ∧ X.get (H.next + 3) = some (.cells (nI s.part n) m)
  obj : ∃ m wv sv, m ≤ 8 ∧ X.get (H.next + 4) = some (.cells [gV n G, .sl (some (H.next, 0, n)) n 1, .sl (some (H.next + 1, 0, n)) n 1, .sl (some (H.next + 2, 0, n)) n 1, wv, .sl (some (H.next + 3, 0, n)) n 1, .i .i64 (s.parts : Nat), sv] m) ∧
    Stk X 1 wv iw (wE s.W.reverse) ∧ Stk X 2 sv iq (sE s.S.reverse)
  fw : ∀ k, iw = some k → H.next + 4 < k ∧ k < X.next
  fs : ∀ k, iq = some k → H.next + 4 < k ∧ k < X.next ∧ iw ≠ some k
theorem Stk.next {X : Hp} {sz : Nat} {v : V} {o : Option Nat} {es : List (List V)} (h : Stk X sz v o es) (hl : ∀ k blk, X.get k = some blk → k < X.next) : ∀ k, o = some k → k < X.next := fun k hk => by
  subst hk
  obtain ⟨cs, m, a, b, c, d, e⟩ := h
  exact hl _ _ b
theorem visit_ok {H X : Hp} {G : Nat → List Nat} {n : Nat} {s : TS} {iw iq : Option Nat} (A : SAt H X G n s iw iq) (hH : ∀ k blk, H.get k = some blk → k < H.next) {a : Nat} (ha : a < n) (hW : s.W.length ≤ 20000) (hS : s.S.length ≤ 20000) :
    AC Tryz.prog n_tarjan_search_visit [.p (some (H.next + 4, 0, 8)), .i .i64 (a : Nat), .i .i64 ((s.met + 1 : Nat) : Int)] X (fun _ X' => ∃ iw' is', SAt H X' G n (s.visit s.S a) iw' is') := by
  obtain ⟨m1, p1, g1⟩ := A.num
  obtain ⟨m2, p2, g2⟩ := A.low
  obtain ⟨m3, p3, g3⟩ := A.wt
  obtain ⟨mo, wv, sv, po, go, gw, gs⟩ := A.obj
  refine AC.code tarjan_search_visit.at tarjan_search_visit.ok ?_
  simp only [tarjan_search_visit]
  have ha1 : a + 1 ≤ n := ha
  refine AX.seq (AX.drw ?_)
  simp [tarjan_search_visit.r0, go, g1, g2, g3, po, ha, ha1, p1, p2, p3]
  rw [show ((s.met : Int) + 1) = ((s.met + 1 : Nat) : Int) by omega, nI_set, nI_set, bI_set]
  have hX1 : ∃ X1, X1 = ((X.upd H.next (.cells (nI (upd s.num a (s.met + 1)) n) n)).upd (H.next + 1) (.cells (nI (upd s.low a (s.met + 1)) n) n)).upd (H.next + 2) (.cells (bI (upd s.wt a true) n) n) := ⟨_, rfl⟩
  obtain ⟨X1, hX1⟩ := hX1
  rw [← hX1]
  have nx := A.nx
  have a0 : ∀ k, H.next + 2 < k → X1.get k = X.get k := fun k hk => by rw [hX1]; simp [show k ≠ H.next by omega, show k ≠ H.next + 1 by omega, show k ≠ H.next + 2 by omega]
  have a1 : X1.get H.next = some (.cells (nI (upd s.num a (s.met + 1)) n) n) := by rw [hX1]; simp
  have a2 : X1.get (H.next + 1) = some (.cells (nI (upd s.low a (s.met + 1)) n) n) := by rw [hX1]; simp
  have a3 : X1.get (H.next + 2) = some (.cells (bI (upd s.wt a true) n) n) := by rw [hX1]; simp
  have al : ∀ k blk, X1.get k = some blk → k < X1.next := by
    rw [hX1]
    exact Hp.upd_lt (Hp.upd_lt (Hp.upd_lt A.lt (by omega) _) (by simp; omega) _) (by simp; omega) _
  have an : X1.next = X.next := by rw [hX1]; rfl
  have ax : H.Ext X1 := by
    rw [hX1]
    exact ((A.ext.upd hH (Nat.le_refl _) _).upd hH (by omega) _).upd hH (by omega) _
  have gw1 : Stk X1 1 wv iw (wE s.W.reverse) := gw.keep fun k blk hk g => by rw [a0 k (by have := A.fw k hk; omega)]; exact g
  have gs1 : Stk X1 2 sv iq (sE s.S.reverse) := gs.keep fun k blk hk g => by rw [a0 k (by have := A.fs k hk; omega)]; exact g
  clear hX1
  obtain ⟨wv2, X2, ow, e1, gw2, n2, l2, fr2, ho⟩ := gw1.push (bytes := 8) al (wE_len _) (by omega) (e := [.i .i64 (a : Nat)]) rfl rfl (by simp [wE, roomB]; omega)
  have oww : H.next + 4 < ow ∧ ow < X2.next := ⟨by rcases ho with h | h; · exact (A.fw _ h).1
                                                   · omega, gw2.next l2 ow rfl⟩
  have fix : ∀ k, k ≤ H.next + 4 → ∀ blk, X1.get k = some blk → X2.get k = some blk := fun k hk blk g => fr2 k blk (fun h => by have := A.fw k h; omega) g
  have go2 := fix _ (Nat.le_refl _) _ ((a0 _ (by omega)).trans go)
  have gw2' := gw2
  obtain ⟨cw, mw, rfl, _⟩ := gw2'
  have el : (wE s.W.reverse ++ [[V.i .i64 (a : Nat)]]).length = (wE s.W.reverse).length + 1 := by simp
  rw [el] at e1 gw2
  have go1 := (a0 (H.next + 4) (by omega)).trans go
  refine AX.seq (AX.reg ?_)
  simp [tarjan_search_visit.r1, repl, -sAppend, go1, po, e1, go2]
  generalize V.sl (some (ow, 0, cw.length)) ((wE s.W.reverse).length + 1) 1 = wv2 at gw2 ⊢
  obtain ⟨X3, hX3⟩ : ∃ X3, X3 = X2.upd (H.next + 4) (.cells [gV n G, .sl (some (H.next, 0, n)) n 1, .sl (some (H.next + 1, 0, n)) n 1, .sl (some (H.next + 2, 0, n)) n 1, wv2, .sl (some (H.next + 3, 0, n)) n 1, .i .i64 (s.parts : Nat), sv] 8) := ⟨_, rfl⟩
  rw [← hX3]
  have b0 : ∀ k, k ≠ H.next + 4 → X3.get k = X2.get k := fun k hk => by rw [hX3]; simp [hk]
  have go3 : X3.get (H.next + 4) = some (.cells [gV n G, .sl (some (H.next, 0, n)) n 1, .sl (some (H.next + 1, 0, n)) n 1, .sl (some (H.next + 2, 0, n)) n 1, wv2, .sl (some (H.next + 3, 0, n)) n 1, .i .i64 (s.parts : Nat), sv] 8) := by rw [hX3]; simp
  have bn : X3.next = X2.next := by rw [hX3]; rfl
  have bl : ∀ k blk, X3.get k = some blk → k < X3.next := by rw [hX3]; exact Hp.upd_lt l2 (by omega) _
  have gw3 : Stk X3 1 wv2 (some ow) (wE s.W.reverse ++ [[.i .i64 (a : Nat)]]) := gw2.keep fun k blk hk g => by injection hk with hk; subst hk; rw [b0 _ (by omega)]; exact g
  have gs3 : Stk X3 2 sv iq (sE s.S.reverse) := gs1.keep fun k blk hk g => by
    have := A.fs k hk
    rw [b0 k (by omega)]; exact fr2 k blk this.2.2 g
  have ios : ∀ k, iq = some k → k ≠ ow := fun k hk e => by
    have := A.fs k hk
    subst e
    rcases ho with h | h
    · exact this.2.2 h
    · omega
  clear hX3
  obtain ⟨sv2, X4, oq, e2, gs4, n4, l4, fr4, hq⟩ := gs3.push (bytes := 16) bl (sE_len _) (by omega) (e := [.i .i64 (a : Nat), .i .i64 ((0 : Nat) : Int)]) rfl rfl (by simp [sE, roomB]; omega)
  have oqq : H.next + 4 < oq ∧ oq < X4.next := ⟨by rcases hq with h | h; · exact (A.fs _ h).1
                                                   · omega, gs4.next l4 oq rfl⟩
  have oqw : ow ≠ oq := by
    rcases hq with h | h
    · exact Ne.symm (ios _ h)
    · omega
  have fix4 : ∀ k, k ≤ H.next + 4 → ∀ blk, X3.get k = some blk → X4.get k = some blk := fun k hk blk g => fr4 k blk (fun h => by have := A.fs k h; omega) g
  have go4 := fix4 _ (Nat.le_refl _) _ go3
  have gs4' := gs4
  obtain ⟨cq, mq, rfl, _⟩ := gs4'
  have el2 : (sE s.S.reverse ++ [[V.i .i64 (a : Nat), V.i .i64 ((0 : Nat) : Int)]]).length = (sE s.S.reverse).length + 1 := by simp
  rw [el2] at e2 gs4
  have e2' : sAppend X3 2 16 sv (.fs [[.i .i64 (a : Nat), .i .i64 0]]) = _ := e2
  refine AX.reg ?_
  simp [tarjan_search_visit.r2, repl, -sAppend, go3, e2', go4]
  refine ⟨some ow, some oq, ?_⟩
  have hfix : ∀ k, k < H.next + 4 → ∀ blk, X1.get k = some blk → (X4.upd (H.next + 4) (.cells [gV n G, .sl (some (H.next, 0, n)) n 1, .sl (some (H.next + 1, 0, n)) n 1, .sl (some (H.next + 2, 0, n)) n 1, wv2, .sl (some (H.next + 3, 0, n)) n 1, .i .i64 (s.parts : Nat), .sl (some (oq, 0, cq.length)) ((sE s.S.reverse).length + 1) 2] 8)).get k = some blk := fun k hk blk g => by
    simp only [Hp.get_upd]
    rw [if_neg (by omega)]
    exact fix4 k (by omega) blk (by rw [b0 k (by omega)]; exact fix k (by omega) blk g)
  refine ⟨?_, Hp.upd_lt l4 (by omega) _, by simp; omega, ⟨n, Nat.le_refl _, hfix _ (by omega) _ a1⟩, ⟨n, Nat.le_refl _, hfix _ (by omega) _ a2⟩, ⟨n, Nat.le_refl _, hfix _ (by omega) _ a3⟩, ?_, ⟨8, wv2, .sl (some (oq, 0, cq.length)) ((sE s.S.reverse).length + 1) 2, Nat.le_refl _, by simp [TS.visit], ?_, ?_⟩, fun k hk => ?_, fun k hk => ?_⟩
  · exact ⟨by simp; have := A.ext.1; omega, fun k blk g => hfix k (by have := hH k blk g; omega) blk (ax.2 _ _ g)⟩
  · obtain ⟨m, h1, h2⟩ := A.part
    exact ⟨m, h1, hfix _ (by omega) _ ((a0 _ (by omega)).trans h2)⟩
  · have : wE (s.visit s.S a).W.reverse = wE s.W.reverse ++ [[.i .i64 (a : Nat)]] := by simp [TS.visit, wE]
    rw [this]
    refine gw3.keep fun k blk hk g => ?_
    injection hk with hk; subst hk
    simp only [Hp.get_upd]; rw [if_neg (by omega)]
    exact fr4 _ _ (fun h => ios _ h rfl) g
  · have : sE (s.visit s.S a).S.reverse = sE s.S.reverse ++ [[.i .i64 (a : Nat), .i .i64 ((0 : Nat) : Int)]] := by simp [TS.visit, sE]
    rw [this]
    refine gs4.keep fun k blk hk g => ?_
    injection hk with hk; subst hk
    simp only [Hp.get_upd]; rw [if_neg (by omega)]
    exact g
  · injection hk with hk; subst hk; simp; omega
  · injection hk with hk; subst hk; simp; omega
end Go.Proofs.YtggjaoibcfgofaaGreatDoor
namespace Go.Proofs.YtggjaoibcfgofaaGreatDoor
open Am C
set_option linter.unusedSimpArgs false
set_option linter.unusedVariables false
section
variable {H X : Hp} {G : Nat → List Nat} {n : Nat} {s : TS} {iw iq : Option Nat}
theorem SAt.lowSet (A : SAt H X G n s iw iq) (hH : ∀ k blk, H.get k = some blk → k < H.next) (f : Nat → Nat) : SAt H (X.upd (H.next + 1) (.cells (nI f n) n)) G n { s with low := f } iw iq := by
  have nx := A.nx
  obtain ⟨m, wv, sv, h1, h2, h3, h4⟩ := A.obj
  exact ⟨A.ext.upd hH (by omega) _, Hp.upd_lt A.lt (by omega) _, A.nx, by simpa using A.num, ⟨n, Nat.le_refl _, by simp⟩, by simpa using A.wt, by simpa using A.part,
    ⟨m, wv, sv, h1, by simp [h2], h3.keep fun k blk hk g => by simp only [Hp.get_upd]; rw [if_neg (by have := A.fw k hk; omega)]; exact g, h4.keep fun k blk hk g => by simp only [Hp.get_upd]; rw [if_neg (by have := A.fs k hk; omega)]; exact g⟩, A.fw, A.fs⟩
theorem SAt.wtSet (A : SAt H X G n s iw iq) (hH : ∀ k blk, H.get k = some blk → k < H.next) (f : Nat → Bool) : SAt H (X.upd (H.next + 2) (.cells (bI f n) n)) G n { s with wt := f } iw iq := by
  have nx := A.nx
  obtain ⟨m, wv, sv, h1, h2, h3, h4⟩ := A.obj
  exact ⟨A.ext.upd hH (by omega) _, Hp.upd_lt A.lt (by omega) _, A.nx, by simpa using A.num, by simpa using A.low, ⟨n, Nat.le_refl _, by simp⟩, by simpa using A.part,
    ⟨m, wv, sv, h1, by simp [h2], h3.keep fun k blk hk g => by simp only [Hp.get_upd]; rw [if_neg (by have := A.fw k hk; omega)]; exact g, h4.keep fun k blk hk g => by simp only [Hp.get_upd]; rw [if_neg (by have := A.fs k hk; omega)]; exact g⟩, A.fw, A.fs⟩
theorem SAt.partSet (A : SAt H X G n s iw iq) (hH : ∀ k blk, H.get k = some blk → k < H.next) (f : Nat → Nat) : SAt H (X.upd (H.next + 3) (.cells (nI f n) n)) G n { s with part := f } iw iq := by
  have nx := A.nx
  obtain ⟨m, wv, sv, h1, h2, h3, h4⟩ := A.obj
  exact ⟨A.ext.upd hH (by omega) _, Hp.upd_lt A.lt (by omega) _, A.nx, by simpa using A.num, by simpa using A.low, by simpa using A.wt, ⟨n, Nat.le_refl _, by simp⟩,
    ⟨m, wv, sv, h1, by simp [h2], h3.keep fun k blk hk g => by simp only [Hp.get_upd]; rw [if_neg (by have := A.fw k hk; omega)]; exact g, h4.keep fun k blk hk g => by simp only [Hp.get_upd]; rw [if_neg (by have := A.fs k hk; omega)]; exact g⟩, A.fw, A.fs⟩
theorem SAt.objSet (A : SAt H X G n s iw iq) (hH : ∀ k blk, H.get k = some blk → k < H.next) {wv sv : V} {W : List Nat} {S : List (Nat × Nat)} {p : Nat} (hw : Stk X 1 wv iw (wE W.reverse)) (hs : Stk X 2 sv iq (sE S.reverse)) :
    SAt H (X.upd (H.next + 4) (.cells [gV n G, .sl (some (H.next, 0, n)) n 1, .sl (some (H.next + 1, 0, n)) n 1, .sl (some (H.next + 2, 0, n)) n 1, wv, .sl (some (H.next + 3, 0, n)) n 1, .i .i64 (p : Nat), sv] 8)) G n { s with W := W, S := S, parts := p } iw iq := by
  have nx := A.nx
  exact ⟨A.ext.upd hH (by omega) _, Hp.upd_lt A.lt (by omega) _, A.nx, by simpa using A.num, by simpa using A.low, by simpa using A.wt, by simpa using A.part,
    ⟨8, wv, sv, Nat.le_refl _, by simp, hw.keep fun k blk hk g => by simp only [Hp.get_upd]; rw [if_neg (by have := A.fw k hk; omega)]; exact g, hs.keep fun k blk hk g => by simp only [Hp.get_upd]; rw [if_neg (by have := A.fs k hk; omega)]; exact g⟩, A.fw, A.fs⟩
end
theorem Stk.pop {X : Hp} {sz : Nat} {v : V} {o : Option Nat} {es : List (List V)} {e : List V} (h : Stk X sz v o (es ++ [e])) : ∃ id L cs m, o = some id ∧ v = .sl (some (id, 0, L)) (es.length + 1) sz ∧ X.get id = some (.cells cs m) ∧ m ≤ L ∧ L = cs.length ∧ cs.take (es ++ [e]).flatten.length = (es ++ [e]).flatten ∧
    (es ++ [e]).flatten.length ≤ L ∧ Stk X sz (.sl (some (id, 0, L)) es.length sz) o es := by
  cases o with
  | none => obtain ⟨h, _⟩ := h; simp at h
  | some id =>
    obtain ⟨cs, m, rfl, hg, hm, h1, h2, hq⟩ := h
    refine ⟨id, cs.length, cs, m, rfl, by simp, hg, hm, rfl, h2, h1, cs, m, rfl, hg, hm, ?_, ?_, hq⟩
    · rw [List.flatten_append, List.length_append] at h1; omega
    · have := congrArg (List.take es.flatten.length) h2
      rw [List.take_take, List.flatten_append, List.take_left, List.length_append, Nat.min_eq_left (by omega)] at this
      exact this
theorem Stk.cellAt {sz : Nat} {cs : List V} {es : List (List V)} (h : cs.take es.flatten.length = es.flatten) (he : ∀ e ∈ es, e.length = sz) {j i : Nat} {e : List V} {v : V} (hj : es[j]? = some e) (hi : e[i]? = some v) : (cs.drop (j * sz + i)).take 1 = [v] ∧ j * sz + i < es.flatten.length := by
  have h1 := flat_get he hj hi
  have h2 := (List.getElem?_eq_some_iff.1 h1).1
  refine ⟨take1_at ?_, h2⟩
  have h3 : (cs.take es.flatten.length)[j * sz + i]? = some v := by rw [h]; exact h1
  rw [List.getElem?_take, if_pos h2] at h3
  exact h3
theorem Stk.cellGet {sz : Nat} {cs : List V} {es : List (List V)} (h : cs.take es.flatten.length = es.flatten) (he : ∀ e ∈ es, e.length = sz) {j i : Nat} {e : List V} {v : V} (hj : es[j]? = some e) (hi : e[i]? = some v) : cs[j * sz + i]? = some v := by
  have h1 := flat_get he hj hi
  have h2 := (List.getElem?_eq_some_iff.1 h1).1
  have h3 : (cs.take es.flatten.length)[j * sz + i]? = some v := by rw [h]; exact h1
  rwa [List.getElem?_take, if_pos h2] at h3
theorem TInv.parts_le {G : Nat → List Nat} {n : Nat} {s : TS} (T : TInv G n s) : s.parts ≤ n := by
  have : ∃ f : Nat → Nat, ∀ p, p < s.parts → s.done (f p) ∧ s.part (f p) = p := ⟨fun p => if h : p < s.parts then Classical.choose (T.p10i p h) else 0, fun p hp => by simp only [dif_pos hp]; exact Classical.choose_spec (T.p10i p hp)⟩
  obtain ⟨f, hf⟩ := this
  have h1 : ((List.range s.parts).map f).Nodup := by
    rw [List.nodup_iff_pairwise_ne, List.pairwise_map]
    refine (List.pairwise_lt_range (n := s.parts)).imp_of_mem fun {p q} hp hq hlt e => ?_
    have h1 := (hf p (by simpa using hp)).2
    have h2 := (hf q (by simpa using hq)).2
    rw [e] at h1; omega
  have := nodup_len n _ h1 (fun x hx => by
    obtain ⟨p, hp, rfl⟩ := List.mem_map.1 hx
    exact T.dom _ (hf p (by simpa using hp)).1.1)
  simpa using this
def TS.popped (s : TS) (R : List (Nat × Nat)) (i : Nat) : TS := { s with S := R, low := s.lowUp, W := s.W.drop i, wt := fun x => if x ∈ s.W.take i then false else s.wt x, part := fun x => if x ∈ s.W.take i then s.parts else s.part x }
def LvInv (H : Hp) (G : Nat → List Nat) (n : Nat) (s : TS) (R : List (Nat × Nat)) (iw iq : Option Nat) (a l : Nat) (m : Nat) (F : Fr) (Y : Hp) : Prop :=
  ∃ i, i ≤ l + 1 ∧ m = l + 1 - i ∧ SAt H Y G n (s.popped R i) iw iq ∧ F = [(0, .p (some (H.next + 4, 0, 8))), (1, .i .i64 a)]
theorem leave_ok {H X : Hp} {G : Nat → List Nat} {n : Nat} {s : TS} {iw iq : Option Nat} (A : SAt H X G n s iw iq) (hH : ∀ k blk, H.get k = some blk → k < H.next) (hn : n ≤ 20000) (T : TInv G n s) (hmet : s.met ≤ n) {a k : Nat} {R : List (Nat × Nat)} (hS : s.S = (a, k) :: R)
    (hk : ∀ (i u : Nat), (G a)[i]? = some u → i < k) :
    AC Tryz.prog n_tarjan_search_leave [.p (some (H.next + 4, 0, 8)), .i .i64 (a : Nat)] X (fun _ X' => ∃ s' iw' iq', SAt H X' G n s' iw' iq' ∧ TInv G n s' ∧ s'.S = R ∧ s'.num = s.num ∧ s'.met = s.met) := by
  obtain ⟨mo, wv, sv, po, go, gw, gs⟩ := A.obj
  have haW := T.SW a (by simp [TS.A, hS])
  have ha := T.dom a (T.vis a haW)
  have hSl : s.S.length ≤ n := by
    have h1 := dec_len (f := s.num) T.Sn (fun x hx => T.vis x (T.SW x hx)) s.met (fun x _ => T.met x)
    simp [TS.A] at h1; omega
  rw [hS] at gs hSl
  have hsr : sE ((a, k) :: R).reverse = sE R.reverse ++ [[.i .i64 (a : Nat), .i .i64 (k : Nat)]] := by simp [sE]
  rw [hsr] at gs
  obtain ⟨jq, L, cs, mq, hiq, rfl, gq, q1, q2, q3, q4, gs1⟩ := gs.pop
  have hsl : (sE R.reverse).length = R.length := by simp [sE]
  rw [hsl] at gs1 go
  have hfl : (sE R.reverse ++ [[V.i .i64 (a : Nat), V.i .i64 (k : Nat)]]).flatten.length = (R.length + 1) * 2 := by
    rw [← hsr, flat_len (sz := 2) (sE_len _)]
    simp [sE]
  rw [hfl] at q4
  have hRl : R.length + 1 ≤ 20000 := by simp at hSl; omega
  refine AC.code tarjan_search_leave.at tarjan_search_leave.ok ?_
  simp only [tarjan_search_leave]
  refine AX.seq (AX.drw ?_)
  have ew : Go.IntKind.i64.wrap (R.length : Int) = (R.length : Nat) := wrap_i64 (by omega) (by omega)
  simp [tarjan_search_leave.r0, go, po, ew, show R.length * 2 ≤ L by omega]
  have A1 := A.objSet hH (p := s.parts) gw gs1
  generalize X.upd (H.next + 4) _ = X1 at A1 ⊢
  obtain ⟨m1, p1, g1⟩ := A1.num
  obtain ⟨m2, p2, g2⟩ := A1.low
  obtain ⟨mo1, wv1, sv1, po1, go1, gw1, gs1'⟩ := A1.obj
  have ha1 : a + 1 ≤ n := ha
  have n1 := nI_at s.num ha
  have n2 := nI_at s.low ha
  simp only at g1 g2
  refine AX.seq (AX.mono (Q := Post.then (fun F Y => F = [(0, .p (some (H.next + 4, 0, 8))), (1, .i .i64 a)] ∧ SAt H Y G n { s with S := R, low := s.lowUp } iw iq) fun _ _ _ => False) ?_ ?_)
  · cases hR : R with
    | nil =>
      have hlow : s.lowUp = s.low := by unfold TS.lowUp; rw [hS, hR]
      rw [hlow]
      rw [hR] at gs1' A1
      rw [hiq] at gs1'
      obtain ⟨cs', m', rfl, _⟩ := gs1'
      refine AX.seq (AX.reg ?_)
      simp [tarjan_search_leave.r1, go1, po1, sE]
      refine AX.pcond (t := false) rfl (fun h => by simp at h) (fun _ => AX.skip ?_)
      simp
      exact A1
    | cons q R' =>
      obtain ⟨b, j⟩ := q
      have hlow : s.lowUp = upd s.low b (min (s.low b) (s.low a)) := by unfold TS.lowUp; rw [hS, hR]
      have hbA : b ∈ s.A := by simp [TS.A, hS, hR]
      have hb := T.dom b (T.vis b (T.SW b hbA))
      have hb1 : b + 1 ≤ n := hb
      have n3 := nI_at s.low hb
      have hne : b ≠ a := fun e => by
        have := T.below hS b (by simp [hR])
        rw [e] at this; omega
      rw [hR] at gs1' A1
      have hsr' : sE ((b, j) :: R').reverse = sE R'.reverse ++ [[.i .i64 (b : Nat), .i .i64 (j : Nat)]] := by simp [sE]
      simp only at gs1'
      rw [hsr'] at gs1'
      obtain ⟨jq', L', cs', mq', _, rfl, gq', q1', q2', q3', q4', _⟩ := gs1'.pop
      rw [← hsr'] at q3'
      have hs2 : (sE R'.reverse).length = R'.length := by simp [sE]
      rw [hs2] at go1
      obtain ⟨c1, c2⟩ := Stk.cellAt (sz := 2) q3' (sE_len _) (j := R'.length) (i := 0) (e := [.i .i64 (b : Nat), .i .i64 (j : Nat)]) (v := .i .i64 (b : Nat)) (by rw [hsr', List.getElem?_append_right (by simp [sE])]; simp [sE]) rfl
      rw [← hsr'] at q4'
      simp only [Nat.add_zero] at c1 c2
      have hR'l : R'.length + 1 ≤ 20000 := by rw [hR] at hRl; simp at hRl; omega
      have ew' : Go.IntKind.i64.wrap (R'.length : Int) = (R'.length : Nat) := wrap_i64 (by omega) (by omega)
      refine AX.seq (AX.reg ?_)
      simp [tarjan_search_leave.r1, go1, po1]
      refine AX.pcond (t := true) (by simp) (fun _ => AX.seq (AX.drw ?_)) (fun h => by simp at h)
      simp [tarjan_search_leave.r2, go1, po1, ew', gq', c1, q1', show (R'.length : Int) < R'.length + 1 by omega, show R'.length * 2 + 1 ≤ L' by omega]
      refine AX.drw ?_
      simp [tarjan_search_leave.r3, go1, po1, g1, g2, p2, hb, hb1, ha, ha1, n3, n2]
      rw [show (min ((s.low b : Nat) : Int) ((s.low a : Nat) : Int)) = ((min (s.low b) (s.low a) : Nat) : Int) by omega, nI_set, ← hlow]
      exact A1.lowSet hH _
  rintro x F Y hx
  cases x with
  | exit k => exact hx.elim
  | ret => exact hx.elim
  | normal =>
  obtain ⟨rfl, A2⟩ := hx
  have hla : s.lowUp a = s.low a := by
    unfold TS.lowUp; rw [hS]
    cases hR : R with
    | nil => rfl
    | cons q R' =>
      refine upd_ne _ _ fun e => ?_
      have := T.below hS q.1 (by simp [hR])
      rw [e] at this; omega
  clear gs1' gw1 go1 g1 g2 A1
  obtain ⟨m1, p1, g1⟩ := A2.num
  obtain ⟨m2, p2, g2⟩ := A2.low
  obtain ⟨mo2, wv2, sv2, po2, go2, gw2, gs2⟩ := A2.obj
  have n3 := nI_at s.lowUp ha
  rw [hla] at n3
  simp only at g1 g2 go2
  refine AX.seq (AX.seq (AX.drw ?_))
  simp [tarjan_search_leave.r4, go2, po2, g1, g2, p1, p2, ha, ha1, n1, n3]
  by_cases hlow : s.low a = s.num a
  · refine AX.pcond (t := false) (by simp [hlow]) (fun h => by simp at h) (fun _ => AX.skip ?_)
    simp
    obtain ⟨P, B, hW⟩ := List.append_of_mem haW
    have hWn := T.Wn
    rw [hW, List.pairwise_append] at hWn
    have haP : a ∉ P := fun h => by have := hWn.2.2 a h a (by simp); omega
    have tk : ∀ i, i ≤ P.length → a ∉ s.W.take i := fun i hi h => by
      rw [hW, List.take_append_of_le_length hi] at h
      exact haP (List.mem_of_mem_take h)
    have tk1 : s.W.take (P.length + 1) = P ++ [a] := by rw [hW, List.take_append, List.take_of_length_le (by omega)]; simp
    have dr1 : s.W.drop (P.length + 1) = B := by rw [hW, List.drop_append, List.drop_of_length_le (by omega)]; simp
    have A0 : SAt H Y G n (s.popped R 0) iw iq := by simpa [TS.popped] using A2
    clear A2 gs2 gw2 go2 g1 g2
    refine AX.seq (AX.pblock (AX.loop (LvInv H G n s R iw iq a P.length) (P.length + 1) ⟨_, _, .refl _ _, 0, by omega, by omega, A0, rfl⟩ ?_))
    rintro m F Z ⟨i, hi, rfl, A3, rfl⟩
    simp only [tarjan_search_leave.l0]
    obtain ⟨m3, p3, g3⟩ := A3.wt
    obtain ⟨m4, p4, g4⟩ := A3.part
    obtain ⟨mo3, wv3, sv3, po3, go3, gw3, gs3⟩ := A3.obj
    have n4 := bI_at (s.popped R i).wt ha
    have hwa : (s.popped R i).wt a = decide (i ≤ P.length) := by
      simp only [TS.popped]
      by_cases h : i ≤ P.length
      · rw [if_neg (tk i h), decide_eq_true h]; exact (T.wtW a).2 haW
      · have : i = P.length + 1 := by omega
        subst this
        rw [tk1, if_pos (by simp), decide_eq_false h]
    rw [hwa] at n4
    refine AX.seq (AX.seq (AX.reg ?_))
    simp [tarjan_search_leave.r5, go3, po3, g3, p3, ha, ha1, n4]
    refine AX.pcond rfl (fun hc => AX.skip ?_) (fun hc => AX.exit ?_)
    · simp at hc
      have hWl : s.W.length = P.length + 1 + B.length := by rw [hW]; simp; omega
      have hWn : s.W.length ≤ 20000 := by
        have := dec_len (f := s.num) T.Wn T.vis s.met (fun x _ => T.met x)
        omega
      have hiW : i < s.W.length := by omega
      obtain ⟨x, hx⟩ : ∃ x, s.W[i]? = some x := ⟨_, List.getElem?_eq_getElem hiW⟩
      have hxm : x ∈ s.W := List.mem_of_getElem? hx
      have hxn := T.dom x (T.vis x hxm)
      have hxn1 : x + 1 ≤ n := hxn
      have hdr : s.W.drop i = x :: s.W.drop (i + 1) := by
        rw [List.drop_eq_getElem_cons hiW]
        rw [List.getElem?_eq_getElem hiW] at hx
        injection hx with hx; rw [hx]
      have htk : s.W.take (i + 1) = s.W.take i ++ [x] := by rw [List.take_add_one, hx]; rfl
      have hwr : wE (s.popped R i).W.reverse = wE (s.W.drop (i + 1)).reverse ++ [[.i .i64 (x : Nat)]] := by
        show wE (s.W.drop i).reverse = _
        rw [hdr]; simp [wE]
      rw [hwr] at gw3
      have hwl : (wE (s.W.drop (i + 1)).reverse).length = (s.W.drop (i + 1)).length := by simp [wE]
      obtain ⟨jw, Lw, cw, mw, hiw, rfl, gz, u1, u2, u3, u4, gw4⟩ := gw3.pop
      rw [← hwr] at u3 u4
      obtain ⟨c1, c2⟩ := Stk.cellAt (sz := 1) u3 (wE_len _) (j := (s.W.drop (i + 1)).length) (i := 0) (e := [.i .i64 (x : Nat)]) (v := .i .i64 (x : Nat)) (by rw [hwr, List.getElem?_append_right (by rw [hwl]; omega), hwl, Nat.sub_self]; rfl) rfl
      rw [hwl] at go3 gw4
      have hDl : (s.W.drop (i + 1)).length ≤ 20000 := by rw [List.length_drop]; omega
      generalize hD : s.W.drop (i + 1) = D at *
      simp only [Nat.mul_one, Nat.add_zero] at c1 c2
      have ew : Go.IntKind.i64.wrap (D.length : Int) = (D.length : Nat) := wrap_i64 (by omega) (by omega)
      simp
      refine AX.pblock (AX.seq (AX.drw ?_))
      simp [tarjan_search_leave.r6, go3, po3, ew, gz, c1, u1, show (D.length : Int) < D.length + 1 by omega, show D.length + 1 ≤ Lw by omega]
      refine AX.seq (AX.drw ?_)
      simp [tarjan_search_leave.r7, go3, po3, ew, show D.length ≤ Lw by omega]
      have A4 := A3.objSet hH (p := (s.popped R i).parts) gw4 gs3
      generalize Z.upd (H.next + 4) _ = Z4 at A4 ⊢
      obtain ⟨m5, p5, g5⟩ := A4.wt
      obtain ⟨m6, p6, g6⟩ := A4.part
      obtain ⟨mo6, wv6, sv6, po6, go6, _, _⟩ := A4.obj
      refine AX.drw ?_
      simp [tarjan_search_leave.r8, go6, po6, g5, g6, p5, p6, hxn, hxn1]
      rw [nI_set, bI_set]
      refine ⟨P.length + 1 - (i + 1), by omega, _, _, .refl _ _, i + 1, by omega, rfl, ?_, rfl⟩
      have A5 := (A4.partSet hH (upd (s.popped R i).part x (s.popped R i).parts)).wtSet hH (upd (s.popped R i).wt x false)
      have hst : s.popped R (i + 1) = { s.popped R i with W := D, part := upd (s.popped R i).part x (s.popped R i).parts, wt := upd (s.popped R i).wt x false } := by
        simp only [TS.popped, TS.mk.injEq, true_and, and_true]
        refine ⟨?_, ?_, by rw [hD]⟩
        · funext y
          simp only [htk, upd, List.mem_append, List.mem_singleton]
          by_cases hy : y = x
          · simp [hy]
          · simp [hy]
        · funext y
          simp only [htk, upd, List.mem_append, List.mem_singleton]
          by_cases hy : y = x
          · simp [hy]
          · simp [hy]
      rw [hst]
      exact A5
    simp at hc
    have : i = P.length + 1 := by omega
    subst this
    simp
    have hpl := T.parts_le
    have A4 := A3.objSet hH (p := s.parts + 1) gw3 gs3
    refine AX.reg ?_
    have go3' : Z.get (H.next + 4) = some (.cells [gV n G, .sl (some (H.next, 0, n)) n 1, .sl (some (H.next + 1, 0, n)) n 1, .sl (some (H.next + 2, 0, n)) n 1, wv3, .sl (some (H.next + 3, 0, n)) n 1, .i .i64 (s.parts : Nat), sv3] mo3) := go3
    simp [tarjan_search_leave.r9, go3', po3, i64_succ (show s.parts ≤ 9223372036854775000 by omega)]
    refine ⟨_, ⟨_, _, A4⟩, ?_, rfl, rfl, rfl⟩
    have := T.leave2 hS hk hlow hW
    simp only [TS.popped, tk1, dr1]
    exact this
  · refine AX.pcond (t := true) (by simp [hlow]) (fun _ => AX.ret ?_) (fun h => by simp at h)
    simp
    exact ⟨_, ⟨_, _, A2⟩, T.leave1 hS hk hlow, rfl, rfl, rfl⟩
end Go.Proofs.YtggjaoibcfgofaaGreatDoor
