/- Part 28 of the proof of the laws of the queries: QParts, QNum2. -/
import Derived.Test.YtggjaoibcfgofaaGreatDoorW25
import Derived.Test.YtggjaoibcfgofaaGreatDoorW27
namespace Go.Proofs.YtggjaoibcfgofaaGreatDoor
open Am C
set_option linter.unusedSimpArgs false
set_option linter.unusedVariables false
def ppV (out : List (List Nat)) : V := .fs (out.map fun p => [ns p])
@[simp] theorem free_ppV (out : List (List Nat)) : free (ppV out) := free_fs fun e he v hv => by
  obtain ⟨x, _, rfl⟩ := List.mem_map.1 he
  simp at hv; subst hv; exact free_ns _
def sfV (n : Nat) (G : Nat → List Nat) (B : Nat) (part : Nat → Nat) (P : Nat) (wv sv : V) : V :=
  .fp [gV n G, .sl (some (B, 0, n)) n 1, .sl (some (B + 1, 0, n)) n 1, .sl (some (B + 2, 0, n)) n 1, wv, .fs ((List.range n).map fun i => [.i .i64 (part i : Nat)]), .i .i64 (P : Nat), sv] 0
theorem SAt.frz {H X : Hp} {G : Nat → List Nat} {n : Nat} {s : TS} {iw iq : Option Nat} (A : SAt H X G n s iw iq) : ∃ wv sv, Frz X (fun id => H.next ≤ id) (.p (some (H.next + 4, 0, 8))) (sfV n G H.next s.part s.parts wv sv) := by
  obtain ⟨mo, wv, sv, po, go, _, _⟩ := A.obj
  obtain ⟨mp, pp, gp⟩ := A.part
  refine ⟨wv, sv, .p (H.next + 4) 0 8 mo _ _ (by omega) go po (by simp) (by simp) fun j u v hu hv => ?_⟩
  match j with
  | 0 => simp at hu hv; subst hu hv; exact .refl _
  | 1 => simp at hu hv; subst hu hv; exact .refl _
  | 2 => simp at hu hv; subst hu hv; exact .refl _
  | 3 => simp at hu hv; subst hu hv; exact .refl _
  | 4 => simp at hu hv; subst hu hv; exact .refl _
  | 5 =>
    simp at hu hv; subst hu hv
    refine .sl (H.next + 3) 0 n n 1 mp _ _ (by omega) gp pp (by simp) (by simp) (fun e he => by obtain ⟨i, _, rfl⟩ := List.mem_map.1 he; rfl) (fun i j e v hi hj => ?_) (fun i j e v u hi hj hu => ?_)
    · simp only [List.getElem?_map, Option.map_eq_some_iff] at hi
      obtain ⟨x, hx, rfl⟩ := hi
      have := (List.getElem?_eq_some_iff.1 hx).1
      simp at this
      cases j with
      | zero => omega
      | succ j => simp at hj
    · simp only [List.getElem?_map, Option.map_eq_some_iff] at hi
      obtain ⟨x, hx, rfl⟩ := hi
      cases j with
      | succ j => simp at hj
      | zero =>
        simp at hj; subst hj
        simp [nI, hx] at hu
        subst hu; exact .refl _
  | 6 => simp at hu hv; subst hu hv; exact .refl _
  | 7 => simp at hu hv; subst hu hv; exact .refl _
  | j + 8 => simp at hu
def P0Inv (H : Hp) (n P : Nat) (part : Nat → Nat) (g s pv : V) (m : Nat) (F : Fr) (X : Hp) : Prop :=
  ∃ i, i ≤ n ∧ m = n - i ∧ LL H X H.next P (fun p => nc (memP i part p)) (fun _ => False) ∧ F = [(5, g), (6, s), (7, .sl (some (H.next, 0, P)) P 1), (35, pv), (36, .i .i64 n), (37, .i .i64 i)]
theorem memP_succ (i : Nat) (part : Nat → Nat) : (fun p => nc (memP (i + 1) part p)) = upd (fun p => nc (memP i part p)) (part i) (nc (memP i part (part i)) ++ [.i .i64 (i : Nat)]) := by
  funext p
  simp only [upd, memP, List.range_succ, List.filter_append]
  by_cases e : p = part i
  · subst e; simp [nc]
  · have : ¬ part i = p := Ne.symm e
    simp [e, this]
theorem memP_len (i : Nat) (part : Nat → Nat) (p : Nat) : (memP i part p).length ≤ i := by
  have := List.length_filter_le (fun x => part x == p) (List.range i)
  simpa [memP] using this
theorem Stk.frz {X : Hp} {sz : Nat} {v : V} {o : Option Nat} {es : List (List V)} (h : Stk X sz v o es) (he : ∀ e ∈ es, e.length = sz) (S : Nat → Prop) (hS : ∀ k, o = some k → S k) : Frz X S v (.fs es) := by
  cases o with
  | none => obtain ⟨rfl, z, rfl⟩ := h; exact .sl0 z
  | some id =>
    obtain ⟨cs, m, rfl, hg, hm, h1, h2, hq⟩ := h
    refine .sl id 0 cs.length es.length sz m cs es (hS id rfl) hg hm (Nat.le_refl _) rfl he (fun i j e v hi hj => ?_) (fun i j e v u hi hj hu => ?_)
    · have := (List.getElem?_eq_some_iff.1 (flat_get he hi hj)).1
      omega
    · have := Stk.cellGet h2 he hi hj
      rw [Nat.zero_add, this] at hu; injection hu with hu; subst hu; exact .refl _
theorem rndS_len (n : Nat) (M : Nat → Nat → Bool) : ∀ t, (rndS n M t).length ≤ t
  | 0 => by simp [rndS]
  | t + 1 => by
    have := rndS_len n M t
    simp only [rndS, roundS]
    split
    · simp; omega
    · omega
def hd0 (n : Nat) (part : Nat → Nat) (p : Nat) : Nat := (memP n part p).headD 0
structure RdI (n : Nat) (E : List (Nat × Nat)) (P : Nat) (part : Nat → Nat) (t : Nat) (st : Nat → Bool) : Prop where
  ho : ∀ x, x < n → ((∃ p ∈ rndS n (warS E n) t, x ∈ p) ↔ st (part x) = true)
  cl : ∀ p q, st p = true → Led (adj E) n part p q → st q = true
  cnt : cntB P st = t
def RF (n : Nat) (E : List (Nat × Nat)) (B P : Nat) (part : Nat → Nat) (ld : Nat → List Nat) (wv sv : V) (K : Nat) : Fr := [(6, sfV n (adj E) B part P wv sv), (7, gV P (memP n part)), (10, gV P ld), (11, .sl (some (K + 1, 0, P)) P 1)]
structure RHp (H X : Hp) (n : Nat) (E : List (Nat × Nat)) (P : Nat) (t : Nat) (op : Nat → Int) (o : Option Nat) (v : V) : Prop where
  ext : H.Ext X
  lt : ∀ k blk, X.get k = some blk → k < X.next
  nx : H.next + 1 < X.next
  op : ∃ m, m ≤ P ∧ X.get (H.next + 1) = some (.cells (zI op P) m)
  out : Stk X 1 v o ((rndS n (warS E n) t).map fun p => [ns p])
  o : ∀ k, o = some k → H.next + 1 < k
def R3Inv (H : Hp) (n : Nat) (E : List (Nat × Nat)) (B P : Nat) (part : Nat → Nat) (ld : Nat → List Nat) (wv sv : V) (m : Nat) (F : Fr) (X : Hp) : Prop :=
  ∃ t st o v, t ≤ P ∧ m = P - t ∧ RHp H X n E P t (opv P ld st) o v ∧ RdI n E P part t st ∧ F = RF n E B P part ld wv sv H.next ++ [(17, v), (122, .i .i64 P), (123, .i .i64 t)]
def BestI (P : Nat) (op : Nat → Int) (hd : Nat → Nat) (p : Nat) (best : Int) : Prop :=
  (best = -1 ∧ ∀ q, q < p → op q ≠ 0) ∨ ∃ b : Nat, best = b ∧ b < p ∧ op b = 0 ∧ ∀ q, q < p → op q = 0 → hd b ≤ hd q
def R4Inv (H : Hp) (n : Nat) (E : List (Nat × Nat)) (B P : Nat) (part : Nat → Nat) (ld : Nat → List Nat) (wv sv : V) (op : Nat → Int) (t : Nat) (v : V) (X : Hp) (m : Nat) (F : Fr) (Y : Hp) : Prop :=
  ∃ p best, p ≤ P ∧ m = P - p ∧ BestI P op (hd0 n part) p best ∧ Y = X ∧ F = RF n E B P part ld wv sv H.next ++ [(17, v), (18, .i .i64 best), (122, .i .i64 P), (123, .i .i64 t), (128, .i .i64 P), (129, .i .i64 p)]
def R5Inv (H : Hp) (n : Nat) (E : List (Nat × Nat)) (B P : Nat) (part : Nat → Nat) (ld : Nat → List Nat) (wv sv : V) (op : Nat → Int) (b t : Nat) (o : Option Nat) (v : V) (m : Nat) (F : Fr) (Y : Hp) : Prop :=
  ∃ i, i ≤ (ld b).length ∧ m = (ld b).length - i ∧ RHp H Y n E P (t + 1) (fun p => if p = b then -1 else op p - (if p ∈ (ld b).take i then 1 else 0)) o v ∧
    F = RF n E B P part ld wv sv H.next ++ [(17, v), (122, .i .i64 P), (123, .i .i64 t), (171, ns (ld b)), (172, .i .i64 (ld b).length), (173, .i .i64 i)]
def PF (n : Nat) (E : List (Nat × Nat)) (B P : Nat) (part : Nat → Nat) (wv sv : V) (K : Nat) : Fr := [(5, gV n (adj E)), (6, sfV n (adj E) B part P wv sv), (7, gV P (memP n part)), (10, .sl (some (K, 0, P)) P 1), (11, .sl (some (K + 1, 0, P)) P 1)]
def P1Inv (H : Hp) (n : Nat) (E : List (Nat × Nat)) (B P : Nat) (part : Nat → Nat) (wv sv : V) (m : Nat) (F : Fr) (X : Hp) : Prop :=
  ∃ i ld, i ≤ n ∧ m = n - i ∧ LL H X H.next P (fun q => nc (ld q)) (fun k => k = H.next + 1) ∧ (∃ mo, mo ≤ P ∧ X.get (H.next + 1) = some (.cells (zI (opv P ld fun _ => false) P) mo)) ∧ LdI (adj E) part i 0 ld ∧
    F = PF n E B P part wv sv H.next ++ [(66, .fs ((List.range n).map fun i => [.i .i64 (part i : Nat)])), (67, .i .i64 n), (68, .i .i64 i)]
def P2Inv (H : Hp) (n : Nat) (E : List (Nat × Nat)) (B P : Nat) (part : Nat → Nat) (wv sv : V) (i : Nat) (m : Nat) (F : Fr) (X : Hp) : Prop :=
  ∃ j ld, j ≤ (adj E i).length ∧ m = (adj E i).length - j ∧ LL H X H.next P (fun q => nc (ld q)) (fun k => k = H.next + 1) ∧ (∃ mo, mo ≤ P ∧ X.get (H.next + 1) = some (.cells (zI (opv P ld fun _ => false) P) mo)) ∧ LdI (adj E) part i j ld ∧
    F = PF n E B P part wv sv H.next ++ [(13, .i .i64 (part i : Nat)), (66, .fs ((List.range n).map fun i => [.i .i64 (part i : Nat)])), (67, .i .i64 n), (68, .i .i64 i), (76, ns (adj E i)), (77, .i .i64 (adj E i).length), (78, .i .i64 j)]
theorem Parts_ok (n : Nat) (E : List (Nat × Nat)) (hn : n ≤ 20000) (hE : E.length ≤ 1000000) (hb : ∀ e ∈ E, e.1 < n ∧ e.2 < n) (H : Hp) :
    AC Tryz.prog n_tarjan_Parts [.i .i64 (n : Nat), neV E] H (fun v H' => v = ppV (partsS n (warS E n)) ∧ H' = H ∧ ∀ x, x < n → ∃ p ∈ partsS n (warS E n), x ∈ p) := by
  have hG : ∀ x, x < n → ∀ y ∈ adj E x, y < n := fun x _ y hy => (hb _ (mem_adj.1 hy)).2
  have hGl : ∀ x, (adj E x).length ≤ 1000000 := fun x => Nat.le_trans (adj_len E x) hE
  refine AC.codePQ tarjan_Parts.at tarjan_Parts.ok (free_ppV _) fun hlt => ?_
  simp only [tarjan_Parts]
  refine AX.seq (AX.reg ?_)
  simp [tarjan_Parts.r0]
  refine AX.seq (AX.reg ?_)
  simp [tarjan_Parts.r1]
  refine AC.fix (made_ok n E hn hE hb H) ?_
  simp
  refine AX.seq (AX.reg ?_)
  simp [tarjan_Parts.r2]
  refine (run_ok n (adj E) hn hG hGl H hlt).mono ?_
  rintro v H1 ⟨rfl, s, iw, iq, A, Fi⟩
  simp
  obtain ⟨wv, sv, hfz⟩ := A.frz
  have hPn := Fi.le
  generalize s.part = part at *
  generalize s.parts = P at *
  refine AX.wk (Wk.freeze (fun id => H.next ≤ id) (frzF_cons (.refl _) (frzF_cons hfz frzF_nil))) ?_
  have hx2 := Hp.wo_new A.ext hlt
  have hl2 := Hp.wo_lt A.lt (fun id => H.next ≤ id)
  generalize H1.wo (fun id => H.next ≤ id) = H2 at hx2 hl2 ⊢
  refine AX.seq (AX.reg ?_)
  simp [tarjan_Parts.r3, sfV, repl, roomB]
  refine ⟨by omega, ?_⟩
  rw [rep_rng]
  refine AX.seq (AX.seq (AX.reg ?_))
  simp [tarjan_Parts.r4]
  refine AX.pblock (AX.loop (P0Inv H2 n P part (gV n (adj E)) (sfV n (adj E) H.next part P wv sv) (.fs ((List.range n).map fun i => [.i .i64 (part i : Nat)]))) n ⟨_, _, .refl _ _, 0, by omega, by omega, by simpa [memP, nc] using LL.start (.refl H2) hl2 P 0 _ (fun k h => h.elim), by simp [sfV]⟩ ?_)
  · rintro m F X ⟨i, hi, rfl, L, rfl⟩
    simp only [tarjan_Parts.l0]
    refine AX.seq (AX.reg ?_)
    simp [tarjan_Parts.r5]
    refine AX.seq (AX.pcond rfl (fun hc => AX.skip ?_) (fun hc => AX.exit ?_))
    · simp at hc
      have hp := Fi.lt i hc
      have hp1 : part i + 1 ≤ P := hp
      have hml := memP_len i part (part i)
      obtain ⟨vs, mo, q1, q2, q3, k2, X2, e1, e2, e3, L2⟩ := L.app (i := part i) (bytes := 8) (t := .i .i64 (i : Nat)) hl2 hp rfl (by simp [nc, roomB]; omega)
      have hr := take1_rng vs hp
      rw [q2] at e2
      simp
      refine AX.seq (AX.pblock (AX.seq (AX.reg ?_)))
      simp [tarjan_Parts.r6, hc]
      refine AX.reg ?_
      simp [tarjan_Parts.r7, repl, -sAppend, hp, hp1, q1, q2, hr, e1, e2]
      refine AX.reg ?_
      simp [tarjan_Parts.r8, succ_of_lt hc (show n ≤ 9223372036854775807 by omega)]
      refine ⟨n - (i + 1), by omega, _, _, .refl _ _, i + 1, by omega, rfl, ?_, by simp⟩
      rw [memP_succ]
      exact L2
    simp at hc
    have e : i = n := by omega
    rw [e] at L
    clear e hc hi
    simp
    refine AX.wk (Wk.freeze (fun id => H2.next ≤ id) (frzF_cons (.refl _) (frzF_cons (.refl _) (frzF_cons (L.frz.mono fun k h => h.1) frzF_nil)))) ?_
    have hx3 := hx2.trans (Hp.wo_new L.ext hl2)
    have hl3 := Hp.wo_lt L.lt (fun id => H2.next ≤ id)
    generalize X.wo (fun id => H2.next ≤ id) = H3 at hx3 hl3 ⊢
    clear L
    rw [show (V.fs ((List.range P).map fun i => [V.fs ((nc (memP n part i)).map fun t => [t])])) = gV P (memP n part) by simp only [gV, ns, nc, List.map_map]; rfl]
    refine AX.seq (AX.reg ?_)
    simp [tarjan_Parts.r9, sfV, repl, roomB]
    refine ⟨by omega, ?_⟩
    rw [rep_rng]
    refine AX.seq (AX.reg ?_)
    simp [tarjan_Parts.r10, repl, roomB]
    refine ⟨by omega, ?_⟩
    rw [zI_zero]
    have L0 : LL H3 ((H3.add (.cells ((List.range P).map fun _ => V.sl none 0 0) P)).add (.cells (zI (fun _ => 0) P) P)) H3.next P (fun _ => nc []) (fun k => k = H3.next + 1) :=
      (LL.start (.refl H3) hl3 P 0 (fun _ => False) (fun k h => h.elim)).moreK (.add (Hp.add_lt hl3 _) _) (Hp.add_lt (Hp.add_lt hl3 _) _) fun k hk => .inr (by subst hk; simp)
    have g0 : ((H3.add (.cells ((List.range P).map fun _ => V.sl none 0 0) P)).add (.cells (zI (fun _ => 0) P) P)).get (H3.next + 1) = some (.cells (zI (fun _ => 0) P) P) := by simp
    generalize (H3.add (.cells ((List.range P).map fun _ => V.sl none 0 0) P)).add (.cells (zI (fun _ => 0) P) P) = X0 at L0 g0 ⊢
    refine AX.seq (AX.seq (AX.reg ?_))
    simp [tarjan_Parts.r11]
    refine AX.pblock (AX.loop (P1Inv H3 n E H.next P part wv sv) n ⟨_, _, .refl _ _, 0, fun _ => [], by omega, by omega, L0, ⟨P, Nat.le_refl _, ?_⟩, .init _ _, by simp [PF, sfV]⟩ ?_)
    · rw [g0]
      congr 2
      refine zI_congr fun p hp => ?_
      simp only [opv, opn, Bool.false_eq_true, if_false]
      rw [cntB_zero.2 fun x _ => by simp]; rfl
    rintro m F X ⟨i, ld, hi, rfl, L, ⟨mo, po, go⟩, hld, rfl⟩
    simp only [tarjan_Parts.l1, PF]
    refine AX.seq (AX.reg ?_)
    simp [tarjan_Parts.r12]
    refine AX.seq (AX.pcond rfl (fun hc => AX.skip ?_) (fun hc => AX.exit ?_))
    · simp at hc
      have hp := Fi.lt i hc
      have hp1 : part i + 1 ≤ P := hp
      simp
      refine AX.seq (AX.pblock (AX.seq (AX.reg ?_)))
      simp [tarjan_Parts.r13, hc]
      refine AX.seq (AX.reg ?_)
      simp [tarjan_Parts.r14, gV, hc, ns]
      refine AX.pblock (AX.loop (P2Inv H3 n E H.next P part wv sv i) (adj E i).length ⟨_, _, .refl _ _, 0, ld, by omega, by omega, L, ⟨mo, po, go⟩, hld, by simp [PF, gV, sfV, ns]⟩ ?_)
      clear L go hld po mo
      rintro m F X ⟨j, ld, hj, rfl, L, ⟨mo, po, go⟩, hld, rfl⟩
      simp only [tarjan_Parts.l2, PF]
      refine AX.seq (AX.reg ?_)
      simp [tarjan_Parts.r15]
      refine AX.seq (AX.pcond rfl (fun hc2 => AX.skip ?_) (fun hc2 => AX.exit ?_))
      · simp at hc2
        obtain ⟨y, hy⟩ : ∃ y, (adj E i)[j]? = some y := ⟨_, List.getElem?_eq_getElem hc2⟩
        have hgy : (adj E i)[j] = y := (List.getElem?_eq_some_iff.1 hy).2
        have hyn := hG i hc y (List.mem_of_getElem? hy)
        have hq := Fi.lt y hyn
        have hq1 : part y + 1 ≤ P := hq
        have hldl : (ld (part y)).length ≤ P := nodup_len P _ (hld.nd _) fun p hp => by
          obtain ⟨_, x, z, h1, h2, h3⟩ := (hld.mem p _).1 hp
          rw [← h2]
          refine Fi.lt x ?_
          rcases h1 with h1 | h1 <;> omega
        simp
        refine AX.seq (AX.pblock (AX.seq (AX.reg ?_)))
        simp [tarjan_Parts.r16, ns, hc2, hgy]
        refine AX.seq (AX.reg ?_)
        simp [tarjan_Parts.r17, sfV, hyn]
        obtain ⟨vs, mv, q1, q2, q3⟩ := L.rd
        obtain ⟨k3, hsl⟩ := q3 _ hq
        have hr := take1_rng vs hq
        obtain ⟨tb, htb⟩ : ∃ tb, tb = (decide (part y ≠ part i) && !decide (part i ∈ ld (part y))) := ⟨_, rfl⟩
        refine AX.stp [(5, gV n (adj E)), (6, sfV n (adj E) H.next part P wv sv), (7, gV P (memP n part)), (10, .sl (some (H3.next, 0, P)) P 1), (11, .sl (some (H3.next + 1, 0, P)) P 1), (13, .i .i64 (part i : Nat)), (16, .i .i64 (part y : Nat)), (66, .fs ((List.range n).map fun i => [.i .i64 (part i : Nat)])), (67, .i .i64 n), (68, .i .i64 i), (76, ns (adj E i)), (77, .i .i64 (adj E i).length), (78, .i .i64 j), (100, .b tb)] ?_ ?_
        · by_cases hne : part y = part i
          · simp [tarjan_Parts.r18, hne, htb, sfV, ns]
          · simp [tarjan_Parts.r18, hne, q1, q2, hq, hq1, hr]
            refine AC.fix (ConI_ok (ld (part y)) (part i) (vs (part y)) k3 X (by omega) hsl) ?_
            simp [htb, hne, sfV, ns]
        cases hb' : tb with
        | true =>
          rw [hb'] at htb
          simp at htb
          obtain ⟨vs', mo2, r1, r2, r3, k2, X2, e1, e2, e3, L2⟩ := L.app (i := part y) (bytes := 8) (t := .i .i64 (part i : Nat)) hl3 hq rfl (by simp [nc, roomB]; omega)
          have hr' := take1_rng vs' hq
          rw [r2] at e2
          have e4 := (e3 (H3.next + 1) rfl).trans go
          have no := zI_at (opv P ld fun _ => false) hp
          have hsum : opv P ld (fun _ => false) (part i) = (opn P ld (fun _ => false) (part i) : Nat) := by simp [opv]
          have hle : opn P ld (fun _ => false) (part i) ≤ P := cntB_le _ _
          refine AX.pcond (t := true) rfl (fun _ => AX.seq (AX.reg ?_)) (fun h => by simp at h)
          simp [tarjan_Parts.r19, repl, -sAppend, hq, hq1, r1, r2, hr', e1, e2]
          refine AX.reg ?_
          have ewo : Go.IntKind.i64.wrap (opv P ld (fun _ => false) (part i) + 1) = opv P ld (fun _ => false) (part i) + 1 := by rw [hsum]; exact wrap_i64 (by omega) (by omega)
          simp [tarjan_Parts.r20, hp, hp1, e4, po, no, ewo]
          refine AX.reg ?_
          simp [tarjan_Parts.r21, succ_of_lt hc2 (show (adj E i).length ≤ 9223372036854775807 by have := hGl i; omega)]
          rw [zI_set]
          have hne : part i ≠ part y := fun h => htb.1 h.symm
          refine ⟨(adj E i).length - (j + 1), by omega, _, _, .refl _ _, j + 1, _, by omega, rfl, ?_, ⟨P, Nat.le_refl _, ?_⟩, hld.add hy hne htb.2, by simp [PF, sfV, ns]⟩
          · have L3 := L2.other hl3 (k := H3.next + 1) rfl (by omega) (.cells (zI (upd (opv P ld fun _ => false) (part i) (opv P ld (fun _ => false) (part i) + 1)) P) P)
            have hf : (fun q => nc (upd ld (part y) (ld (part y) ++ [part i]) q)) = upd (fun q => nc (ld q)) (part y) (nc (ld (part y)) ++ [.i .i64 (part i : Nat)]) := by
              funext q
              simp only [upd]
              split <;> simp [nc]
            rw [hf]
            exact L3
          · simp only [Hp.get_upd, if_true]
            congr 2
            refine zI_congr fun p hp => ?_
            have := opn_add hq htb.2 p
            simp only [opv, Bool.false_eq_true, if_false, upd]
            rw [this]
            split
            · rename_i e; rw [e]; omega
            · rfl
        | false =>
          rw [hb'] at htb
          refine AX.pcond (t := false) rfl (fun h => by simp at h) (fun _ => AX.skip ?_)
          simp
          refine AX.reg ?_
          simp [tarjan_Parts.r21, succ_of_lt hc2 (show (adj E i).length ≤ 9223372036854775807 by have := hGl i; omega)]
          refine ⟨(adj E i).length - (j + 1), by omega, _, _, .refl _ _, j + 1, ld, by omega, rfl, L, ⟨mo, po, go⟩, hld.same hy ?_, by simp [PF, sfV, ns]⟩
          by_cases hne : part y = part i
          · exact .inl hne.symm
          · simp [hne] at htb; exact .inr htb
      simp at hc2
      have e : j = (adj E i).length := by omega
      rw [e] at hld
      simp
      refine AX.reg ?_
      simp [tarjan_Parts.r22, succ_of_lt hc (show n ≤ 9223372036854775807 by omega)]
      exact ⟨n - (i + 1), by omega, _, _, .refl _ _, i + 1, ld, by omega, rfl, L, ⟨mo, po, go⟩, hld.row, by simp [PF, sfV]⟩
    simp at hc
    have e : i = n := by omega
    rw [e] at hld
    clear e hc hi
    simp
    have hM : ∀ a b, warS E n a b = true ↔ Rch (adj E) a b := fun a b => warS_iff E hb
    refine AX.wk (Wk.freeze (fun k => H3.next ≤ k ∧ ¬ k = H3.next + 1) (frzF_cons (.refl _) (frzF_cons (.refl _) (frzF_cons L.frz (frzF_cons (.refl _) frzF_nil))))) ?_
    have hx4 : H3.Ext (X.wo fun k => H3.next ≤ k ∧ ¬ k = H3.next + 1) := ⟨L.ext.1, fun id blk g => by
      have := hl3 id blk g
      simp only [Hp.wo]; rw [if_neg (by omega)]; exact L.ext.2 id blk g⟩
    have hl4 := Hp.wo_lt L.lt (fun k => H3.next ≤ k ∧ ¬ k = H3.next + 1)
    have go4 : (X.wo fun k => H3.next ≤ k ∧ ¬ k = H3.next + 1).get (H3.next + 1) = some (.cells (zI (opv P ld fun _ => false) P) mo) := by
      simp only [Hp.wo]; rw [if_neg (fun h => h.2 trivial)]; exact go
    generalize (X.wo fun k => H3.next ≤ k ∧ ¬ k = H3.next + 1) = H4 at hx4 hl4 go4 ⊢
    clear L go
    rw [show (V.fs ((List.range P).map fun i => [V.fs ((nc (ld i)).map fun t => [t])])) = gV P ld by simp only [gV, ns, nc, List.map_map]; rfl]
    have ledlt : ∀ p q, Led (adj E) n part p q → p < P ∧ q < P := fun p q ⟨_, x, hx, y, hy, h1, h2⟩ => ⟨h1 ▸ Fi.lt x hx, h2 ▸ Fi.lt y (hG x hx y hy)⟩
    refine AX.seq (AX.reg ?_)
    simp [tarjan_Parts.r23]
    refine AX.seq (AX.seq (AX.reg ?_))
    simp [tarjan_Parts.r24, sfV]
    have hst0 : RdI n E P part 0 fun _ => false := ⟨fun x hx => by simp [rndS], fun p q h => (by cases h), cntB_zero.2 fun x _ => rfl⟩
    refine AX.pblock (AX.loop (R3Inv H3 n E H.next P part ld wv sv) P ⟨_, _, .refl _ _, 0, fun _ => false, none, .sl none 0 0, by omega, by omega, ⟨hx4, hl4, hl4 _ _ go4, ⟨mo, po, go4⟩, ⟨by simp [rndS], 0, rfl⟩, fun k h => (by cases h)⟩, hst0, by simp [RF, sfV]⟩ ?_)
    clear hx4 hl4 go4 hst0 po mo
    rintro m F X ⟨t, st, o, v, ht, rfl, R, D, rfl⟩
    simp only [tarjan_Parts.l3, RF]
    refine AX.seq (AX.reg ?_)
    simp [tarjan_Parts.r25]
    refine AX.seq (AX.pcond rfl (fun hc => AX.skip ?_) (fun hc => AX.exit ?_))
    · simp at hc
      simp
      obtain ⟨mo, po, go⟩ := R.op
      refine AX.seq (AX.pblock (AX.seq (AX.reg ?_)))
      simp [tarjan_Parts.r26]
      refine AX.seq (AX.seq (AX.reg ?_))
      simp [tarjan_Parts.r27, sfV]
      refine AX.pblock (AX.loop (R4Inv H3 n E H.next P part ld wv sv (opv P ld st) t v X) P ⟨_, _, .refl _ _, 0, -1, by omega, by omega, .inl ⟨rfl, fun q h => by omega⟩, rfl, by simp [RF, sfV]⟩ ?_)
      rintro m F Y ⟨p, best, hp, rfl, hbest, rfl, rfl⟩
      simp only [tarjan_Parts.l4, RF]
      refine AX.seq (AX.reg ?_)
      simp [tarjan_Parts.r28]
      refine AX.seq (AX.pcond rfl (fun hc2 => AX.skip ?_) (fun hc2 => AX.exit ?_))
      · simp at hc2
        have hp1 : p + 1 ≤ P := hc2
        have no := zI_at (opv P ld st) hc2
        obtain ⟨a, r, hm, _, _⟩ := Fi.mem_ne hc2
        simp
        refine AX.seq (AX.pblock (AX.seq (AX.reg ?_)))
        simp [tarjan_Parts.r29]
        obtain ⟨tb, htb⟩ : ∃ tb, tb = (decide (opv P ld st p = 0) && (decide (best < 0) || decide (hd0 n part p < hd0 n part best.toNat))) := ⟨_, rfl⟩
        refine AX.testD tb [(6, sfV n (adj E) H.next part P wv sv), (7, gV P (memP n part)), (10, gV P ld), (11, .sl (some (H3.next + 1, 0, P)) P 1), (17, v), (18, .i .i64 best), (19, .i .i64 p), (122, .i .i64 P), (123, .i .i64 t), (128, .i .i64 P), (129, .i .i64 p), (155, .b tb)] ?_ rfl (fun h => AX.reg ?_) (fun h => AX.skip ?_)
        · by_cases h0 : opv P ld st p = 0
          · by_cases hb0 : best < 0
            · simp [tarjan_Parts.r30, hc2, hp1, go, po, no, h0, hb0, htb, sfV]
            · obtain ⟨b, rfl, hbp, hb1, hb2⟩ := hbest.resolve_left (fun h => hb0 (by have := h.1; omega))
              obtain ⟨a', r', hm', _, _⟩ := Fi.mem_ne (show b < P by omega)
              simp [tarjan_Parts.r30, hc2, hp1, go, po, no, h0, htb, sfV, gV, ns, show b < P by omega, hm, hm', hd0]
          · simp [tarjan_Parts.r30, hc2, hp1, go, po, no, h0, htb, sfV]
        · rw [htb] at h
          simp at h
          simp [tarjan_Parts.r31]
          refine AX.reg ?_
          simp [tarjan_Parts.r32, succ_of_lt hc2 (show P ≤ 9223372036854775807 by omega)]
          refine ⟨P - (p + 1), by omega, _, _, .refl _ _, p + 1, p, by omega, rfl, .inr ⟨p, rfl, by omega, h.1, fun q hq h0 => ?_⟩, rfl, by simp [RF, sfV]⟩
          by_cases e : q = p
          · rw [e]; exact Nat.le_refl _
          · rcases hbest with ⟨_, hb2⟩ | ⟨b, rfl, hbp, hb1, hb2⟩
            · exact absurd h0 (hb2 q (by omega))
            · have h1 := hb2 q (by omega) h0
              have h2 : hd0 n part p < hd0 n part b := by
                rcases h.2 with h2 | h2
                · omega
                · simpa using h2
              omega
        · rw [htb] at h
          simp at h
          simp
          refine AX.reg ?_
          simp [tarjan_Parts.r32, succ_of_lt hc2 (show P ≤ 9223372036854775807 by omega)]
          refine ⟨P - (p + 1), by omega, _, _, .refl _ _, p + 1, best, by omega, rfl, ?_, rfl, by simp [RF, sfV]⟩
          rcases hbest with ⟨hb1, hb2⟩ | ⟨b, rfl, hbp, hb1, hb2⟩
          · refine .inl ⟨hb1, fun q hq h0 => ?_⟩
            by_cases e : q = p
            · subst e
              have := (h h0).1
              omega
            · exact hb2 q (by omega) h0
          · refine .inr ⟨b, rfl, by omega, hb1, fun q hq h0 => ?_⟩
            by_cases e : q = p
            · subst e
              have := (h h0).2
              simpa using this
            · exact hb2 q (by omega) h0
      simp at hc2
      have e : p = P := by omega
      rw [e] at hbest
      clear e hc2 hp
      have hled : ∀ {p q}, p ∈ ld q ↔ Led (adj E) n part p q := hld.led
      have hfree : ∃ p, p < P ∧ opv P ld st p = 0 := by
        have hex : ∃ p, p < P ∧ st p = false := by
          refine Classical.byContradiction fun hne => ?_
          have : cntB P st = P := by
            have := (List.countP_eq_length (p := st) (l := List.range P)).2 fun p hp => by
              cases hs : st p with
              | true => rfl
              | false => exact absurd ⟨p, by simpa using hp, hs⟩ hne
            simpa [cntB] using this
          have := D.cnt; omega
        have hmin : ∀ k p, p < k → p < P → st p = false → ∃ p, p < P ∧ opv P ld st p = 0 := by
          intro k
          induction k with
          | zero => intro p h; omega
          | succ k ih =>
            intro p hpk hpP hps
            by_cases h0 : opv P ld st p = 0
            · exact ⟨p, hpP, h0⟩
            · rw [opv_zero] at h0
              have : ∃ q, q < P ∧ p ∈ ld q ∧ st q = false := Classical.byContradiction fun hne => h0 ⟨hps, fun q hq hl => by
                cases hs : st q with
                | true => rfl
                | false => exact absurd ⟨q, hq, hl, hs⟩ hne⟩
              obtain ⟨q, hq, hl, hs⟩ := this
              obtain ⟨hne, x, hx, y, hy, h1, h2⟩ := hled.1 hl
              have := Fi.top x hx y hy
              exact ih q (by omega) hq hs
        obtain ⟨p, h1, h2⟩ := hex
        exact hmin (p + 1) p (by omega) h1 h2
      obtain ⟨b, rfl, hbP, hb0, hb2⟩ := hbest.resolve_left fun h => let ⟨p, h1, h2⟩ := hfree; h.2 p h1 h2
      have hb1 : b + 1 ≤ P := hbP
      obtain ⟨hbs, hbl⟩ := opv_zero.1 hb0
      obtain ⟨a, r, hm, han, hap⟩ := Fi.mem_ne hbP
      have hround : rndS n (warS E n) (t + 1) = rndS n (warS E n) t ++ [memP n part b] := by
        refine Fi.round hM (st := fun p => st p = true) D.ho (fun p q h l => D.cl p q h l) hbP hm (by rw [hbs]; simp) (fun q hl => hbl q (ledlt _ _ hl).2 (hled.2 hl)) fun p hp hps hpl c s hm2 => ?_
        have h1 := hb2 p hp (opv_zero.2 ⟨by simpa using hps, fun q hq hl => hpl q (hled.1 hl)⟩)
        simpa [hd0, hm, hm2] using h1
      have hrl := rndS_len n (warS E n) t
      obtain ⟨v2, X2, o2, e1, gs2, n2, l2, fr2, ho⟩ := R.out.push (bytes := 24) R.lt (fun e he => by obtain ⟨x, _, rfl⟩ := List.mem_map.1 he; rfl) (by omega) (e := [ns (memP n part b)]) rfl rfl (by simp [roomB]; omega)
      have ho2 : H3.next + 1 < o2 := by
        rcases ho with h | h
        · exact R.o _ h
        · have := R.nx; omega
      have go2 := fr2 (H3.next + 1) _ (fun h => by have := R.o _ h; omega) go
      have no := zI_at (opv P ld st) hbP
      simp
      refine AX.seq (AX.reg ?_)
      have e1' : sAppend Y 1 24 v (.fs [[.fs ((memP n part b).map fun n => [.i .i64 (n : Nat)])]]) = some (v2, X2) := e1
      simp [tarjan_Parts.r33, gV, hbP, repl, -sAppend, ns, e1']
      refine AX.seq (AX.reg ?_)
      simp [tarjan_Parts.r34, hbP, hb1, go2, po]
      rw [zI_set]
      have go3 : (X2.upd (H3.next + 1) (.cells (zI (upd (opv P ld st) b (-1)) P) P)).get (H3.next + 1) = some (.cells (zI (upd (opv P ld st) b (-1)) P) P) := by simp
      have R5 : RHp H3 (X2.upd (H3.next + 1) (.cells (zI (upd (opv P ld st) b (-1)) P) P)) n E P (t + 1) (fun p => if p = b then -1 else opv P ld st p - (if p ∈ (ld b).take 0 then 1 else 0)) (some o2) v2 := by
        refine ⟨⟨by have := R.ext.1; simp; omega, fun k blk g => ?_⟩, Hp.upd_lt l2 (by have := R.nx; omega) _, by have := R.nx; simp; omega, ⟨P, Nat.le_refl _, ?_⟩, ?_, fun k hk => by injection hk with hk; omega⟩
        · have := hl3 k blk g
          simp only [Hp.get_upd]; rw [if_neg (by omega)]
          exact fr2 k blk (fun h => by have := R.o _ h; omega) (R.ext.2 k blk g)
        · rw [go3]
          congr 2
          refine zI_congr fun p hp => ?_
          simp only [upd, List.take_zero, List.not_mem_nil, if_false]
          split
          · rfl
          · omega
        · have hmap : (rndS n (warS E n) (t + 1)).map (fun p => [ns p]) = (rndS n (warS E n) t).map (fun p => [ns p]) ++ [[ns (memP n part b)]] := by rw [hround]; simp
          rw [hmap]
          refine gs2.keep fun k blk hk g => ?_
          injection hk with hk
          simp only [Hp.get_upd]; rw [if_neg (by omega)]; exact g
      generalize X2.upd (H3.next + 1) _ = X5 at R5 ⊢
      refine AX.seq (AX.reg ?_)
      simp [tarjan_Parts.r35, gV, hbP, ns]
      have hnot : ∀ p, p ∈ ld b → p < P ∧ st p = false := fun p hl => by
        have := ledlt _ _ (hled.1 hl)
        refine ⟨this.1, ?_⟩
        cases hs : st p with
        | false => rfl
        | true => have := D.cl p b hs (hled.1 hl); rw [hbs] at this; cases this
      refine AX.pblock (AX.loop (R5Inv H3 n E H.next P part ld wv sv (opv P ld st) b t (some o2) v2) (ld b).length ⟨_, _, .refl _ _, 0, by omega, by omega, R5, by simp [RF, sfV, gV, ns]⟩ ?_)
      clear R5 go2 gs2 go3
      rintro m F Z ⟨i, hi, rfl, R6, rfl⟩
      obtain ⟨m6, p6, g6⟩ := R6.op
      simp only [tarjan_Parts.l5, RF]
      refine AX.seq (AX.reg ?_)
      simp [tarjan_Parts.r36]
      refine AX.seq (AX.pcond rfl (fun hc3 => AX.skip ?_) (fun hc3 => AX.exit ?_))
      · simp at hc3
        obtain ⟨y, hy⟩ : ∃ y, (ld b)[i]? = some y := ⟨_, List.getElem?_eq_getElem hc3⟩
        have hgy : (ld b)[i] = y := (List.getElem?_eq_some_iff.1 hy).2
        obtain ⟨hyP, hys⟩ := hnot y (List.mem_of_getElem? hy)
        have hyP1 : y + 1 ≤ P := hyP
        simp
        refine AX.seq (AX.pblock (AX.seq (AX.reg ?_)))
        simp [tarjan_Parts.r37, ns, hc3, hgy]
        refine AX.reg ?_
        have hyb : y ≠ b := (hled.1 (List.mem_of_getElem? hy)).1
        have hyt : y ∉ (ld b).take i := fun h => by
          have hnd := hld.nd b
          rw [← List.take_append_drop i (ld b), List.nodup_append] at hnd
          refine hnd.2.2 y h y ?_ rfl
          rw [List.drop_eq_getElem_cons hc3, hgy]; simp
        have hoy : opv P ld st y = (opn P ld st y : Nat) := by simp [opv, hys]
        have hole : opn P ld st y ≤ P := cntB_le _ _
        have nz := zI_at (fun p => if p = b then -1 else opv P ld st p - (if p ∈ (ld b).take i then 1 else 0)) hyP
        simp only [if_neg hyb, if_neg hyt, hoy, Int.sub_zero] at nz
        have ewz : Go.IntKind.i64.wrap (((opn P ld st y : Nat) : Int) - 1) = (opn P ld st y : Nat) - 1 := wrap_i64 (by omega) (by omega)
        simp [tarjan_Parts.r38, hyP, hyP1, g6, p6, nz, ewz]
        rw [zI_set]
        refine AX.reg ?_
        have hbl' : (ld b).length ≤ P := nodup_len P _ (hld.nd b) fun p hp => (hnot p hp).1
        simp [tarjan_Parts.r39, succ_of_lt hc3 (show (ld b).length ≤ 9223372036854775807 by omega)]
        refine ⟨(ld b).length - (i + 1), by omega, _, _, .refl _ _, i + 1, by omega, rfl, ⟨⟨by have := R6.ext.1; simp; omega, fun k blk g => ?_⟩, Hp.upd_lt R6.lt (by have := R6.nx; omega) _, by have := R6.nx; simp; omega, ⟨P, Nat.le_refl _, ?_⟩, ?_, R6.o⟩, by simp [RF, sfV, gV, ns]⟩
        · have := hl3 k blk g
          simp only [Hp.get_upd]; rw [if_neg (by omega)]
          exact R6.ext.2 k blk g
        · simp only [Hp.get_upd, if_true]
          congr 2
          refine zI_congr fun p hp => ?_
          simp only [upd, take_mem hy]
          by_cases e : p = y
          · subst e; simp [hyb, hoy]
          · simp [e]
        · exact R6.out.keep fun k blk hk g => by
            have := R6.o k hk
            simp only [Hp.get_upd]; rw [if_neg (by omega)]; exact g
      simp at hc3
      have e : i = (ld b).length := by omega
      rw [e, List.take_length] at R6
      clear e hc3 hi
      simp
      refine AX.reg ?_
      simp [tarjan_Parts.r40, succ_of_lt hc (show P ≤ 9223372036854775807 by omega)]
      have hself : b ∉ ld b := fun h => (hled.1 h).1 rfl
      have hstand := opv_stand hbP hbs (fun p q h l => D.cl p q h (hled.1 l)) hself
      have hfun : (fun p => if p = b then -1 else opv P ld st p - (if p ∈ ld b then 1 else 0)) = opv P ld (upd st b true) := funext fun p => (hstand p).symm
      rw [hfun] at R6
      refine ⟨P - (t + 1), by omega, _, _, .refl _ _, t + 1, upd st b true, _, v2, by omega, rfl, R6, ⟨fun x hx => ?_, fun p q h l => ?_, ?_⟩, by simp [RF, sfV]⟩
      · rw [hround]
        by_cases e : part x = b
        · rw [e, upd_same]
          exact ⟨fun _ => rfl, fun _ => ⟨memP n part b, by simp, mem_memP.2 ⟨hx, e⟩⟩⟩
        · rw [upd_ne _ _ e, ← D.ho x hx]
          constructor
          · rintro ⟨p, hp, hxp⟩
            rcases List.mem_append.1 hp with hp | hp
            · exact ⟨p, hp, hxp⟩
            · simp at hp; subst hp; exact absurd (mem_memP.1 hxp).2 e
          · rintro ⟨p, hp, hxp⟩; exact ⟨p, by simp [hp], hxp⟩
      · by_cases e : q = b
        · rw [e, upd_same]
        · rw [upd_ne _ _ e]
          by_cases e2 : p = b
          · subst e2; exact hbl q (ledlt _ _ l).2 (hled.2 l)
          · rw [upd_ne _ _ e2] at h; exact D.cl p q h l
      · rw [cntB_set hbs (upd_same st b true) (fun x hx => upd_ne _ _ hx) P hbP, D.cnt]
    simp at hc
    have e : t = P := by omega
    rw [e] at D R
    have hall := cntB_full D.cnt
    have hcov : ∀ x, x < n → ∃ p ∈ rndS n (warS E n) P, x ∈ p := fun x hx => (D.ho x hx).2 (hall _ (Fi.lt x hx))
    have hfin : partsS n (warS E n) = rndS n (warS E n) P := by
      have := rndS_full hcov (n - P)
      rwa [show P + (n - P) = n by omega] at this
    simp
    refine AX.seq (AX.reg ?_)
    simp [tarjan_Parts.r41]
    refine AX.ret ?_
    simp
    rw [hfin]
    refine ⟨⟨hx3.trans R.ext, ?_⟩, hcov⟩
    have := R.out.frz (fun e he => by obtain ⟨x, _, rfl⟩ := List.mem_map.1 he; rfl) (fun id => H.next ≤ id) (fun k hk => by have := R.o k hk; have := hx3.1; omega)
    exact this
end Go.Proofs.YtggjaoibcfgofaaGreatDoor
namespace Go.Proofs.YtggjaoibcfgofaaGreatDoor
open Am C
set_option linter.unusedSimpArgs false
set_option linter.unusedVariables false
def edV (l : List (Str × Str)) : V := .fs (l.map fun e => [.s e.1, .s e.2])
def flatE (l : List (Str × Str)) : List Str := l.flatMap fun e => [e.1, e.2]
def namesS (l : List (Str × Str)) (more : List Str) : List Str := sortedS (more ++ flatE l)
def numE (all : List Str) (l : List (Str × Str)) : List (Nat × Nat) := l.map fun e => (posS all e.1, posS all e.2)
theorem flatE_snoc (l : List (Str × Str)) (e : Str × Str) : flatE (l ++ [e]) = flatE l ++ [e.1, e.2] := by simp [flatE]
theorem flatE_len (l : List (Str × Str)) : (flatE l).length = 2 * l.length := by
  induction l with
  | nil => rfl
  | cons e r ih => simp [flatE] at ih ⊢; omega
theorem take_snoc {α : Type} {l : List α} {i : Nat} (h : i < l.length) : l.take (i + 1) = l.take i ++ [l[i]] := by rw [List.take_add_one, List.getElem?_eq_getElem h]; rfl
def Nm0Inv (l : List (Str × Str)) (more : List Str) (H : Hp) (m : Nat) (F : Fr) (X : Hp) : Prop :=
  ∃ i v, i ≤ l.length ∧ m = l.length - i ∧ Am.Acc H 1 v X (sc (more ++ flatE (l.take i))) ∧ F = [(0, edV l), (6, v), (18, edV l), (19, .i .i64 l.length), (20, .i .i64 i)]
def neC (E : List (Nat × Nat)) : List (List V) := E.map fun e => [.i .i64 (e.1 : Nat), .i .i64 (e.2 : Nat)]
def Nm1Inv (l : List (Str × Str)) (all : List Str) (H : Hp) (m : Nat) (F : Fr) (X : Hp) : Prop :=
  ∃ i v, i ≤ l.length ∧ m = l.length - i ∧ Am.Acc H 2 v X (neC (numE all (l.take i))) ∧ F = [(6, ss all), (9, v), (34, edV l), (35, .i .i64 l.length), (36, .i .i64 i)]
theorem numbered_ok (l : List (Str × Str)) (more : List Str) (hl : l.length ≤ 100000) (hm : more.length ≤ 100000) (H : Hp) :
    AC Tryz.prog n_query_numbered [edV l, ss more] H (fun v H' => v = .tup [neV (numE (namesS l more) l), ss (namesS l more)] ∧ H' = H) := by
  refine AC.codeP query_numbered.at query_numbered.ok (by simp) fun hlt => ?_
  simp only [query_numbered]
  refine AX.seq (AX.reg ?_)
  simp [query_numbered.r0]
  refine AX.seq (AX.reg ?_)
  simp [query_numbered.r1]
  refine (CloneS_acc more (by omega) H).mono ?_
  rintro v X0 A0
  simp
  refine AX.seq (AX.seq (AX.reg ?_))
  simp [query_numbered.r2, edV]
  refine AX.pblock (AX.loop (Nm0Inv l more H) l.length ⟨_, _, .refl _ _, 0, v, by omega, by omega, by simpa [flatE] using A0, by simp [edV]⟩ ?_)
  rintro m F X ⟨i, v, hi, rfl, A, rfl⟩
  simp only [query_numbered.l0]
  refine AX.seq (AX.reg ?_)
  simp [query_numbered.r3]
  refine AX.seq (AX.pcond rfl (fun hc => AX.skip ?_) (fun hc => AX.exit ?_))
  · simp at hc
    have hfl := flatE_len (l.take i)
    simp at hfl
    have A' : Am.Acc H 1 v ((X.add (.cells [.s [], .s []] 2)).upd X.next (.cells [.s l[i].1, .s l[i].2] 2)) (sc (more ++ flatE (l.take i))) :=
      A.more ((Hp.Ext.add A.lt _).upd A.lt (Nat.le_refl _) _) (Hp.upd_lt (Hp.add_lt A.lt _) (by simp) _)
    have hYe : ((X.add (.cells [.s [], .s []] 2)).upd X.next (.cells [.s l[i].1, .s l[i].2] 2)).get X.next = some (.cells [.s l[i].1, .s l[i].2] 2) := by simp
    simp
    refine AX.seq (AX.pblock (AX.seq (AX.reg ?_)))
    simp [query_numbered.r4, edV, hc]
    generalize (X.add (.cells [.s [], .s []] 2)).upd X.next _ = Y at A' hYe ⊢
    obtain ⟨v1, H1, e1, A1⟩ := A'.app (bytes := 16) (ys := [[.s l[i].1], [.s l[i].2]]) hlt (by simp) (by omega) rfl (by simp [roomB, sc]; omega)
    refine AX.reg ?_
    have r2 : List.range 2 = [0, 1] := rfl
    simp [query_numbered.r5, repl, -sAppend, hYe, r2, e1]
    refine AX.reg ?_
    simp [query_numbered.r6, succ_of_lt hc (show l.length ≤ 9223372036854775807 by omega)]
    refine ⟨l.length - (i + 1), by omega, _, _, .refl _ _, i + 1, v1, by omega, rfl, ?_, by simp [edV]⟩
    rw [take_snoc hc, flatE_snoc]
    simpa [sc] using A1
  simp at hc
  have e : i = l.length := by omega
  rw [e, List.take_length] at A
  clear e hc hi A0
  simp
  refine AX.wk (Wk.freeze (fun id => H.next ≤ id) (frzF_cons (.refl _) (frzF_cons A.frz frzF_nil))) ?_
  have hx2 := Hp.wo_new A.ext hlt
  have hl2 := Hp.wo_lt A.lt (fun id => H.next ≤ id)
  generalize X.wo (fun id => H.next ≤ id) = H2 at hx2 hl2 ⊢
  have hfl := flatE_len l
  rw [show V.fs (sc (more ++ flatE l)) = ss (more ++ flatE l) from rfl]
  refine AX.seq (AX.reg ?_)
  simp [query_numbered.r7]
  refine AC.fix (ISorted_ok (more ++ flatE l) (by simp; omega) _) ?_
  simp
  have hri : Rising (namesS l more) := sortedS_rising _
  have hal : (namesS l more).length ≤ 1000000 := by
    have := sortedS_len (more ++ flatE l)
    simp at this; unfold namesS; omega
  rw [show sortedS (more ++ flatE l) = namesS l more from rfl]
  generalize namesS l more = all at hri hal ⊢
  refine AX.seq (AX.reg ?_)
  simp [query_numbered.r8]
  refine AX.seq (AX.seq (AX.reg ?_))
  simp [query_numbered.r9, edV]
  refine AX.pblock (AX.loop (Nm1Inv l all H2) l.length ⟨_, _, .refl _ _, 0, .sl none 0 0, by omega, by omega, by simpa [neC, numE] using Am.Acc.nil 2 0 (.refl _) hl2, by simp [edV]⟩ ?_)
  rintro m F X ⟨i, v, hi, rfl, A, rfl⟩
  simp only [query_numbered.l1]
  refine AX.seq (AX.reg ?_)
  simp [query_numbered.r10]
  refine AX.seq (AX.pcond rfl (fun hc => AX.skip ?_) (fun hc => AX.exit ?_))
  · simp at hc
    have A' : Am.Acc H2 2 v ((X.add (.cells [.s [], .s []] 2)).upd X.next (.cells [.s l[i].1, .s l[i].2] 2)) (neC (numE all (l.take i))) :=
      A.more ((Hp.Ext.add A.lt _).upd A.lt (Nat.le_refl _) _) (Hp.upd_lt (Hp.add_lt A.lt _) (by simp) _)
    have hYe : ((X.add (.cells [.s [], .s []] 2)).upd X.next (.cells [.s l[i].1, .s l[i].2] 2)).get X.next = some (.cells [.s l[i].1, .s l[i].2] 2) := by simp
    simp
    refine AX.seq (AX.pblock (AX.seq (AX.reg ?_)))
    simp [query_numbered.r11, edV, hc]
    generalize (X.add (.cells [.s [], .s []] 2)).upd X.next _ = Y at A' hYe ⊢
    obtain ⟨v1, H1, e1, A1⟩ := A'.app (bytes := 16) (ys := [[.i .i64 (posS all l[i].1 : Nat), .i .i64 (posS all l[i].2 : Nat)]]) hl2 (by simp) (by omega) rfl (by simp [roomB, neC, numE]; omega)
    refine AX.seq (AX.reg ?_)
    simp [query_numbered.r12, hYe]
    refine AC.fix (BinS_ok all l[i].1 hri (by omega) _) ?_
    simp
    refine AX.seq (AX.reg ?_)
    simp [query_numbered.r13, hYe]
    refine AC.fix (BinS_ok all l[i].2 hri (by omega) _) ?_
    simp
    refine AX.reg ?_
    simp [query_numbered.r14, repl, -sAppend, e1]
    refine AX.reg ?_
    simp [query_numbered.r15, succ_of_lt hc (show l.length ≤ 9223372036854775807 by omega)]
    refine ⟨l.length - (i + 1), by omega, _, _, .refl _ _, i + 1, v1, by omega, rfl, ?_, by simp [edV]⟩
    rw [take_snoc hc, show neC (numE all (l.take i ++ [l[i]])) = neC (numE all (l.take i)) ++ [[.i .i64 (posS all l[i].1 : Nat), .i .i64 (posS all l[i].2 : Nat)]] by simp only [neC, numE, List.map_append]; rfl]
    exact A1
  simp at hc
  have e : i = l.length := by omega
  rw [e, List.take_length] at A
  simp
  refine AX.seq (AX.reg ?_)
  simp [query_numbered.r16]
  refine AX.ret ?_
  simp
  exact ⟨hx2.trans A.ext, Am.Frz.tup2 (A.frz.mono fun k h => by have := hx2.1; omega) (.refl _)⟩
end Go.Proofs.YtggjaoibcfgofaaGreatDoor
