/- Part 29 of the proof of the laws of the queries: QCut, QLeads, QOrd, NamM, QROrd. -/
import Derived.Test.YtggjaoibcfgofaaGreatDoorW28
namespace Go.Proofs.YtggjaoibcfgofaaGreatDoor
open Am C
set_option linter.unusedSimpArgs false
set_option linter.unusedVariables false
section
open Go Go.RowKit
theorem Am.Wk.cut {F F' : Fr} {H : Hp} {id L len sz m e : Nat} {cs : List V} (hg : H.get id = some (.cells cs m)) (hm : m ≤ L) (hL : L ≤ cs.length) (he : len * sz = e) (heL : e ≤ L)
    (hF : ∀ u, fget F' u = fget F u ∨ (fget F u = .sl (some (id, 0, L)) len sz ∧ fget F' u = .sl (some (H.next, 0, e)) len sz)) : Wk F H F' ((H.del id).add (.cells (cs.take e) e)) := by
  intro κ tmps S r
  obtain ⟨⟨arr, t, fr, hb, hs, hv, hf⟩, hz⟩ := S.cells id cs m hg L hm hL
  have S1 := S.weak (Am.Hp.del_sub H id)
  have hdl : (cs.take e).length = e := by simp; omega
  obtain ⟨κ', e1, le, S3, e2, e3⟩ := Sim.adopt S1 (b := (κ.pl id L).1) (o := (κ.pl id L).2) (ds := cs.take e) hb (by rw [hdl]; omega) (fun j v hj => by
    rw [List.getElem?_take] at hj
    split at hj
    · exact hv j v (by omega) hj
    · cases hj) hf hz (fun k cs' m' e' hk h1 h2 hp => by
    by_cases hki : k = id
    · subst hki; simp [Hp.del] at hk
    · have hk' : H.get k = some (.cells cs' m') := by simpa [Hp.del, hki] using hk
      exact hki (S.sep k id e' L cs' m' cs m hk' hg h1 h2 hm hL hp))
  rw [hdl] at S3 e2 e3
  have hn : (H.del id).next = H.next := rfl
  rw [hn] at e2 e3
  refine ⟨κ', e1, le, S3, fun u => ?_⟩
  rcases hF u with h | ⟨h1, h2⟩
  · rw [h]; exact (r u).mono le
  · have hr := r u
    rw [h1] at hr
    rw [h2]
    generalize tmps.getD u undef = c at hr
    cases hr with
    | sl _ _ _ _ _ cap n a o z l x y hnc hro ha =>
      refine .sl H.next 0 e len sz cap n a e3 z l (by omega) (by omega) ?_ ?_ ?_
      · rw [e2, e1]; exact hnc
      · rw [e2]; exact hro
      · rw [e2]; exact ha
end
theorem cutF_nil {v v' : V} : ∀ u, fget [] u = fget [] u ∨ (fget [] u = v ∧ fget [] u = v') := fun u => .inl rfl
theorem cutF_cons {v v' a a' : V} {k : Nat} {F F' : Fr} (h : a' = a ∨ (a = v ∧ a' = v')) (hs : ∀ u, fget F' u = fget F u ∨ (fget F u = v ∧ fget F' u = v')) : ∀ u, fget ((k, a') :: F') u = fget ((k, a) :: F) u ∨ (fget ((k, a) :: F) u = v ∧ fget ((k, a') :: F') u = v') := fun u => by
  simp only [fget]; split
  · exact h
  · exact hs u
end Go.Proofs.YtggjaoibcfgofaaGreatDoor
namespace Go.Proofs.YtggjaoibcfgofaaGreatDoor
open Am C
set_option linter.unusedSimpArgs false
set_option linter.unusedVariables false
def TdAt (X : Hp) (v : V) (o : Option Nat) (td : List Nat) : Prop := match o with
  | none => td = [] ∧ ∃ z, v = .sl none 0 z
  | some id => ∃ m, v = .sl (some (id, 0, td.length)) td.length 1 ∧ X.get id = some (.cells (nc td) m) ∧ m ≤ td.length
theorem TdAt.keep {X Y : Hp} {v : V} {o : Option Nat} {td : List Nat} (h : TdAt X v o td) (hk : ∀ k blk, o = some k → X.get k = some blk → Y.get k = some blk) : TdAt Y v o td := by
  cases o with
  | none => exact h
  | some id => obtain ⟨m, a, b, c⟩ := h; exact ⟨m, a, hk id _ rfl b, c⟩
theorem TdAt.len {X : Hp} {v : V} {o : Option Nat} {td : List Nat} (h : TdAt X v o td) : ∃ p e, v = .sl p td.length e := by
  cases o with
  | none => obtain ⟨rfl, z, rfl⟩ := h; exact ⟨none, z, rfl⟩
  | some id => obtain ⟨m, rfl, _⟩ := h; exact ⟨_, 1, rfl⟩
@[simp] theorem nc_len (l : List Nat) : (nc l).length = l.length := by simp [nc]
theorem TdAt.app {X : Hp} {v : V} {o : Option Nat} {td : List Nat} (h : TdAt X v o td) (hl : ∀ k blk, X.get k = some blk → k < X.next) (ys : List Nat) (hb : (td.length + ys.length) * 8 ≤ roomB) :
    ∃ v2 X2 o2, sAppend X 1 8 v (ns ys) = some (v2, X2) ∧ TdAt X2 v2 o2 (td ++ ys) ∧ X.next ≤ X2.next ∧ (∀ k blk, X2.get k = some blk → k < X2.next) ∧ (∀ k blk, o ≠ some k → X.get k = some blk → X2.get k = some blk) ∧ (o2 = o ∨ o2 = some X.next) := by
  have hx : slCells X 1 (ns ys) = some (ys.length, nc ys) := by
    simp only [slCells, ns]
    rw [if_pos ⟨by omega, by rw [List.all_eq_true]; intro e he; obtain ⟨x, _, rfl⟩ := List.mem_map.1 he; rfl⟩]
    simp [nc]
    induction ys with
    | nil => rfl
    | cons a r ih => simp at hb ih ⊢; exact ih (by omega)
  have hcl : (nc ys).all isCell = true := by rw [List.all_eq_true]; intro e he; obtain ⟨x, _, rfl⟩ := List.mem_map.1 he; rfl
  have hnc : ∀ a b, nc (a ++ b) = nc a ++ nc b := fun a b => by simp [nc]
  cases o with
  | none =>
    obtain ⟨rfl, z, rfl⟩ := h
    by_cases h0 : ys.length = 0
    · have : ys = [] := List.length_eq_zero_iff.1 h0
      subst this
      exact ⟨.sl none 0 1, X, none, by simp only [sAppend, hx]; rfl, ⟨rfl, 1, rfl⟩, Nat.le_refl _, hl, fun k blk _ g => g, .inl rfl⟩
    · refine ⟨_, _, some X.next, by simp only [sAppend, hx]; rw [if_neg h0, if_pos (by simpa using hb)], ⟨ys.length, by simp, by simp, by simp⟩, by simp, Hp.add_lt hl _, fun k blk _ g => ?_, .inr rfl⟩
      have := hl k blk g
      simp [show k ≠ X.next by omega, g]
  | some id =>
    obtain ⟨m, rfl, hg, hm⟩ := h
    have hid := hl _ _ hg
    by_cases h0 : ys.length = 0
    · have : ys = [] := List.length_eq_zero_iff.1 h0
      subst this
      refine ⟨_, X, some id, by simp only [sAppend, hx, hg]; rw [if_pos ⟨trivial, by simp, by simpa using hb, hcl⟩, if_pos h0], ⟨m, by simp, by simpa using hg, by simpa using hm⟩, Nat.le_refl _, hl, fun k blk _ g => g, .inl rfl⟩
    · refine ⟨_, _, some id, by simp only [sAppend, hx, hg]; rw [if_pos ⟨trivial, by simp, hb, hcl⟩, if_neg h0, if_pos ⟨trivial, by simp⟩], ⟨m, by simp, by simp [hnc], by simp; omega⟩, by simp, Hp.upd_lt hl hid _, fun k blk hk g => ?_, .inl rfl⟩
      have : k ≠ id := fun e => hk (by rw [e])
      simp [this, g]
structure LHp (H X : Hp) (n : Nat) (T : Nat → Bool) (o : Option Nat) (v : V) (td : List Nat) : Prop where
  ext : H.Ext X
  lt : ∀ k blk, X.get k = some blk → k < X.next
  nx : H.next < X.next
  th : ∃ m, m ≤ n ∧ X.get H.next = some (.cells (bI T n) m)
  td : TdAt X v o td
  o : ∀ k, o = some k → H.next < k
structure LdsI (G : Nat → List Nat) (n : Nat) (fr : List Nat) (T : Nat → Bool) (td : List Nat) : Prop where
  s1 : ∀ x, T x = true → ∃ s ∈ fr, Rch G s x
  s2 : ∀ x ∈ td, x < n ∧ ∃ s ∈ fr, Rch G s x
  st : ∀ s ∈ fr, T s = true ∨ s ∈ td
  cl : ∀ x, T x = true → ∀ y ∈ G x, T y = true ∨ y ∈ td
  len : td.length ≤ fr.length + 1000000 * cntB n T
def Le0Inv (H : Hp) (n : Nat) (g : V) (fr : List Nat) (m : Nat) (F : Fr) (X : Hp) : Prop :=
  ∃ i o v, i ≤ fr.length ∧ m = fr.length - i ∧ LHp H X n (fun _ => false) o v (fr.take i) ∧ F = [(7, g), (8, .sl (some (H.next, 0, n)) n 1), (9, v), (10, .sl none 0 0), (22, ns fr), (23, .i .i64 fr.length), (24, .i .i64 i)]
def Le1Inv (H : Hp) (n : Nat) (G : Nat → List Nat) (fr : List Nat) (m : Nat) (F : Fr) (X : Hp) : Prop :=
  ∃ T td o v, m = (n - cntB n T) * 1000001 + td.length ∧ LHp H X n T o v td ∧ LdsI G n fr T td ∧ F = [(7, gV n G), (8, .sl (some (H.next, 0, n)) n 1), (9, v), (10, .sl none 0 0)]
def Le2Inv (X : Hp) (n id : Nat) (T : Nat → Bool) (m : Nat) (F : Fr) (Y : Hp) : Prop :=
  ∃ i v, i ≤ n ∧ m = n - i ∧ Am.Acc X 1 v Y (wE ((List.range i).filter T)) ∧ F = [(10, v), (69, .sl (some (id, 0, n)) n 1), (70, .i .i64 n), (71, .i .i64 i)]
def leadsS (n : Nat) (M : Nat → Nat → Bool) (fr : List Nat) : List Nat := (List.range n).filter fun j => fr.any fun s => M s j
theorem Leads_ok (n : Nat) (E : List (Nat × Nat)) (fr : List Nat) (hn : n ≤ 20000) (hE : E.length ≤ 1000000) (hb : ∀ e ∈ E, e.1 < n ∧ e.2 < n) (hf : fr.length ≤ 1000000) (hfn : ∀ s ∈ fr, s < n) (H : Hp) :
    AC Tryz.prog n_tarjan_Leads [.i .i64 (n : Nat), neV E, ns fr] H (fun v H' => v = ns (leadsS n (warS E n) fr) ∧ H' = H) := by
  have hG : ∀ x, x < n → ∀ y ∈ adj E x, y < n := fun x _ y hy => (hb _ (mem_adj.1 hy)).2
  have hGl : ∀ x, (adj E x).length ≤ 1000000 := fun x => Nat.le_trans (adj_len E x) hE
  have hM : ∀ a b, warS E n a b = true ↔ Rch (adj E) a b := fun a b => warS_iff E hb
  refine AC.codeP tarjan_Leads.at tarjan_Leads.ok (free_ns _) fun hlt => ?_
  simp only [tarjan_Leads]
  refine AX.seq (AX.reg ?_)
  simp [tarjan_Leads.r0]
  refine AX.seq (AX.reg ?_)
  simp [tarjan_Leads.r1]
  refine AC.fix (made_ok n E hn hE hb H) ?_
  simp
  generalize adj E = G at *
  refine AX.seq (AX.reg ?_)
  simp [tarjan_Leads.r2, gV, repl, roomB]
  refine ⟨by omega, ?_⟩
  rw [bI_false]
  have R0 : LHp H (H.add (.cells (bI (fun _ => false) n) n)) n (fun _ => false) none (.sl none 0 0) (fr.take 0) := ⟨.add hlt _, Hp.add_lt hlt _, by simp, ⟨n, Nat.le_refl _, by simp⟩, ⟨by simp, 0, rfl⟩, fun k hk => (by cases hk)⟩
  generalize H.add _ = X0 at R0 ⊢
  refine AX.seq (AX.reg ?_)
  simp [tarjan_Leads.r3]
  refine AX.seq (AX.seq (AX.reg ?_))
  simp [tarjan_Leads.r4, ns]
  refine AX.pblock (AX.loop (Le0Inv H n (gV n G) fr) fr.length ⟨_, _, .refl _ _, 0, none, _, by omega, by omega, R0, by simp [gV, ns]⟩ ?_)
  clear R0
  rintro m F X ⟨i, o, v, hi, rfl, R, rfl⟩
  simp only [tarjan_Leads.l0]
  refine AX.seq (AX.reg ?_)
  simp [tarjan_Leads.r5]
  refine AX.seq (AX.pcond rfl (fun hc => AX.skip ?_) (fun hc => AX.exit ?_))
  · simp at hc
    have hfi := hfn _ (List.getElem_mem hc)
    simp
    refine AX.seq (AX.pblock (AX.seq (AX.reg ?_)))
    simp [tarjan_Leads.r6, ns, hc]
    obtain ⟨v2, X2, o2, e1, g2, n2, l2, fr2, ho⟩ := R.td.app R.lt [fr[i]] (by simp [roomB]; omega)
    have e1' : sAppend X 1 8 v (.fs [[.i .i64 (fr[i] : Nat)]]) = some (v2, X2) := e1
    refine AX.stp [(7, gV n G), (8, .sl (some (H.next, 0, n)) n 1), (9, v), (10, .sl none 0 0), (12, .i .i64 (fr[i] : Nat)), (22, ns fr), (23, .i .i64 fr.length), (24, .i .i64 i), (35, .b true)] ?_ ?_
    · simp [tarjan_Leads.r7, gV, hfi, ns]
    refine AX.pcond (t := true) rfl (fun _ => AX.reg ?_) (fun h => by simp at h)
    simp [tarjan_Leads.r8, repl, -sAppend, e1']
    refine AX.reg ?_
    simp [tarjan_Leads.r9, succ_of_lt hc (show fr.length ≤ 9223372036854775807 by omega)]
    refine ⟨fr.length - (i + 1), by omega, _, _, .refl _ _, i + 1, o2, v2, by omega, rfl, ⟨⟨by have := R.ext.1; omega, fun k blk g => fr2 k blk (fun h => by have := R.o _ h; have := hlt k blk g; omega) (R.ext.2 k blk g)⟩, l2, by have := R.nx; omega, R.th.imp fun m h => ⟨h.1, fr2 _ _ (fun h => by have := R.o _ h; omega) h.2⟩, by rw [take_snoc hc]; exact g2, fun k hk => ?_⟩, by simp [gV, ns]⟩
    rcases ho with h | h
    · exact R.o k (h ▸ hk)
    · rw [h] at hk; injection hk with hk; have := R.nx; omega
  simp at hc
  have e : i = fr.length := by omega
  rw [e, List.take_length] at R
  clear e hc hi
  simp
  have D0 : LdsI G n fr (fun _ => false) fr := ⟨fun x h => (by cases h), fun x hx => ⟨hfn x hx, x, hx, .refl _⟩, fun s hs => .inr hs, fun x h => (by cases h), by omega⟩
  refine AX.seq (AX.pblock (AX.loop (Le1Inv H n G fr) _ ⟨_, _, .refl _ _, fun _ => false, fr, o, v, rfl, R, D0, rfl⟩ ?_))
  clear R D0
  rintro m F X ⟨T, td, o, v, rfl, R, D, rfl⟩
  simp only [tarjan_Leads.l1]
  obtain ⟨pv, ev, hv⟩ := R.td.len
  refine AX.seq (AX.seq (AX.reg ?_))
  simp [tarjan_Leads.r10, hv]
  rw [← hv]
  refine AX.pcond rfl (fun hc => AX.skip ?_) (fun hc => AX.exit ?_)
  · simp at hc
    simp
    obtain ⟨Dl, k, rfl⟩ : ∃ Dl k, td = Dl ++ [k] := by
      rcases List.eq_nil_or_concat td with h | ⟨a, b, h⟩
      · rw [h] at hc; simp at hc
      · exact ⟨a, b, by simpa using h⟩
    have hln := D.len
    have hcl := cntB_le n T
    cases o with
    | none => exact absurd R.td.1 (by simp)
    | some id =>
    obtain ⟨md, hve, hg, hmd⟩ := R.td
    rw [hve]
    have hid := R.o id rfl
    have hidx := R.lt _ _ hg
    have hll : (Dl ++ [k]).length = Dl.length + 1 := by simp
    rw [hll] at hmd hln ⊢
    obtain ⟨hkn, hkr⟩ := D.s2 k (by simp)
    have hk1 : k + 1 ≤ n := hkn
    have ew : Go.IntKind.i64.wrap (Dl.length : Int) = (Dl.length : Nat) := wrap_i64 (by omega) (by omega)
    have c1 : ((nc (Dl ++ [k])).drop Dl.length).take 1 = [.i .i64 (k : Nat)] := take1_at (by simp [nc])
    refine AX.pblock (AX.seq (AX.reg ?_))
    simp [tarjan_Leads.r11, ew, hg, hmd, c1, show (Dl.length : Int) < Dl.length + 1 by omega]
    refine AX.seq (AX.reg ?_)
    simp [tarjan_Leads.r12, ew]
    have hnt : (nc (Dl ++ [k])).take Dl.length = nc Dl := by simp [nc]
    have W := Am.Wk.cut (F := [(7, gV n G), (8, .sl (some (H.next, 0, n)) n 1), (9, .sl (some (id, 0, Dl.length + 1)) Dl.length 1), (10, .sl none 0 0), (13, .i .i64 (k : Nat))]) (F' := [(7, gV n G), (8, .sl (some (H.next, 0, n)) n 1), (9, .sl (some (X.next, 0, Dl.length)) Dl.length 1), (10, .sl none 0 0), (13, .i .i64 (k : Nat))]) (e := Dl.length) hg hmd (by simp) (by omega) (by omega)
      (cutF_cons (.inl rfl) (cutF_cons (.inl rfl) (cutF_cons (.inr ⟨rfl, rfl⟩) (cutF_cons (.inl rfl) (cutF_cons (.inl rfl) cutF_nil)))))
    rw [hnt] at W
    refine AX.wk W ?_
    have R2 : LHp H ((X.del id).add (.cells (nc Dl) Dl.length)) n T (some X.next) (.sl (some (X.next, 0, Dl.length)) Dl.length 1) Dl := by
      have hn : (X.del id).next = X.next := rfl
      have nx := R.nx
      refine ⟨⟨by have := R.ext.1; simp [hn]; omega, fun a blk g => ?_⟩, fun a blk g => ?_, by simp [hn]; omega, R.th.imp fun m h => ⟨h.1, ?_⟩, ⟨Dl.length, rfl, by simp [hn], Nat.le_refl _⟩, fun a ha => by injection ha with ha; omega⟩
      · have := hlt a blk g
        have h2 := R.ext.2 a blk g
        have := R.ext.1
        simp [hn, show a ≠ X.next by omega, Hp.del, show a ≠ id by omega, h2]
      · simp [hn] at g ⊢
        split at g
        · omega
        · simp only [Hp.del] at g
          split at g
          · cases g
          · have := R.lt a blk g; omega
      · simp [hn, show H.next ≠ X.next by omega, Hp.del, show H.next ≠ id by omega, h.2]
    clear W R hg hmd hidx hid
    generalize (X.del id).add (.cells (nc Dl) Dl.length) = Y at R2 ⊢
    generalize V.sl (some (X.next, 0, Dl.length)) Dl.length 1 = w at R2 ⊢
    obtain ⟨mt, pt, gt⟩ := R2.th
    have nT := bI_at T hkn
    refine AX.seq (AX.reg ?_)
    simp [tarjan_Leads.r13, hkn, hk1, gt, pt, nT]
    cases hT : T k with
    | true =>
      refine AX.pcond (t := false) (by simp) (fun h => by simp at h) (fun _ => AX.skip ?_)
      simp
      refine ⟨(n - cntB n T) * 1000001 + Dl.length, by omega, _, _, .refl _ _, T, Dl, _, _, rfl, R2, ⟨D.s1, fun x hx => D.s2 x (by simp [hx]), fun s hs => ?_, fun x hx y hy => ?_, by omega⟩, rfl⟩
      · rcases D.st s hs with h | h
        · exact .inl h
        · rcases List.mem_append.1 h with h | h
          · exact .inr h
          · simp at h; rw [h]; exact .inl hT
      · rcases D.cl x hx y hy with h | h
        · exact .inl h
        · rcases List.mem_append.1 h with h | h
          · exact .inr h
          · simp at h; rw [h]; exact .inl hT
    | false =>
      refine AX.pcond (t := true) (by simp) (fun _ => AX.seq (AX.reg ?_)) (fun h => by simp at h)
      simp [tarjan_Leads.r14, hkn, hk1, gt, pt]
      rw [bI_set]
      have hcs := cntB_set hT (upd_same T k true) (fun x hx => upd_ne _ _ hx) n hkn
      have hcl' := cntB_le n (upd T k true)
      have hGk := hGl k
      have R3 : LHp H (Y.upd H.next (.cells (bI (upd T k true) n) n)) n (upd T k true) (some X.next) w Dl := by
        have nx := R2.nx
        exact ⟨R2.ext.upd hlt (Nat.le_refl _) _, Hp.upd_lt R2.lt nx _, by simpa using nx, ⟨n, Nat.le_refl _, by simp⟩, R2.td.keep fun a blk ha g => by
          have := R2.o a ha
          simp only [Hp.get_upd]; rw [if_neg (by omega)]; exact g, R2.o⟩
      clear R2 gt
      generalize Y.upd H.next _ = Y3 at R3 ⊢
      obtain ⟨v2, X2, o2, e1, g2, n2, l2, fr2, ho⟩ := R3.td.app R3.lt (G k) (by simp [roomB]; omega)
      have e1' : sAppend Y3 1 8 w (.fs ((G k).map fun n => [.i .i64 (n : Nat)])) = some (v2, X2) := e1
      refine AX.reg ?_
      simp [tarjan_Leads.r15, gV, hkn, ns, -sAppend, e1']
      have hdec : (n - cntB n (upd T k true)) * 1000001 + 1000001 = (n - cntB n T) * 1000001 := by
        rw [hcs] at hcl' ⊢
        have : n - cntB n T = (n - (cntB n T + 1)) + 1 := by omega
        rw [this, Nat.succ_mul]
      refine ⟨(n - cntB n (upd T k true)) * 1000001 + (Dl ++ G k).length, by simp; omega, _, _, .refl _ _, upd T k true, Dl ++ G k, o2, v2, rfl, ⟨⟨by have := R3.ext.1; omega, fun a blk g => fr2 a blk (fun h => by have := R3.o _ h; have := hlt a blk g; omega) (R3.ext.2 a blk g)⟩, l2, by have := R3.nx; omega, R3.th.imp fun m h => ⟨h.1, fr2 _ _ (fun h => by have := R3.o _ h; omega) h.2⟩, g2, fun a ha => ?_⟩, ⟨fun x hx => ?_, fun x hx => ?_, fun s hs => ?_, fun x hx y hy => ?_, ?_⟩, by simp [gV, ns]⟩
      · rcases ho with h | h
        · exact R3.o a (h ▸ ha)
        · rw [h] at ha; injection ha with ha; have := R3.nx; omega
      · by_cases e : x = k
        · rw [e]; exact hkr
        · rw [upd_ne _ _ e] at hx; exact D.s1 x hx
      · rcases List.mem_append.1 hx with hx | hx
        · exact D.s2 x (by simp [hx])
        · obtain ⟨s, hs, hr⟩ := hkr
          exact ⟨hG k hkn x hx, s, hs, hr.tail hx⟩
      · by_cases e : s = k
        · rw [e, upd_same]; exact .inl rfl
        · rw [upd_ne _ _ e]
          rcases D.st s hs with h | h
          · exact .inl h
          · rcases List.mem_append.1 h with h | h
            · exact .inr (by simp [h])
            · simp at h; exact absurd h e
      · by_cases e2 : y = k
        · rw [e2, upd_same]; exact .inl rfl
        · rw [upd_ne _ _ e2]
          by_cases e : x = k
          · rw [e] at hy; exact .inr (by simp [hy])
          · rw [upd_ne _ _ e] at hx
            rcases D.cl x hx y hy with h | h
            · exact .inl h
            · rcases List.mem_append.1 h with h | h
              · exact .inr (by simp [h])
              · simp at h; exact absurd h e2
      · rw [hcs]; simp; omega
  simp at hc
  have htd : td = [] := by simpa using hc
  rw [htd] at D
  have hfin : (List.range n).filter T = leadsS n (warS E n) fr := by
    unfold leadsS
    refine List.filter_congr fun x hx => ?_
    rw [Bool.eq_iff_iff, List.any_eq_true]
    constructor
    · intro h
      obtain ⟨s, hs, hr⟩ := D.s1 x h
      exact ⟨s, hs, (hM s x).2 hr⟩
    · rintro ⟨s, hs, hr⟩
      exact Rch.closed (D := fun x => T x = true) (fun x hx u hu => (D.cl x hx u hu).resolve_right (by simp)) ((hM s x).1 hr) ((D.st s hs).resolve_right (by simp))
  obtain ⟨mt, pt, gt⟩ := R.th
  simp
  refine AX.seq (AX.seq (AX.reg ?_))
  simp [tarjan_Leads.r16]
  refine AX.pblock (AX.loop (Le2Inv X n H.next T) n ⟨_, _, .refl _ _, 0, .sl none 0 0, by omega, by omega, by simpa [wE] using Am.Acc.nil 1 0 (.refl _) R.lt, rfl⟩ ?_)
  rintro m F Y ⟨i, w, hi, rfl, A, rfl⟩
  simp only [tarjan_Leads.l2]
  refine AX.seq (AX.reg ?_)
  simp [tarjan_Leads.r17]
  refine AX.seq (AX.pcond rfl (fun hc => AX.skip ?_) (fun hc => AX.exit ?_))
  · simp at hc
    have hi1 : i + 1 ≤ n := hc
    have gt2 := A.ext.2 _ _ gt
    have nT := bI_at T hc
    have hfl : ((List.range i).filter T).length ≤ i := by
      have := List.length_filter_le T (List.range i)
      simpa using this
    have hsn : (List.range (i + 1)).filter T = (List.range i).filter T ++ (if T i then [i] else []) := by
      rw [List.range_succ, List.filter_append]
      cases hT : T i <;> simp [hT]
    simp
    refine AX.seq (AX.pblock (AX.seq (AX.reg ?_)))
    simp [tarjan_Leads.r18, hc, hi1, gt2, pt, nT]
    refine AX.seq (AX.reg ?_)
    simp [tarjan_Leads.r19]
    cases hT : T i with
    | true =>
      rw [hT] at hsn
      obtain ⟨v1, H1, e1, A1⟩ := A.app (bytes := 8) (ys := [[.i .i64 (i : Nat)]]) R.lt (by simp) (by omega) rfl (by simp [roomB, wE]; omega)
      refine AX.pcond (t := true) rfl (fun _ => AX.reg ?_) (fun h => by simp at h)
      simp [tarjan_Leads.r20, repl, -sAppend, e1]
      refine AX.reg ?_
      simp [tarjan_Leads.r21, succ_of_lt hc (show n ≤ 9223372036854775807 by omega)]
      refine ⟨n - (i + 1), by omega, _, _, .refl _ _, i + 1, v1, by omega, rfl, ?_, rfl⟩
      rw [hsn, show wE ((List.range i).filter T ++ (if true then [i] else [])) = wE ((List.range i).filter T) ++ [[.i .i64 (i : Nat)]] by simp [wE]]
      exact A1
    | false =>
      rw [hT] at hsn
      refine AX.pcond (t := false) rfl (fun h => by simp at h) (fun _ => AX.skip ?_)
      simp
      refine AX.reg ?_
      simp [tarjan_Leads.r21, succ_of_lt hc (show n ≤ 9223372036854775807 by omega)]
      exact ⟨n - (i + 1), by omega, _, _, .refl _ _, i + 1, w, by omega, rfl, by rw [hsn]; simpa using A, rfl⟩
  simp at hc
  have e : i = n := by omega
  rw [e, hfin] at A
  simp
  refine AX.seq (AX.reg ?_)
  simp [tarjan_Leads.r22]
  refine AX.ret ?_
  simp
  exact ⟨R.ext.trans A.ext, A.frz.mono fun k h => by have := R.ext.1; omega⟩
end Go.Proofs.YtggjaoibcfgofaaGreatDoor
namespace Go.Proofs.YtggjaoibcfgofaaGreatDoor
open Am C
set_option linter.unusedSimpArgs false
set_option linter.unusedVariables false
def ssV (out : List (List Str)) : V := .fs (out.map fun p => [ss p])
@[simp] theorem free_ssV (out : List (List Str)) : free (ssV out) := free_fs fun e he v hv => by
  obtain ⟨x, _, rfl⟩ := List.mem_map.1 he
  simp at hv; subst hv; exact free_ss _
def nmS (all : List Str) (p : List Nat) : List Str := p.map fun i => all.getD i []
def ordOf (all : List Str) (E : List (Nat × Nat)) : List (List Nat) := partsS all.length (warS E all.length)
def orderS (l : List (Str × Str)) : List (List Str) := (ordOf (namesS l []) (numE (namesS l []) l)).map (nmS (namesS l []))
def reachS (l : List (Str × Str)) (fr : List Str) : List Str := nmS (namesS l fr) (leadsS (namesS l fr).length (warS (numE (namesS l fr) l) (namesS l fr).length) (fr.map (posS (namesS l fr))))
theorem posS_len {all : List Str} (h : Rising all) {x : Str} (hx : x ∈ all) : posS all x < all.length := (List.getElem?_eq_some_iff.1 ((posS_mem h x).1 hx)).1
theorem mem_flatE {l : List (Str × Str)} {x : Str} : x ∈ flatE l ↔ ∃ e ∈ l, x = e.1 ∨ x = e.2 := by simp [flatE]
theorem mem_namesS {l : List (Str × Str)} {fr : List Str} {x : Str} : x ∈ namesS l fr ↔ x ∈ fr ∨ ∃ e ∈ l, x = e.1 ∨ x = e.2 := by
  rw [namesS, mem_sortedS, List.mem_append, mem_flatE]
theorem namesS_rising (l : List (Str × Str)) (fr : List Str) : Rising (namesS l fr) := sortedS_rising _
theorem numE_lt (l : List (Str × Str)) (fr : List Str) : ∀ e ∈ numE (namesS l fr) l, e.1 < (namesS l fr).length ∧ e.2 < (namesS l fr).length := fun e he => by
  obtain ⟨x, hx, rfl⟩ := List.mem_map.1 he
  exact ⟨posS_len (namesS_rising l fr) (mem_namesS.2 (.inr ⟨x, hx, .inl rfl⟩)), posS_len (namesS_rising l fr) (mem_namesS.2 (.inr ⟨x, hx, .inr rfl⟩))⟩
theorem namesS_len (l : List (Str × Str)) (fr : List Str) : (namesS l fr).length ≤ fr.length + 2 * l.length := by
  have := sortedS_len (fr ++ flatE l)
  have := flatE_len l
  simp only [List.length_append] at *
  unfold namesS; omega
theorem mem_rndS {n : Nat} {M : Nat → Nat → Bool} : ∀ {t : Nat} {p : List Nat}, p ∈ rndS n M t → ∃ i, i < n ∧ p = classS n M i
  | 0, p, h => by simp [rndS] at h
  | t + 1, p, h => by
    simp only [rndS, roundS] at h
    split at h
    · rename_i i hi
      rcases List.mem_append.1 h with h | h
      · exact mem_rndS h
      · simp at h
        have := List.mem_of_find?_eq_some hi
        exact ⟨i, by simpa using this, h⟩
    · exact mem_rndS h
theorem classS_len (n : Nat) (M : Nat → Nat → Bool) (i : Nat) : (classS n M i).length ≤ n := by
  have := List.length_filter_le (fun j => M i j && M j i) (List.range n)
  simpa [classS] using this
def O0Inv (ps : List (List Nat)) (all : List Str) (H : Hp) (m : Nat) (F : Fr) (X : Hp) : Prop :=
  ∃ i v, i ≤ ps.length ∧ m = ps.length - i ∧ Am.Acc H 1 v X ((ps.take i).map fun p => [ss (nmS all p)]) ∧ F = [(4, ss all), (5, v), (19, ppV ps), (20, .i .i64 ps.length), (21, .i .i64 i)]
def O1Inv (ps : List (List Nat)) (all : List Str) (p : List Nat) (v : V) (i : Nat) (X : Hp) (m : Nat) (F : Fr) (Y : Hp) : Prop :=
  ∃ j w, j ≤ p.length ∧ m = p.length - j ∧ Am.Acc X 1 w Y (sc (nmS all (p.take j))) ∧ F = [(4, ss all), (5, v), (8, w), (19, ppV ps), (20, .i .i64 ps.length), (21, .i .i64 i), (25, ns p), (26, .i .i64 p.length), (27, .i .i64 j)]
theorem Order_ok (l : List (Str × Str)) (hl : l.length ≤ 10000) (H : Hp) :
    AC Tryz.prog n_query_Order [edV l] H (fun v H' => v = ssV (orderS l) ∧ H' = H ∧ ∀ x, x < (namesS l []).length → ∃ p ∈ ordOf (namesS l []) (numE (namesS l []) l), x ∈ p) := by
  refine AC.codePQ query_Order.at query_Order.ok (free_ssV _) fun hlt => ?_
  simp only [query_Order]
  refine AX.seq (AX.reg ?_)
  simp [query_Order.r0]
  refine AX.seq (AX.reg ?_)
  simp [query_Order.r1]
  refine AC.fix ((numbered_ok l [] (by omega) (by simp) H).args fun κ cs r => ?_) ?_
  · obtain ⟨a, b, rfl, h1, h2⟩ := r.two'
    exact VRs.cons' h1 (VRs.cons' (Am.VR.nil_fs h2) (VRs.nil' κ))
  simp
  have hE := numE_lt l []
  have hal := namesS_len l []
  simp at hal
  have hel : (numE (namesS l []) l).length = l.length := by simp [numE]
  unfold orderS
  generalize namesS l [] = all at *
  generalize numE all l = E at *
  refine AX.seq (AX.reg ?_)
  simp [query_Order.r2]
  refine AX.seq (AX.seq (AX.reg ?_))
  simp [query_Order.r3, ss]
  refine (Parts_ok all.length E (by omega) (by omega) hE H).mono ?_
  rintro v H' ⟨rfl, rfl, hcov⟩
  have hps : ∀ p ∈ partsS all.length (warS E all.length), p.length ≤ all.length ∧ ∀ x ∈ p, x < all.length := fun p hp => by
    obtain ⟨i, hi, rfl⟩ := mem_rndS hp
    exact ⟨classS_len _ _ _, fun x hx => (mem_class.1 hx).1⟩
  have hpl : (partsS all.length (warS E all.length)).length ≤ all.length := rndS_len _ _ _
  rw [show ordOf all E = partsS all.length (warS E all.length) from rfl]
  generalize partsS all.length (warS E all.length) = ps at *
  simp [ppV]
  refine AX.pblock (AX.loop (O0Inv ps all H') ps.length ⟨_, _, .refl _ _, 0, .sl none 0 0, by omega, by omega, by simpa using Am.Acc.nil 1 0 (.refl _) hlt, by simp [ppV, ss]⟩ ?_)
  rintro m F X ⟨i, v, hi, rfl, A, rfl⟩
  simp only [query_Order.l0]
  refine AX.seq (AX.reg ?_)
  simp [query_Order.r4]
  refine AX.seq (AX.pcond rfl (fun hc => AX.skip ?_) (fun hc => AX.exit ?_))
  · simp at hc
    obtain ⟨hp1, hp2⟩ := hps _ (List.getElem_mem hc)
    have htk := take_snoc hc
    simp
    refine AX.seq (AX.pblock (AX.seq (AX.reg ?_)))
    simp [query_Order.r5, ppV, hc]
    generalize ps[i] = p at hp1 hp2 htk ⊢
    refine AX.seq (AX.reg ?_)
    simp [query_Order.r6]
    refine AX.seq (AX.seq (AX.reg ?_))
    simp [query_Order.r7, ns]
    refine AX.pblock (AX.loop (O1Inv ps all p v i X) p.length ⟨_, _, .refl _ _, 0, .sl none 0 0, by omega, by omega, by simpa [nmS, sc] using Am.Acc.nil 1 0 (.refl _) A.lt, by simp [ppV, ss, ns]⟩ ?_)
    rintro m F Y ⟨j, w, hj, rfl, B, rfl⟩
    simp only [query_Order.l1]
    refine AX.seq (AX.reg ?_)
    simp [query_Order.r8]
    refine AX.seq (AX.pcond rfl (fun hc2 => AX.skip ?_) (fun hc2 => AX.exit ?_))
    · simp at hc2
      have hpj := hp2 _ (List.getElem_mem hc2)
      obtain ⟨w1, H1, e1, B1⟩ := B.app (bytes := 16) (ys := [[.s (all[p[j]]'hpj)]]) A.lt (by simp) (by omega) rfl (by simp [roomB, sc, nmS]; omega)
      simp
      refine AX.seq (AX.pblock (AX.seq (AX.reg ?_)))
      simp [query_Order.r9, ns, hc2]
      refine AX.reg ?_
      simp [query_Order.r10, ss, hpj, repl, -sAppend, e1]
      refine AX.reg ?_
      simp [query_Order.r11, succ_of_lt hc2 (show p.length ≤ 9223372036854775807 by omega)]
      refine ⟨p.length - (j + 1), by omega, _, _, .refl _ _, j + 1, w1, by omega, rfl, ?_, by simp [ppV, ss, ns]⟩
      rw [take_snoc hc2, show sc (nmS all (p.take j ++ [p[j]])) = sc (nmS all (p.take j)) ++ [[.s (all[p[j]]'hpj)]] by simp only [sc, nmS, List.map_append, List.map_cons, List.map_nil, List.getD_eq_getElem?_getD, List.getElem?_eq_getElem hpj]; rfl]
      exact B1
    simp at hc2
    have e : j = p.length := by omega
    rw [e, List.take_length] at B
    simp
    refine AX.wk (Wk.freeze (fun id => X.next ≤ id) (frzF_cons (.refl _) (frzF_cons (.refl _) (frzF_cons B.frz (frzF_cons (.refl _) (frzF_cons (.refl _) (frzF_cons (.refl _) frzF_nil))))))) ?_
    have A2 := A.more (Hp.wo_new B.ext A.lt) (Hp.wo_lt B.lt (fun id => X.next ≤ id))
    generalize Y.wo (fun id => X.next ≤ id) = Y2 at A2 ⊢
    rw [show V.fs (sc (nmS all p)) = ss (nmS all p) from rfl]
    obtain ⟨v1, H1, e1, A3⟩ := A2.app (bytes := 24) (ys := [[ss (nmS all p)]]) hlt (by simp) (by omega) rfl (by simp [roomB]; omega)
    have e1' : sAppend Y2 1 24 v (.fs [[.fs ((nmS all p).map fun x => [.s x])]]) = some (v1, H1) := e1
    refine AX.reg ?_
    simp [query_Order.r12, ss, repl, -sAppend, e1']
    refine AX.reg ?_
    simp [query_Order.r13, succ_of_lt hc (show ps.length ≤ 9223372036854775807 by omega)]
    refine ⟨ps.length - (i + 1), by omega, _, _, .refl _ _, i + 1, v1, by omega, rfl, ?_, by simp [ppV, ss]⟩
    rw [htk]
    simpa using A3
  simp at hc
  have e : i = ps.length := by omega
  rw [e, List.take_length] at A
  simp
  refine AX.seq (AX.reg ?_)
  simp [query_Order.r14]
  refine AX.ret ?_
  simp
  refine ⟨⟨A.ext, ?_⟩, hcov⟩
  rw [show ssV (ps.map (nmS all)) = .fs (ps.map fun p => [ss (nmS all p)]) by simp [ssV, Function.comp_def]]
  exact A.frz
def R0Inv (all fr : List Str) (E : List (Nat × Nat)) (H : Hp) (m : Nat) (F : Fr) (X : Hp) : Prop :=
  ∃ i v, i ≤ fr.length ∧ m = fr.length - i ∧ Am.Acc H 1 v X (wE ((fr.take i).map (posS all))) ∧ F = [(5, neV E), (6, ss all), (7, v), (21, ss fr), (22, .i .i64 fr.length), (23, .i .i64 i)]
def R1Inv (all : List Str) (q : List Nat) (H : Hp) (m : Nat) (F : Fr) (X : Hp) : Prop :=
  ∃ i v, i ≤ q.length ∧ m = q.length - i ∧ Am.Acc H 1 v X (sc (nmS all (q.take i))) ∧ F = [(6, ss all), (12, v), (42, ns q), (43, .i .i64 q.length), (44, .i .i64 i)]
theorem Reach_ok (l : List (Str × Str)) (fr : List Str) (hl : l.length ≤ 5000) (hf : fr.length ≤ 5000) (H : Hp) :
    AC Tryz.prog n_query_Reach [edV l, ss fr] H (fun v H' => v = ss (reachS l fr) ∧ H' = H) := by
  refine AC.codeP query_Reach.at query_Reach.ok (free_ss _) fun hlt => ?_
  simp only [query_Reach]
  refine AX.seq (AX.reg ?_)
  simp [query_Reach.r0]
  refine AX.seq (AX.reg ?_)
  simp [query_Reach.r1]
  refine AC.fix (numbered_ok l fr (by omega) (by omega) H) ?_
  simp
  have hE := numE_lt l fr
  have hal := namesS_len l fr
  have hel : (numE (namesS l fr) l).length = l.length := by simp [numE]
  have hri := namesS_rising l fr
  have hfm : ∀ x ∈ fr, x ∈ namesS l fr := fun x hx => mem_namesS.2 (.inl hx)
  unfold reachS
  generalize namesS l fr = all at *
  generalize numE all l = E at *
  refine AX.seq (AX.reg ?_)
  simp [query_Reach.r2]
  refine AX.seq (AX.seq (AX.reg ?_))
  simp [query_Reach.r3, ss]
  refine AX.pblock (AX.loop (R0Inv all fr E H) fr.length ⟨_, _, .refl _ _, 0, .sl none 0 0, by omega, by omega, by simpa [wE] using Am.Acc.nil 1 0 (.refl _) hlt, by simp [ss]⟩ ?_)
  rintro m F X ⟨i, v, hi, rfl, A, rfl⟩
  simp only [query_Reach.l0]
  refine AX.seq (AX.reg ?_)
  simp [query_Reach.r4]
  refine AX.seq (AX.pcond rfl (fun hc => AX.skip ?_) (fun hc => AX.exit ?_))
  · simp at hc
    obtain ⟨v1, H1, e1, A1⟩ := A.app (bytes := 8) (ys := [[.i .i64 (posS all fr[i] : Nat)]]) hlt (by simp) (by omega) rfl (by simp [roomB, wE]; omega)
    simp
    refine AX.seq (AX.pblock (AX.seq (AX.reg ?_)))
    simp [query_Reach.r5, ss, hc]
    refine AX.seq (AX.reg ?_)
    simp [query_Reach.r6]
    refine AC.fix (BinS_ok all fr[i] hri (by omega) _) ?_
    simp
    refine AX.reg ?_
    simp [query_Reach.r7, repl, -sAppend, e1]
    refine AX.reg ?_
    simp [query_Reach.r8, succ_of_lt hc (show fr.length ≤ 9223372036854775807 by omega)]
    refine ⟨fr.length - (i + 1), by omega, _, _, .refl _ _, i + 1, v1, by omega, rfl, ?_, by simp [ss]⟩
    rw [take_snoc hc, show wE ((fr.take i ++ [fr[i]]).map (posS all)) = wE ((fr.take i).map (posS all)) ++ [[.i .i64 (posS all fr[i] : Nat)]] by simp only [wE, List.map_append]; rfl]
    exact A1
  simp at hc
  have e : i = fr.length := by omega
  rw [e, List.take_length] at A
  clear e hc hi
  simp
  refine AX.wk (Wk.freeze (fun id => H.next ≤ id) (frzF_cons (.refl _) (frzF_cons (.refl _) (frzF_cons A.frz frzF_nil)))) ?_
  have hx2 := Hp.wo_new A.ext hlt
  have hl2 := Hp.wo_lt A.lt (fun id => H.next ≤ id)
  generalize X.wo (fun id => H.next ≤ id) = H2 at hx2 hl2 ⊢
  rw [show V.fs (wE (fr.map (posS all))) = ns (fr.map (posS all)) from rfl]
  refine AX.seq (AX.reg ?_)
  simp [query_Reach.r9]
  refine AX.seq (AX.seq (AX.reg ?_))
  simp [query_Reach.r10, ss]
  refine AC.fix (Leads_ok all.length E (fr.map (posS all)) (by omega) (by omega) hE (by simp; omega) (fun s hs => ?_) H2) ?_
  · obtain ⟨x, hx, rfl⟩ := List.mem_map.1 hs
    exact posS_len hri (hfm x hx)
  have hql : (leadsS all.length (warS E all.length) (fr.map (posS all))).length ≤ all.length := by
    have := List.length_filter_le (fun j => (fr.map (posS all)).any fun s => warS E all.length s j) (List.range all.length)
    simpa [leadsS] using this
  have hqm : ∀ x ∈ leadsS all.length (warS E all.length) (fr.map (posS all)), x < all.length := fun x hx => by
    have := (List.mem_filter.1 hx).1
    simpa using this
  generalize leadsS all.length (warS E all.length) (fr.map (posS all)) = q at *
  simp [ns]
  refine AX.pblock (AX.loop (R1Inv all q H2) q.length ⟨_, _, .refl _ _, 0, .sl none 0 0, by omega, by omega, by simpa [nmS, sc] using Am.Acc.nil 1 0 (.refl _) hl2, by simp [ss, ns]⟩ ?_)
  clear A
  rintro m F X ⟨i, v, hi, rfl, A, rfl⟩
  simp only [query_Reach.l1]
  refine AX.seq (AX.reg ?_)
  simp [query_Reach.r11]
  refine AX.seq (AX.pcond rfl (fun hc => AX.skip ?_) (fun hc => AX.exit ?_))
  · simp at hc
    have hqi := hqm _ (List.getElem_mem hc)
    obtain ⟨v1, H1, e1, A1⟩ := A.app (bytes := 16) (ys := [[.s (all[q[i]]'hqi)]]) hl2 (by simp) (by omega) rfl (by simp [roomB, sc, nmS]; omega)
    simp
    refine AX.seq (AX.pblock (AX.seq (AX.reg ?_)))
    simp [query_Reach.r12, ns, hc]
    refine AX.reg ?_
    simp [query_Reach.r13, ss, hqi, repl, -sAppend, e1]
    refine AX.reg ?_
    simp [query_Reach.r14, succ_of_lt hc (show q.length ≤ 9223372036854775807 by omega)]
    refine ⟨q.length - (i + 1), by omega, _, _, .refl _ _, i + 1, v1, by omega, rfl, ?_, by simp [ss, ns]⟩
    rw [take_snoc hc, show sc (nmS all (q.take i ++ [q[i]])) = sc (nmS all (q.take i)) ++ [[.s (all[q[i]]'hqi)]] by simp only [sc, nmS, List.map_append, List.map_cons, List.map_nil, List.getD_eq_getElem?_getD, List.getElem?_eq_getElem hqi]; rfl]
    exact A1
  simp at hc
  have e : i = q.length := by omega
  rw [e, List.take_length] at A
  simp
  refine AX.seq (AX.reg ?_)
  simp [query_Reach.r15]
  refine AX.ret ?_
  simp
  exact ⟨hx2.trans A.ext, A.frz.mono fun k h => by have := hx2.1; omega⟩
end Go.Proofs.YtggjaoibcfgofaaGreatDoor
namespace Go.Proofs.YtggjaoibcfgofaaGreatDoor
open Am
set_option linter.unusedSimpArgs false
set_option linter.unusedVariables false
theorem rising_ext : ∀ {a b : List Str}, Rising a → Rising b → (∀ x, x ∈ a ↔ x ∈ b) → a = b
  | [], [], _, _, _ => rfl
  | [], b :: s, _, _, h => absurd ((h b).2 (by simp)) (by simp)
  | a :: r, [], _, _, h => absurd ((h a).1 (by simp)) (by simp)
  | a :: r, b :: s, ha, hb, h => by
    have ha' := List.pairwise_cons.1 ha
    have hb' := List.pairwise_cons.1 hb
    have e : a = b := by
      refine Classical.byContradiction fun hne => ?_
      have h1 : a ∈ s := (List.mem_cons.1 ((h a).1 (by simp))).resolve_left hne
      have h2 : b ∈ r := (List.mem_cons.1 ((h b).2 (by simp))).resolve_left (Ne.symm hne)
      have := ltB_asym (ha'.1 b h2)
      rw [hb'.1 a h1] at this; cases this
    subst e
    have : r = s := rising_ext ha'.2 hb'.2 fun x => ⟨fun hx => ?_, fun hx => ?_⟩
    · rw [this]
    · exact (List.mem_cons.1 ((h x).1 (by simp [hx]))).resolve_left fun e => by have := ha'.1 x hx; rw [e] at this; exact ltB_irr _ this
    · exact (List.mem_cons.1 ((h x).2 (by simp [hx]))).resolve_left fun e => by have := hb'.1 x hx; rw [e] at this; exact ltB_irr _ this
theorem posS_inj {b : List Str} (h : Rising b) {x y : Str} (hx : x ∈ b) (hy : y ∈ b) (e : posS b x = posS b y) : x = y := by
  have h1 := (posS_mem h x).1 hx
  have h2 := (posS_mem h y).1 hy
  rw [e, h2] at h1
  injection h1 with h1; exact h1.symm
theorem rising_len {a b : List Str} (ha : Rising a) (hb : Rising b) (h : ∀ x ∈ a, x ∈ b) : a.length ≤ b.length := by
  have h1 : (a.map (posS b)).Nodup := by
    rw [List.nodup_iff_pairwise_ne, List.pairwise_map]
    refine List.Pairwise.imp_of_mem (fun {x y} hx hy hlt e => ?_) ha
    have := posS_inj hb (h x hx) (h y hy) e
    subst this; exact ltB_irr _ hlt
  have := nodup_len b.length _ h1 fun p hp => by
    obtain ⟨x, hx, rfl⟩ := List.mem_map.1 hp
    exact posS_len hb (h x hx)
  simpa using this
inductive RchN (l : List (Str × Str)) : Str → Str → Prop
  | refl (a : Str) : RchN l a a
  | tail {a b c : Str} : RchN l a b → (b, c) ∈ l → RchN l a c
theorem getD_pos {all : List Str} (h : Rising all) {x : Str} (hx : x ∈ all) : all.getD (posS all x) [] = x := by
  rw [List.getD_eq_getElem?_getD, (posS_mem h x).1 hx]; rfl
theorem mem_numE {all : List Str} {l : List (Str × Str)} {a b : Nat} : (a, b) ∈ numE all l ↔ ∃ e ∈ l, a = posS all e.1 ∧ b = posS all e.2 := by
  simp only [numE, List.mem_map, Prod.mk.injEq]
  exact ⟨fun ⟨e, h, h1, h2⟩ => ⟨e, h, h1.symm, h2.symm⟩, fun ⟨e, h, h1, h2⟩ => ⟨e, h, h1.symm, h2.symm⟩⟩
theorem rch_to {all : List Str} {l : List (Str × Str)} {a b : Str} (h : RchN l a b) : Rch (adj (numE all l)) (posS all a) (posS all b) := by
  induction h with
  | refl => exact .refl _
  | @tail b c _ e ih => exact ih.tail (mem_adj.2 (mem_numE.2 ⟨(b, c), e, rfl, rfl⟩))
theorem rch_from {all : List Str} {l : List (Str × Str)} (hr : Rising all) (hm : ∀ e ∈ l, e.1 ∈ all ∧ e.2 ∈ all) {a : Str} (ha : a ∈ all) {j : Nat} (h : Rch (adj (numE all l)) (posS all a) j) : RchN l a (all.getD j []) := by
  generalize hp : posS all a = p at h
  induction h with
  | refl => rw [← hp, getD_pos hr ha]; exact .refl _
  | tail _ e ih =>
    obtain ⟨x, hx, rfl, rfl⟩ := mem_numE.1 (mem_adj.1 e)
    have := ih
    rw [getD_pos hr (hm x hx).1] at this
    rw [getD_pos hr (hm x hx).2]
    exact this.tail hx
theorem names_edges (l : List (Str × Str)) (fr : List Str) : ∀ e ∈ l, e.1 ∈ namesS l fr ∧ e.2 ∈ namesS l fr := fun e he => ⟨mem_namesS.2 (.inr ⟨e, he, .inl rfl⟩), mem_namesS.2 (.inr ⟨e, he, .inr rfl⟩)⟩
theorem mem_reachS {l : List (Str × Str)} {fr : List Str} {x : Str} : x ∈ reachS l fr ↔ ∃ s ∈ fr, RchN l s x := by
  have hr := namesS_rising l fr
  have hf : ∀ s ∈ fr, s ∈ namesS l fr := fun s hs => mem_namesS.2 (.inl hs)
  have hw : ∀ a b, warS (numE (namesS l fr) l) (namesS l fr).length a b = true ↔ _ := fun a b => warS_iff _ (numE_lt l fr)
  simp only [reachS, nmS, leadsS, List.mem_map, List.mem_filter, List.mem_range, List.any_eq_true]
  constructor
  · rintro ⟨j, ⟨hj, _, ⟨s, hs, rfl⟩, hs2⟩, rfl⟩
    exact ⟨s, hs, rch_from hr (names_edges l fr) (hf s hs) ((hw _ _).1 hs2)⟩
  · rintro ⟨s, hs, h⟩
    have hx : x ∈ namesS l fr := by
      cases h with
      | refl => exact hf _ hs
      | tail _ e => exact (names_edges l fr _ e).2
    exact ⟨posS (namesS l fr) x, ⟨posS_len hr hx, _, ⟨s, hs, rfl⟩, (hw _ _).2 (rch_to h)⟩, getD_pos hr hx⟩
theorem getD_lt {all : List Str} (h : Rising all) {i j : Nat} (hij : i < j) (hj : j < all.length) : ltB (all.getD i []) (all.getD j []) = true := by
  rw [List.getD_eq_getElem?_getD, List.getD_eq_getElem?_getD, List.getElem?_eq_getElem (show i < all.length by omega), List.getElem?_eq_getElem hj]
  exact List.pairwise_iff_getElem.1 h i j (by omega) hj hij
theorem nmS_rising {all : List Str} (h : Rising all) {q : List Nat} (hq : q.Pairwise (· < ·)) (hl : ∀ x ∈ q, x < all.length) : Rising (nmS all q) := by
  unfold nmS Rising
  rw [List.pairwise_map]
  exact List.Pairwise.imp_of_mem (fun {x y} hx hy hlt => getD_lt h hlt (hl y hy)) hq
theorem reachS_rising (l : List (Str × Str)) (fr : List Str) : Rising (reachS l fr) :=
  nmS_rising (namesS_rising l fr) (List.Pairwise.filter _ List.pairwise_lt_range) fun x hx => by simpa using (List.mem_filter.1 hx).1
end Go.Proofs.YtggjaoibcfgofaaGreatDoor
namespace Go.Proofs.YtggjaoibcfgofaaGreatDoor
open Am C
set_option linter.unusedSimpArgs false
set_option linter.unusedVariables false
theorem rch_names {l : List (Str × Str)} {fr : List Str} {x : Str} (h : ∃ s ∈ fr, RchN l s x) : x ∈ namesS l fr := by
  obtain ⟨s, hs, hr⟩ := h
  cases hr with
  | refl => exact mem_namesS.2 (.inl hs)
  | tail _ e => exact (names_edges l fr _ e).2
end Go.Proofs.YtggjaoibcfgofaaGreatDoor
