/- Part 27 of the proof of the laws of the queries: QRun, QIdx, LedM. -/
import Derived.Test.YtggjaoibcfgofaaGreatDoorW25
import Derived.Test.YtggjaoibcfgofaaGreatDoorW26
namespace Go.Proofs.YtggjaoibcfgofaaGreatDoor
open Am C
set_option linter.unusedSimpArgs false
set_option linter.unusedVariables false
section
variable {H X : Hp} {G : Nat → List Nat} {n : Nat} {s : TS} {iw : Option Nat}
theorem SAt.topSet {jq : Nat} (A : SAt H X G n s iw (some jq)) (hH : ∀ k blk, H.get k = some blk → k < H.next) {b k k' : Nat} {R : List (Nat × Nat)} (hS : s.S = (b, k) :: R) {cs : List V} {mq : Nat} (gq : X.get jq = some (.cells cs mq)) :
    SAt H (X.upd jq (.cells (cs.set (R.length * 2 + 1) (.i .i64 (k' : Nat))) cs.length)) G n { s with S := (b, k') :: R } iw (some jq) := by
  have nx := A.nx
  obtain ⟨f1, f2, f3⟩ := A.fs jq rfl
  obtain ⟨m, wv, sv, h1, h2, h3, h4⟩ := A.obj
  have o : ∀ k, k ≤ H.next + 4 → ∀ blk, X.get k = some blk → (X.upd jq (.cells (cs.set (R.length * 2 + 1) (.i .i64 (k' : Nat))) cs.length)).get k = some blk := fun k hk blk g => by
    simp only [Hp.get_upd]; rw [if_neg (by omega)]; exact g
  refine ⟨A.ext.upd hH (by have := A.ext.1; omega) _, Hp.upd_lt A.lt f2 _, A.nx, A.num.imp fun m h => ⟨h.1, o _ (by omega) _ h.2⟩, A.low.imp fun m h => ⟨h.1, o _ (by omega) _ h.2⟩, A.wt.imp fun m h => ⟨h.1, o _ (by omega) _ h.2⟩, A.part.imp fun m h => ⟨h.1, o _ (by omega) _ h.2⟩,
    ⟨m, wv, sv, h1, o _ (by omega) _ h2, h3.keep fun k blk hk g => by simp only [Hp.get_upd]; rw [if_neg (fun e => f3 (by rw [hk, e]))]; exact g, ?_⟩, A.fw, A.fs⟩
  obtain ⟨cs', m', e1, e2, e3, e4, e5, e6⟩ := h4
  rw [gq] at e2
  injection e2 with e2; injection e2 with e2 e2'
  subst e2
  have hE : sE ({ s with S := (b, k') :: R } : TS).S.reverse = sE R.reverse ++ [[.i .i64 (b : Nat), .i .i64 (k' : Nat)]] := by simp [sE]
  have hE0 : sE s.S.reverse = sE R.reverse ++ [[.i .i64 (b : Nat), .i .i64 (k : Nat)]] := by simp [hS, sE]
  have fl : (sE R.reverse).flatten.length = R.length * 2 := by rw [flat_len (sE_len _)]; simp [sE]
  have hl : (sE R.reverse ++ [[V.i .i64 (b : Nat), .i .i64 (k' : Nat)]]).length = R.length + 1 := by simp [sE]
  have hl0 : (sE R.reverse ++ [[V.i .i64 (b : Nat), .i .i64 (k : Nat)]]).length = R.length + 1 := by simp [sE]
  rw [hE]
  rw [hE0] at e1 e4 e5
  have f5 : (sE R.reverse ++ [[V.i .i64 (b : Nat), .i .i64 (k' : Nat)]]).flatten.length = R.length * 2 + 2 := by rw [List.flatten_append, List.length_append, fl]; rfl
  have f6 : (sE R.reverse ++ [[V.i .i64 (b : Nat), .i .i64 (k : Nat)]]).flatten.length = R.length * 2 + 2 := by rw [List.flatten_append, List.length_append, fl]; rfl
  rw [f6] at e4 e5
  refine ⟨cs.set (R.length * 2 + 1) (.i .i64 (k' : Nat)), cs.length, by rw [e1, hl, hl0]; simp, by simp, by simp, by rw [f5]; simpa using e4, ?_, by simpa using e6⟩
  rw [f5, List.take_set, e5]
  simp only [List.flatten_append, List.flatten_cons, List.flatten_nil, List.append_nil]
  rw [List.set_append_right _ _ (by omega), fl, show R.length * 2 + 1 - R.length * 2 = 1 by omega]
  rfl
end
def RunF (H : Hp) (G : Nat → List Nat) (n met f : Nat) (o : Option V) : Fr := match o with
  | none => [(0, gV n G), (4, .p (some (H.next + 4, 0, 8))), (5, .i .i64 (met : Nat)), (22, .i .i64 n), (23, .i .i64 f)]
  | some x => [(0, gV n G), (4, .p (some (H.next + 4, 0, 8))), (5, .i .i64 (met : Nat)), (7, x), (22, .i .i64 n), (23, .i .i64 f)]
structure RI (H X : Hp) (G : Nat → List Nat) (n f : Nat) (s : TS) : Prop where
  T : TInv G n s
  at' : ∃ iw iq, SAt H X G n s iw iq
  cnt : s.met + cnt0 n s.num = n
  seen : ∀ x, x < f → s.num x ≠ 0
  kl : ∀ p ∈ s.S, p.2 ≤ (G p.1).length
def RunInv (H : Hp) (G : Nat → List Nat) (n : Nat) (m : Nat) (F : Fr) (X : Hp) : Prop :=
  ∃ f s, f ≤ n ∧ m = n - f ∧ RI H X G n f s ∧ s.S = [] ∧ F = RunF H G n s.met f none
def DeepInv (H : Hp) (G : Nat → List Nat) (n f : Nat) (m : Nat) (F : Fr) (X : Hp) : Prop :=
  ∃ s, m = 2 * cnt0 n s.num + s.S.length ∧ RI H X G n (f + 1) s ∧ F = RunF H G n s.met f none
def InInv (H : Hp) (G : Nat → List Nat) (n f b jq L : Nat) (R : List (Nat × Nat)) (num : Nat → Nat) (met : Nat) (m : Nat) (F : Fr) (X : Hp) : Prop :=
  ∃ s iw k, SAt H X G n s iw (some jq) ∧ TInv G n s ∧ s.S = (b, k) :: R ∧ s.met = met ∧ s.num = num ∧ k ≤ (G b).length ∧ m = (G b).length - k ∧ (∃ cs mq, X.get jq = some (.cells cs mq) ∧ cs.length = L) ∧ F = RunF H G n met f (some (.p (some (jq, R.length * 2, L))))
theorem RI.visit {H X : Hp} {G : Nat → List Nat} {n f f' : Nat} {s : TS} (I : RI H X G n f s) {a : Nat} (ha : s.num a = 0) (hn : a < n) {Y : Hp} {S' : List (Nat × Nat)} (T' : TInv G n (s.visit S' a)) (A' : ∃ iw iq, SAt H Y G n (s.visit S' a) iw iq) (hf : ∀ x, x < f' → x < f ∨ x = a) (hk : ∀ p ∈ S', p.2 ≤ (G p.1).length) : RI H Y G n f' (s.visit S' a) :=
  ⟨T', A', by
    have := cnt0_upd s.num (v := s.met + 1) (by omega) ha n hn
    have := I.cnt
    show s.met + 1 + cnt0 n (upd s.num a (s.met + 1)) = n
    omega, fun x hx => by
    show upd s.num a (s.met + 1) x ≠ 0
    by_cases e : x = a
    · rw [e, upd_same]; omega
    · rw [upd_ne _ _ e]; exact I.seen x ((hf x hx).resolve_right e), fun p hp => by
    rcases List.mem_cons.1 hp with rfl | hp
    · exact Nat.zero_le _
    · exact hk p hp⟩
theorem cnt_visit {n : Nat} {s : TS} {a : Nat} (ha : s.num a = 0) (hn : a < n) (S' : List (Nat × Nat)) : cnt0 n (s.visit S' a).num + 1 = cnt0 n s.num := cnt0_upd s.num (by omega) ha n hn
theorem run_ok (n : Nat) (G : Nat → List Nat) (hn : n ≤ 20000) (hG : ∀ x, x < n → ∀ y ∈ G x, y < n) (hGl : ∀ x, (G x).length ≤ 1000000) (H : Hp) (hlt : ∀ id blk, H.get id = some blk → id < H.next) :
    AC Tryz.prog n_tarjan_graph_run [gV n G] H (fun v H' => v = .p (some (H.next + 4, 0, 8)) ∧ ∃ s iw iq, SAt H H' G n s iw iq ∧ Fin0 G n s.parts s.part) := by
  refine AC.code tarjan_graph_run.at tarjan_graph_run.ok ?_
  simp only [tarjan_graph_run]
  refine AX.seq (AX.reg ?_)
  simp [tarjan_graph_run.r0]
  refine AX.seq (AX.reg ?_)
  simp [tarjan_graph_run.r1, gV]
  refine AX.seq (AX.drwA ?_)
  simp [tarjan_graph_run.r2, roomB, repl, show (n : Int) * 8 ≤ 140737488355328 by omega, show (n : Int) * 1 ≤ 140737488355328 by omega]
  refine ⟨.inr rfl, ⟨by omega, .inr rfl⟩, .inr rfl, ?_⟩
  rw [show V.fs ((List.range n).map fun i => [ns (G i)]) = gV n G from rfl, nI_zero, bI_false, show H.next + 1 + 3 = H.next + 4 by omega]
  have d0 : ¬ H.next = H.next + 1 + 3 := by omega
  have d1 : ¬ H.next + 1 = H.next + 1 + 3 := by omega
  have d2 : ¬ H.next + 2 = H.next + 1 + 3 := by omega
  have d3 : ¬ H.next + 3 = H.next + 1 + 3 := by omega
  have S0 : SAt H ((((((H.add (.cells (nI (fun _ => 0) n) n)).res 3).upd (H.next + 1) (.cells (nI (fun _ => 0) n) n)).upd (H.next + 2) (.cells (bI (fun _ => false) n) n)).upd (H.next + 3) (.cells (nI (fun _ => 0) n) n)).add (.cells [gV n G, .sl (some (H.next, 0, n)) n 1, .sl (some (H.next + 1, 0, n)) n 1, .sl (some (H.next + 2, 0, n)) n 1, .sl none 0 0, .sl (some (H.next + 3, 0, n)) n 1, .i .i64 0, .sl none 0 0] 8)) G n .init none none := by
    refine ⟨⟨by simp; omega, fun k blk g => ?_⟩, fun k blk g => ?_, by simp, ⟨n, Nat.le_refl _, by simp [TS.init, d0]⟩, ⟨n, Nat.le_refl _, by simp [TS.init, d1]⟩, ⟨n, Nat.le_refl _, by simp [TS.init, d2]⟩, ⟨n, Nat.le_refl _, by simp [TS.init, d3]⟩, ⟨8, .sl none 0 0, .sl none 0 0, Nat.le_refl _, by simp [TS.init], ⟨by simp [TS.init, wE], 0, rfl⟩, ⟨by simp [TS.init, sE], 0, rfl⟩⟩, fun k hk => (by cases hk), fun k hk => (by cases hk)⟩
    · have := hlt k blk g
      simp [show k ≠ H.next by omega, show k ≠ H.next + 1 by omega, show k ≠ H.next + 2 by omega, show k ≠ H.next + 3 by omega, show k ≠ H.next + 1 + 3 by omega, g]
    · by_cases h4 : k = H.next + 1 + 3
      · simp; omega
      · by_cases h3 : k = H.next + 3
        · simp; omega
        · by_cases h2 : k = H.next + 2
          · simp; omega
          · by_cases h1 : k = H.next + 1
            · simp; omega
            · by_cases h0 : k = H.next
              · simp; omega
              · simp [h0, h1, h2, h3, h4] at g
                have := hlt k blk g
                simp; omega
  generalize Hp.add _ _ = X0 at S0 ⊢
  refine AX.seq (AX.reg ?_)
  simp [tarjan_graph_run.r3]
  refine AX.seq (AX.seq (AX.reg ?_))
  simp [tarjan_graph_run.r4]
  refine AX.pblock (AX.loop (RunInv H G n) n ⟨_, _, .refl _ _, 0, .init, by omega, by omega, ⟨.init G n, ⟨_, _, S0⟩, ?_, fun x h => by omega, fun p hp => (by cases hp)⟩, rfl, rfl⟩ ?_)
  · simp [TS.init, cnt0]
  rintro m F X ⟨f, s, hf, rfl, I, hS, rfl⟩
  simp only [tarjan_graph_run.l0, RunF]
  refine AX.seq (AX.reg ?_)
  simp [tarjan_graph_run.r5]
  refine AX.seq (AX.pcond rfl (fun hc => AX.skip ?_) (fun hc => AX.exit ?_))
  · simp at hc
    simp
    refine AX.seq (AX.pblock (AX.seq (AX.reg ?_)))
    simp [tarjan_graph_run.r6]
    obtain ⟨iw, iq, A⟩ := I.at'
    obtain ⟨m1, p1, g1⟩ := A.num
    obtain ⟨mo, wv, sv, po, go, gw, gs⟩ := A.obj
    have hf1 : f + 1 ≤ n := hc
    have n1 := nI_at s.num hc
    refine AX.scope (AX.cut (fun F X => ∃ m, DeepInv H G n f m F X) ?_ ?_)
    · refine AX.seq (AX.reg ?_)
      simp [tarjan_graph_run.r7, go, po, g1, p1, hc, hf1, n1]
      by_cases h0 : s.num f = 0
      · refine AX.pcond (t := true) (by simp [h0]) (fun _ => AX.seq (AX.reg ?_)) (fun h => by simp at h)
        have hmn : s.met + 1 ≤ n := by have := cnt0_upd s.num (v := 1) (by omega) h0 n hc; have := I.cnt; omega
        simp [tarjan_graph_run.r8, i64_succ (show s.met ≤ 9223372036854775000 by omega)]
        refine AX.reg ?_
        simp [tarjan_graph_run.r9]
        have hWl := dec_len (f := s.num) I.T.Wn I.T.vis s.met (fun x _ => I.T.met x)
        have V := visit_ok A hlt hc (by omega) (by rw [hS]; simp)
        refine V.mono ?_
        rintro v X' ⟨iw', iq', A'⟩
        simp
        rw [hS] at A'
        have T' := I.T.visit h0 hc (S' := []) (by simp [TS.A, hS]) trivial (fun q hq => (by cases hq)) (fun b hb => by simp [TS.A, hS] at hb)
        exact ⟨_, _, .refl _ _, _, _, rfl, I.visit h0 hc T' ⟨_, _, A'⟩ (fun x hx => by omega) (fun p hp => (by cases hp)), by simp [RunF, TS.visit]⟩
      · refine AX.pcond (t := false) (by simp [h0]) (fun h => by simp at h) (fun _ => AX.skip ?_)
        simp
        exact ⟨_, _, .refl _ _, _, s, rfl, ⟨I.T, I.at', I.cnt, fun x hx => if e : x = f then e ▸ h0 else I.seen x (by omega), I.kl⟩, by simp [RunF]⟩
    rintro F2 X2 ⟨m2, s2, hm2, I2, rfl⟩
    refine AX.seq (AX.label ?_)
    simp
    refine AX.pblock (AX.loop (DeepInv H G n f) m2 ⟨_, _, .refl _ _, s2, hm2, I2, rfl⟩ ?_)
    clear A g1 go gw gs n1 I hS
    rintro m F Y ⟨t, hm, I3, rfl⟩
    simp only [tarjan_graph_run.l1, RunF]
    obtain ⟨iw3, iq3, A3⟩ := I3.at'
    obtain ⟨mo3, wv3, sv3, po3, go3, gw3, gs3⟩ := A3.obj
    refine AX.seq (AX.seq (AX.reg ?_))
    cases hS : t.S with
    | nil =>
      rw [hS] at gs3
      have hlen : ∃ z L o, sv3 = .sl o 0 L ∧ z = 0 := by
        cases iq3 with
        | none => obtain ⟨_, z, rfl⟩ := gs3; exact ⟨0, z, none, rfl, rfl⟩
        | some id => obtain ⟨cs, m, e, _⟩ := gs3; exact ⟨0, 2, _, by simpa [sE] using e, rfl⟩
      obtain ⟨_, L, o, rfl, _⟩ := hlen
      simp [tarjan_graph_run.r10, go3, po3]
      refine AX.pcond (t := false) rfl (fun h => by simp at h) (fun _ => AX.exit ?_)
      simp
      refine AX.reg ?_
      simp [tarjan_graph_run.r21, succ_of_lt hc (show n ≤ 9223372036854775807 by omega)]
      exact ⟨n - (f + 1), by omega, _, _, .refl _ _, f + 1, t, by omega, rfl, I3, hS, by simp [RunF]⟩
    | cons q R =>
      obtain ⟨b, k0⟩ := q
      have hsr : sE t.S.reverse = sE R.reverse ++ [[.i .i64 (b : Nat), .i .i64 (k0 : Nat)]] := by simp [hS, sE]
      rw [hsr] at gs3
      obtain ⟨jq, L, cs, mq, rfl, rfl, gq, q1, q2, q3, q4, _⟩ := gs3.pop
      have hsl : (sE R.reverse).length = R.length := by simp [sE]
      rw [hsl] at go3
      simp [tarjan_graph_run.r10, go3, po3]
      have hSl : R.length + 1 ≤ n := by
        have h1 := dec_len (f := t.num) I3.T.Sn (fun x hx => I3.T.vis x (I3.T.SW x hx)) t.met (fun x _ => I3.T.met x)
        have := I3.cnt
        simp [TS.A, hS] at h1; omega
      have ew : Go.IntKind.i64.wrap (R.length : Int) = (R.length : Nat) := wrap_i64 (by omega) (by omega)
      refine AX.pcond (t := true) (by simp) (fun _ => AX.skip ?_) (fun h => by simp at h)
      simp
      refine AX.pblock (AX.seq (AX.drw ?_))
      simp [tarjan_graph_run.r11, go3, po3, ew, show (R.length : Int) < R.length + 1 by omega]
      have hbA : b ∈ t.A := by simp [TS.A, hS]
      have hb := I3.T.dom b (I3.T.vis b (I3.T.SW b hbA))
      have hb1 : b + 1 ≤ n := hb
      have hGb : (((List.range n).map fun i => [ns (G i)])[b]? : Option (List V)) = some [ns (G b)] := by simp [hb]
      have hkb : k0 ≤ (G b).length := I3.kl (b, k0) (by simp [hS])
      refine AX.seq (AX.pblock (AX.loop (InInv H G n f b jq L R t.num t.met) ((G b).length - k0) ⟨_, _, .refl _ _, t, iw3, k0, A3, I3.T, hS, rfl, rfl, hkb, rfl, ⟨cs, mq, gq, q2.symm⟩, rfl⟩ ?_))
      have hklR : ∀ p ∈ R, p.2 ≤ (G p.1).length := fun p hp => I3.kl p (by simp [hS, hp])
      have hSlen : t.S.length = R.length + 1 := by rw [hS]; rfl
      clear gq q1 q2 q3 q4 go3 gw3 hS hsr
      rintro m F Z ⟨u, iw, k, A4, T4, hS4, hmet, hnum, hkl, rfl, ⟨cs, mq, gq, hcl⟩, rfl⟩
      simp only [tarjan_graph_run.l2, RunF]
      obtain ⟨mo4, wv4, sv4, po4, go4, gw4, gs4⟩ := A4.obj
      have hsr : sE u.S.reverse = sE R.reverse ++ [[.i .i64 (b : Nat), .i .i64 (k : Nat)]] := by simp [hS4, sE]
      rw [hsr] at gs4
      obtain ⟨jq', L', cs', mq', hjj, rfl, gq', q1, q2, q3, q4, _⟩ := gs4.pop
      injection hjj with hjj; subst hjj
      rw [gq] at gq'; injection gq' with gq'; injection gq' with e1 e2; subst e1; subst e2; subst hcl
      rw [← hsr] at q3 q4
      have hat : (sE u.S.reverse)[R.length]? = some [.i .i64 (b : Nat), .i .i64 (k : Nat)] := by
        rw [hsr, List.getElem?_append_right (by simp [sE])]; simp [sE]
      have hcb := Stk.cellGet (sz := 2) q3 (sE_len _) (i := 0) hat rfl
      have hck := Stk.cellGet (sz := 2) q3 (sE_len _) (i := 1) hat rfl
      simp only [Nat.add_zero] at hcb
      have c1 := take1_at hcb
      have c3 := take1_at hck
      have hfl4 : (sE u.S.reverse).flatten.length = (R.length + 1) * 2 := by rw [flat_len (sz := 2) (sE_len _)]; simp [sE, hS4]
      rw [hfl4] at q4
      rw [q2] at q4 q1
      have hcl1 : R.length * 2 + 1 ≤ cs.length := by omega
      have hcl2 : R.length * 2 + 1 + 1 ≤ cs.length := by omega
      have hmn : u.met ≤ n := by have := I3.cnt; omega
      have I4 : RI H Z G n (f + 1) u := ⟨T4, ⟨_, _, A4⟩, by rw [hmet, hnum]; exact I3.cnt, fun x hx => by rw [hnum]; exact I3.seen x hx, fun p hp => by
        rw [hS4] at hp
        rcases List.mem_cons.1 hp with rfl | hp
        · exact hkl
        · exact hklR p hp⟩
      have hGlb := hGl b
      refine AX.seq (AX.seq (AX.drw ?_))
      simp [tarjan_graph_run.r12, gV, hb, gq, q1, c1, c3, hcl1, hcl2, ns]
      refine AX.pcond rfl (fun hc2 => AX.skip ?_) (fun hc2 => AX.exit ?_)
      · simp at hc2
        obtain ⟨v, hv⟩ : ∃ v, (G b)[k]? = some v := ⟨_, List.getElem?_eq_getElem hc2⟩
        have hgv : (G b)[k] = v := (List.getElem?_eq_some_iff.1 hv).2
        have hvn := hG b hb v (List.mem_of_getElem? hv)
        have hvn1 : v + 1 ≤ n := hvn
        simp
        refine AX.pblock (AX.seq (AX.drw ?_))
        simp [tarjan_graph_run.r13, gV, hb, gq, q1, c1, c3, hcl1, hcl2, ns, hc2, hgv]
        refine AX.seq (AX.reg ?_)
        simp [tarjan_graph_run.r14, gq, q1, c3, hcl2, i64_succ (show k ≤ 9223372036854775000 by omega)]
        rw [show ((k : Int) + 1) = ((k + 1 : Nat) : Int) by omega]
        have A5 := A4.topSet hlt hS4 gq (k' := k + 1)
        obtain ⟨fs1, fs2, fs3⟩ := A4.fs jq rfl
        have go5 : (Z.upd jq (.cells (cs.set (R.length * 2 + 1) (.i .i64 ((k + 1 : Nat) : Int))) cs.length)).get (H.next + 4) = Z.get (H.next + 4) := by
          simp only [Hp.get_upd]; rw [if_neg (by omega)]
        rw [go4] at go5
        have gq5 : (Z.upd jq (.cells (cs.set (R.length * 2 + 1) (.i .i64 ((k + 1 : Nat) : Int))) cs.length)).get jq = some (.cells (cs.set (R.length * 2 + 1) (.i .i64 ((k + 1 : Nat) : Int))) cs.length) := by simp
        have hcb5 : (cs.set (R.length * 2 + 1) (.i .i64 ((k + 1 : Nat) : Int)))[R.length * 2]? = some (.i .i64 (b : Nat)) := by
          rw [List.getElem?_set_ne (by omega)]; exact hcb
        have c5 := take1_at hcb5
        have hcl5 : (cs.set (R.length * 2 + 1) (.i .i64 ((k + 1 : Nat) : Int))).length = cs.length := by simp
        generalize Z.upd jq _ = Z5 at A5 go5 gq5 ⊢
        generalize cs.set (R.length * 2 + 1) (.i .i64 ((k + 1 : Nat) : Int)) = cs5 at gq5 c5 hcl5 hcb5
        obtain ⟨m5, p5, g5⟩ := A5.num
        have n5 := nI_at u.num hvn
        simp only at g5
        refine AX.seq (AX.seq (AX.reg ?_))
        simp [tarjan_graph_run.r15, go5, po4, g5, p5, hvn, hvn1, n5]
        by_cases hz : u.num v = 0
        · refine AX.pcond (t := true) (by simp [hz]) (fun _ => AX.seq (AX.reg ?_)) (fun h => by simp at h)
          have hmn1 : u.met + 1 ≤ n := by have := cnt0_upd u.num (v := 1) (by omega) hz n hvn; have := I4.cnt; omega
          have ewm : Go.IntKind.i64.wrap ((t.met : Int) + 1) = ((u.met + 1 : Nat) : Int) := by rw [← hmet]; exact i64_succ (by omega)
          simp [tarjan_graph_run.r16, ewm]
          refine AX.seq (AX.reg ?_)
          simp [tarjan_graph_run.r17]
          have hWl := dec_len (f := u.num) T4.Wn T4.vis u.met (fun x _ => T4.met x)
          refine (visit_ok A5 hlt hvn (by show u.W.length ≤ 20000; omega) (by show R.length + 1 ≤ 20000; omega)).mono ?_
          rintro w X' ⟨iw', iq', A'⟩
          have hkb' : (b, k + 1).2 ≤ (G (b, k + 1).1).length := by simp only; omega
          have T' := T4.visit hz hvn (S' := (b, k + 1) :: R) (by simp [TS.A, hS4]) ⟨⟨k, rfl, hv⟩, (hS4 ▸ T4.ch : Chn G ((b, k) :: R)).top⟩ (fun q hq => by
            rcases List.mem_cons.1 hq with rfl | hq
            · exact T4.p7t _ _ hS4
            · exact T4.p7r _ _ hS4 q hq) (fun c hc' => by
            have hbA : b ∈ u.A := by simp [TS.A, hS4]
            have hle : u.num c ≤ u.num b := by
              have h1 := T4.Sn
              simp only [TS.A, hS4, List.map_cons, List.pairwise_cons] at h1
              simp only [TS.A, hS4, List.map_cons, List.mem_cons] at hc'
              rcases hc' with rfl | hc'
              · exact Nat.le_refl _
              · exact Nat.le_of_lt (h1.1 c hc')
            exact (T4.p4 b (T4.SW b hbA) c hc' hle).tail (List.mem_of_getElem? hv))
          simp
          refine AX.exit ?_
          simp
          have hcv := cnt_visit hz hvn ((b, k + 1) :: R)
          refine ⟨2 * cnt0 n (u.visit ((b, k + 1) :: R) v).num + (R.length + 2), by rw [hm, hSlen, ← hnum]; omega, _, _, .refl _ _, u.visit ((b, k + 1) :: R) v, rfl, I4.visit hz hvn T' ⟨_, _, A'⟩ (fun x hx => .inl hx) (fun p hp => ?_), ?_⟩
          · rcases List.mem_cons.1 hp with rfl | hp
            · exact hkb'
            · exact hklR p hp
          · simp [RunF, gV, ns, TS.visit]
        · refine AX.pcond (t := false) (by simp [hz]) (fun h => by simp at h) (fun _ => AX.skip ?_)
          obtain ⟨m6, p6, g6⟩ := A5.wt
          obtain ⟨m7, p7, g7⟩ := A5.low
          have n6 := bI_at u.wt hvn
          have n7 := nI_at u.low hb
          simp only at g6 g7
          simp
          refine AX.seq (AX.reg ?_)
          simp [tarjan_graph_run.r18, go5, po4, g6, p6, hvn, hvn1, n6]
          by_cases hw : u.wt v = true
          · refine AX.pcond (t := true) (by simp [hw]) (fun _ => AX.drw ?_) (fun h => by simp at h)
            have e5 : cs5.length = cs.length := hcl5
            simp [tarjan_graph_run.r19, go5, po4, g5, g7, p5, p7, hvn, hvn1, hb, hb1, n5, n7, gq5, c5, e5, hcl1]
            rw [show (min ((u.low b : Nat) : Int) ((u.num v : Nat) : Int)) = ((min (u.low b) (u.num v) : Nat) : Int) by omega, nI_set]
            have hvW : v ∈ u.W := (T4.wtW v).1 hw
            have hbW : b ∈ u.W := T4.SW b (by simp [TS.A, hS4])
            have T' := T4.edge hS4 hv hz (L := upd u.low b (min (u.low b) (u.num v))) (fun x hx => upd_ne _ _ hx) (by rw [upd_same]; omega) (fun _ => by rw [upd_same]; omega) (by
              rw [upd_same]
              by_cases hle : u.low b ≤ u.num v
              · exact .inl (by omega)
              · exact .inr ⟨hvW, by omega⟩)
            refine ⟨(G b).length - (k + 1), by omega, _, _, .refl _ _, _, _, k + 1, A5.lowSet hlt _, T', rfl, hmet, hnum, by omega, rfl, ⟨cs5, cs.length, ?_, hcl5⟩, by simp [RunF, gV, ns]⟩
            simp only [Hp.get_upd]; rw [if_neg (by omega)]; exact gq5
          · refine AX.pcond (t := false) (by simp [hw]) (fun h => by simp at h) (fun _ => AX.skip ?_)
            simp
            have hvW : v ∉ u.W := fun h => hw ((T4.wtW v).2 h)
            have T' := T4.edge hS4 hv hz (L := u.low) (fun x _ => rfl) (Nat.le_refl _) (fun h => absurd h hvW) (.inl rfl)
            refine ⟨(G b).length - (k + 1), by omega, _, _, .refl _ _, _, _, k + 1, A5, T', rfl, hmet, hnum, by omega, rfl, ⟨cs5, _, gq5, hcl5⟩, by simp [RunF, gV, ns]⟩
      · simp at hc2
        simp
        refine AX.reg ?_
        simp [tarjan_graph_run.r20, gq, q1, c1, hcl1]
        refine (leave_ok A4 hlt hn T4 hmn hS4 (fun i x hi => ?_)).mono ?_
        · have := (List.getElem?_eq_some_iff.1 hi).1; omega
        rintro w X' ⟨s', iw', iq', A', T', e1, e2, e3⟩
        simp
        refine ⟨_, ?_, _, _, .refl _ _, s', rfl, ⟨T', ⟨_, _, A'⟩, by rw [e2, e3]; exact I4.cnt, fun x hx => by rw [e2]; exact I4.seen x hx, fun p hp => hklR p (by rw [← e1]; exact hp)⟩, ?_⟩
        · rw [e2, e1, hnum]; omega
        · simp [RunF, gV, e3, hmet, ns]
  simp at hc
  have : f = n := by omega
  subst this
  obtain ⟨iw, iq, A⟩ := I.at'
  simp
  refine AX.seq (AX.reg ?_)
  simp [tarjan_graph_run.r22]
  refine AX.ret ?_
  simp
  exact ⟨s, ⟨_, _, A⟩, I.T.fin hS I.seen hG⟩
end Go.Proofs.YtggjaoibcfgofaaGreatDoor
namespace Go.Proofs.YtggjaoibcfgofaaGreatDoor
open Am C
set_option linter.unusedSimpArgs false
set_option linter.unusedVariables false
def IdxIInv (v : V) (l : List Nat) (x : Nat) (X : Hp) (m : Nat) (F : Fr) (Y : Hp) : Prop :=
  ∃ i, i ≤ l.length ∧ m = l.length - i ∧ x ∉ l.take i ∧ Y = X ∧ F = [(0, v), (1, .i .i64 (x : Nat)), (7, .i .i64 l.length), (8, .i .i64 i)]
theorem IdxI_ok (l : List Nat) (x : Nat) (v : V) (k : Nat) (X : Hp) (hl : l.length ≤ 1000000000) (h : SlOf X (nc l) v k) : AC Tryz.prog n_slices_Index_int_int [v, .i .i64 (x : Nat)] X (fun u X' => (∃ z : Int, u = .i .i64 z ∧ (0 ≤ z ↔ x ∈ l)) ∧ X' = X) := by
  refine AC.code slices_Index_int_int.at slices_Index_int_int.ok ?_
  simp only [slices_Index_int_int]
  have hnl : (nc l).length = l.length := by simp [nc]
  have hlen : ∃ o e, v = .sl o l.length e ∧ ∀ (i n : Nat), l[i]? = some n → ∃ m, v = .sl (some (k, 0, l.length)) l.length 1 ∧ X.get k = some (.cells (nc l) m) ∧ m ≤ l.length := by
    rcases h with ⟨e, z, rfl⟩ | ⟨_, rfl, m, g, hm⟩
    · have : l = [] := by simpa [nc] using e
      subst this
      exact ⟨_, _, rfl, fun i n h => by simp at h⟩
    · rw [hnl] at hm ⊢
      exact ⟨_, _, rfl, fun i n h => ⟨m, rfl, g, hm⟩⟩
  obtain ⟨o, e, hv, hat⟩ := hlen
  refine AX.seq (AX.reg ?_)
  simp [slices_Index_int_int.r0]
  refine AX.seq (AX.seq (AX.reg ?_))
  simp [slices_Index_int_int.r1, hv]
  rw [← hv]
  refine AX.pblock (AX.loop (IdxIInv v l x X) l.length ⟨_, _, .refl _ _, 0, by omega, by omega, by simp, rfl, rfl⟩ ?_)
  rintro m F Y ⟨i, hi, rfl, hx, rfl, rfl⟩
  simp only [slices_Index_int_int.l0]
  refine AX.seq (AX.reg ?_)
  simp [slices_Index_int_int.r2]
  refine AX.seq (AX.pcond rfl (fun hc => AX.skip ?_) (fun hc => AX.exit ?_))
  · simp at hc
    obtain ⟨m, hv2, g, hm⟩ := hat i _ (List.getElem?_eq_getElem hc)
    have c1 : ((nc l).drop i).take 1 = [.i .i64 (l[i] : Nat)] := take1_at (by simp [nc, hc])
    simp
    refine AX.seq (AX.pblock (AX.seq (AX.reg ?_)))
    simp [slices_Index_int_int.r3]
    refine AX.seq (AX.reg ?_)
    simp [slices_Index_int_int.r4, hv2, hc, g, hm, c1, show i + 1 ≤ l.length from hc]
    by_cases hd : x = l[i]
    · refine AX.pcond (t := true) (by simp [hd]) (fun _ => AX.seq (AX.reg ?_)) (fun h => by simp at h)
      simp [slices_Index_int_int.r5]
      refine AX.ret ?_
      simp
      rw [hd]; exact List.getElem_mem hc
    · refine AX.pcond (t := false) (by simp; omega) (fun h => by simp at h) (fun _ => AX.skip ?_)
      simp
      refine AX.reg ?_
      simp [slices_Index_int_int.r6, succ_of_lt hc (show l.length ≤ 9223372036854775807 by omega)]
      refine ⟨l.length - (i + 1), by omega, _, _, .refl _ _, i + 1, by omega, rfl, ?_, rfl, by simp [hv2]⟩
      rw [List.take_add_one, List.getElem?_eq_getElem hc]
      intro hm'
      rcases List.mem_append.1 hm' with h | h
      · exact hx h
      · simp at h; exact hd h
  simp at hc
  rw [List.take_of_length_le hc] at hx
  simp
  refine AX.seq (AX.reg ?_)
  simp [slices_Index_int_int.r7]
  refine AX.ret ?_
  simp [hx]
theorem ConI_ok (l : List Nat) (x : Nat) (v : V) (k : Nat) (X : Hp) (hl : l.length ≤ 1000000000) (h : SlOf X (nc l) v k) : AC Tryz.prog n_slices_Contains_int_int [v, .i .i64 (x : Nat)] X (fun u X' => u = .b (decide (x ∈ l)) ∧ X' = X) := by
  refine AC.code slices_Contains_int_int.at slices_Contains_int_int.ok ?_
  simp only [slices_Contains_int_int]
  refine AX.seq (AX.reg ?_)
  simp [slices_Contains_int_int.r0]
  refine AX.seq (AX.reg ?_)
  simp [slices_Contains_int_int.r1]
  refine (IdxI_ok l x v k X hl h).mono ?_
  rintro u X' ⟨⟨z, rfl, hz⟩, rfl⟩
  simp
  refine AX.ret ?_
  simp [hz]
section
open Go Go.RowKit
theorem Am.AC.codePQ {P : Program} {f : FuncId} {fn : Func} {a : AFunc} (hf : P.funcs[f]? = some fn) (hok : okFunc P fn a = true) {args : List V} {H : Hp} {r : V} {Q : Prop} (hr : free r)
    (h : (∀ id blk, H.get id = some blk → id < H.next) → AX P a.n a.body (Ends (fun v H' => (H.Ext H' ∧ Frz H' (fun id => H.next ≤ id) v r) ∧ Q) a.res) (fr0 0 args) H) : AC P f args H (fun v H' => v = r ∧ H' = H ∧ Q) := by
  by_cases hQ : Q
  · exact (AC.codeP hf hok hr fun hl => (h hl).mono fun x F H hx => ⟨hx.1, hx.2.imp fun v q => ⟨q.1, q.2.1⟩⟩).mono fun v H' q => ⟨q.1, q.2, hQ⟩
  · exact (AC.lt (okFn_of hf hok) fun hl => AC.code (R := fun _ _ => False) hf hok ((h hl).mono fun x F H hx => ⟨hx.1, hx.2.imp fun v q => absurd q.2.2 hQ⟩)).mono fun v H' q => q.elim
end
end Go.Proofs.YtggjaoibcfgofaaGreatDoor
namespace Go.Proofs.YtggjaoibcfgofaaGreatDoor
set_option linter.unusedSimpArgs false
set_option linter.unusedVariables false
structure LdI (G : Nat → List Nat) (part : Nat → Nat) (k i : Nat) (ld : Nat → List Nat) : Prop where
  nd : ∀ q, (ld q).Nodup
  mem : ∀ p q, p ∈ ld q ↔ p ≠ q ∧ ∃ x y, ((x < k ∧ y ∈ G x) ∨ (x = k ∧ y ∈ (G k).take i)) ∧ part x = p ∧ part y = q
theorem LdI.init (G : Nat → List Nat) (part : Nat → Nat) : LdI G part 0 0 fun _ => [] :=
  ⟨fun q => List.nodup_nil, fun p q => ⟨fun h => (by cases h), fun ⟨_, x, y, h, _⟩ => by
    rcases h with ⟨h, _⟩ | ⟨_, h⟩
    · omega
    · simp at h⟩⟩
theorem take_mem {α : Type} {l : List α} {i : Nat} {y : α} (h : l[i]? = some y) {z : α} : z ∈ l.take (i + 1) ↔ z ∈ l.take i ∨ z = y := by
  rw [List.take_add_one, h]; simp
theorem LdI.same {G : Nat → List Nat} {part : Nat → Nat} {k i : Nat} {ld : Nat → List Nat} (L : LdI G part k i ld) {y : Nat} (hy : (G k)[i]? = some y) (h : part k = part y ∨ part k ∈ ld (part y)) : LdI G part k (i + 1) ld := by
  refine ⟨L.nd, fun p q => ?_⟩
  rw [L.mem p q]
  refine and_congr_right fun hne => ⟨fun ⟨x, z, h1, h2, h3⟩ => ⟨x, z, h1.imp id fun h => ⟨h.1, (take_mem hy).2 (.inl h.2)⟩, h2, h3⟩, fun ⟨x, z, h1, h2, h3⟩ => ?_⟩
  rcases h1 with h1 | ⟨h1, h4⟩
  · exact ⟨x, z, .inl h1, h2, h3⟩
  · rcases (take_mem hy).1 h4 with h4 | h4
    · exact ⟨x, z, .inr ⟨h1, h4⟩, h2, h3⟩
    · rw [h1] at h2; rw [h4] at h3
      rcases h with h | h
      · exact absurd (h2.symm.trans (h.trans h3)) hne
      · rw [h2, h3] at h
        exact ((L.mem p q).1 h).2
theorem LdI.add {G : Nat → List Nat} {part : Nat → Nat} {k i : Nat} {ld : Nat → List Nat} (L : LdI G part k i ld) {y : Nat} (hy : (G k)[i]? = some y) (h1 : part k ≠ part y) (h2 : part k ∉ ld (part y)) : LdI G part k (i + 1) (upd ld (part y) (ld (part y) ++ [part k])) := by
  refine ⟨fun q => ?_, fun p q => ?_⟩
  · by_cases e : q = part y
    · subst e
      rw [upd_same, List.nodup_append]
      exact ⟨L.nd _, by simp, fun a ha b hb e => h2 (by simp at hb; rw [← hb, ← e]; exact ha)⟩
    · rw [upd_ne _ _ e]; exact L.nd q
  · have hold : p ∈ ld q ↔ _ := L.mem p q
    by_cases hpq : p = part k ∧ q = part y
    · obtain ⟨rfl, rfl⟩ := hpq
      rw [upd_same]
      exact ⟨fun _ => ⟨h1, k, y, .inr ⟨rfl, (take_mem hy).2 (.inr rfl)⟩, rfl, rfl⟩, fun _ => by simp⟩
    · have : p ∈ upd ld (part y) (ld (part y) ++ [part k]) q ↔ p ∈ ld q := by
        by_cases e : q = part y
        · subst e
          rw [upd_same]
          simp only [List.mem_append, List.mem_singleton]
          exact ⟨fun h => h.resolve_right fun e => hpq ⟨e, rfl⟩, .inl⟩
        · rw [upd_ne _ _ e]
      rw [this, hold]
      refine and_congr_right fun hne => ⟨fun ⟨x, z, h1, h2, h3⟩ => ⟨x, z, h1.imp id fun h => ⟨h.1, (take_mem hy).2 (.inl h.2)⟩, h2, h3⟩, fun ⟨x, z, g1, g2, g3⟩ => ?_⟩
      rcases g1 with g1 | ⟨g1, g4⟩
      · exact ⟨x, z, .inl g1, g2, g3⟩
      · rcases (take_mem hy).1 g4 with g4 | g4
        · exact ⟨x, z, .inr ⟨g1, g4⟩, g2, g3⟩
        · rw [g1] at g2; rw [g4] at g3
          exact absurd ⟨g2.symm, g3.symm⟩ hpq
theorem LdI.row {G : Nat → List Nat} {part : Nat → Nat} {k : Nat} {ld : Nat → List Nat} (L : LdI G part k (G k).length ld) : LdI G part (k + 1) 0 ld := by
  refine ⟨L.nd, fun p q => ?_⟩
  rw [L.mem p q]
  refine and_congr_right fun hne => ⟨fun ⟨x, z, h1, h2, h3⟩ => ⟨x, z, .inl ?_, h2, h3⟩, fun ⟨x, z, h1, h2, h3⟩ => ⟨x, z, ?_, h2, h3⟩⟩
  · rcases h1 with ⟨h1, h4⟩ | ⟨rfl, h4⟩
    · exact ⟨by omega, h4⟩
    · exact ⟨by omega, by rwa [List.take_length] at h4⟩
  · rcases h1 with ⟨h1, h4⟩ | ⟨_, h4⟩
    · by_cases e : x = k
      · subst e; exact .inr ⟨rfl, by rwa [List.take_length]⟩
      · exact .inl ⟨by omega, h4⟩
    · simp at h4
theorem LdI.led {G : Nat → List Nat} {part : Nat → Nat} {n : Nat} {ld : Nat → List Nat} (L : LdI G part n 0 ld) {p q : Nat} : p ∈ ld q ↔ Led G n part p q := by
  rw [L.mem p q]
  refine and_congr_right fun hne => ⟨fun ⟨x, z, h1, h2, h3⟩ => ?_, fun ⟨x, hx, y, hy, h2, h3⟩ => ⟨x, y, .inl ⟨hx, hy⟩, h2, h3⟩⟩
  rcases h1 with ⟨h1, h4⟩ | ⟨_, h4⟩
  · exact ⟨x, h1, z, h4, h2, h3⟩
  · simp at h4
def opn (P : Nat) (ld : Nat → List Nat) (st : Nat → Bool) (p : Nat) : Nat := cntB P fun q => decide (p ∈ ld q) && !st q
def opv (P : Nat) (ld : Nat → List Nat) (st : Nat → Bool) (p : Nat) : Int := if st p then -1 else (opn P ld st p : Nat)
theorem opn_add {P : Nat} {ld : Nat → List Nat} {p q : Nat} (hq : q < P) (h : p ∉ ld q) (k : Nat) : opn P (upd ld q (ld q ++ [p])) (fun _ => false) k = if k = p then opn P ld (fun _ => false) k + 1 else opn P ld (fun _ => false) k := by
  unfold opn
  by_cases e : k = p
  · subst e
    rw [if_pos rfl]
    refine cntB_set (a := q) (by simp [h]) (by simp) (fun x hx => by simp [upd_ne _ _ hx]) P hq
  · rw [if_neg e]
    refine cntB_congr fun x _ => ?_
    by_cases hx : x = q
    · subst hx; simp [e]
    · simp [upd_ne _ _ hx]
theorem opv_stand {P : Nat} {ld : Nat → List Nat} {st : Nat → Bool} {b : Nat} (hb : b < P) (hbs : st b = false) (hcl : ∀ p q, st p = true → p ∈ ld q → st q = true) (hself : b ∉ ld b) (p : Nat) :
    opv P ld (upd st b true) p = if p = b then -1 else opv P ld st p - (if p ∈ ld b then 1 else 0) := by
  by_cases e : p = b
  · subst e; simp [opv]
  · rw [if_neg e]
    unfold opv
    rw [upd_ne _ _ e]
    cases hs : st p with
    | true =>
      have : p ∉ ld b := fun h => by have := hcl p b hs h; rw [hbs] at this; cases this
      simp [this]
    | false =>
      simp only [Bool.false_eq_true, if_false]
      by_cases hl : p ∈ ld b
      · have := cntB_set (f := fun q => decide (p ∈ ld q) && !(upd st b true) q) (g := fun q => decide (p ∈ ld q) && !st q) (a := b) (by simp) (by simp [hl, hbs]) (fun x hx => by simp [upd_ne _ _ hx]) P hb
        unfold opn
        rw [if_pos hl]
        omega
      · have : cntB P (fun q => decide (p ∈ ld q) && !(upd st b true) q) = cntB P (fun q => decide (p ∈ ld q) && !st q) := cntB_congr fun x _ => by
          by_cases hx : x = b
          · subst hx; simp [hl]
          · simp [upd_ne _ _ hx]
        unfold opn
        rw [if_neg hl, this]; omega
theorem opv_zero {P : Nat} {ld : Nat → List Nat} {st : Nat → Bool} {p : Nat} : opv P ld st p = 0 ↔ st p = false ∧ ∀ q, q < P → p ∈ ld q → st q = true := by
  unfold opv
  cases hs : st p with
  | true => simp
  | false =>
    simp only [Bool.false_eq_true, if_false, true_and]
    rw [show ((opn P ld st p : Nat) : Int) = 0 ↔ opn P ld st p = 0 by omega, opn, cntB_zero]
    refine forall_congr' fun q => forall_congr' fun _ => ?_
    by_cases h : p ∈ ld q <;> cases st q <;> simp [h]
end Go.Proofs.YtggjaoibcfgofaaGreatDoor
