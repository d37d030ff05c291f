/- Part 23 of the proof of the laws of the queries: QWr3, QNamM, QIns, QIns2, QIns3. -/
import Derived.Shelf.Spec.SlicesInsert
import Derived.Shelf.Spec.SlicesInsertGrow
import Derived.Ground.Names2Prog
import Derived.Test.YtjajpilacdfnbaaGreatDoorX19
import Derived.Test.YtjajpilacdfnbaaGreatDoorX22
namespace Go.Proofs.YtjajpilacdfnbaaGreatDoor
open Am C
set_option linter.unusedSimpArgs false
set_option linter.unusedVariables false
theorem ykh (d : Nd) (hr : y6b d = true) (w : Go.World) (ht : Pow w) :
    Go.Calls Tryz.prog 109 #[.agg #[.int .i64 d.kind, .string ⟨d.fn.toArray⟩, .int .i64 d.copy, .string ⟨d.name.toArray⟩, .int .i64 d.n, .int .i64 d.cell]] w fun e w' => e = .returned (.string ⟨(y3b d).toArray⟩) ∧ Go.RowKit.Below w.heap.size w w' := by
  obtain ⟨k1, k7, hcp, hn, hcell, hfn, hnm, hnn⟩ := (y7m d).1 hr
  obtain ⟨k, fn, cp, nm, n, cl⟩ := d
  simp only at *
  have lfn : fn.length ≤ 16 := by
    rcases hfn with ⟨a, b, c⟩ | ⟨a, b⟩
    · subst b; simp
    · exact ybo b
  have lnm : nm.length ≤ 16 := by
    rcases hnm with ⟨a, b⟩ | ⟨a, b⟩
    · exact ybo b
    · subst b; simp
  have hcp' := of_decide_eq_true hcp
  have hn' := of_decide_eq_true hn
  have hcl : cl = -1 ∨ (5 ≤ k ∧ cl ≠ -1 ∧ 0 ≤ cl ∧ cl ≤ 268435456) := by
    rcases hcell with c | ⟨c, h⟩
    · exact .inl c
    · have := of_decide_eq_true h
      exact .inr ⟨c, by omega, this⟩
  have hc0 : cp = 0 ∨ 0 < cp := by omega
  rcases (by omega : k = 1 ∨ k = 2 ∨ k = 3 ∨ k = 4 ∨ k = 5 ∨ k = 6 ∨ k = 7) with rfl | rfl | rfl | rfl | rfl | rfl | rfl
  · rcases hcl with rfl | hl
    · rcases hc0 with rfl | hc
      · exact ykz fn nm n lfn lnm hn' w ht
      · exact yky fn cp nm n lfn lnm hn' hc (by omega) w ht
    · omega
  · rcases hcl with rfl | hl
    · rcases hc0 with rfl | hc
      · exact ykx fn nm n lfn lnm hn' w ht
      · exact ykw fn cp nm n lfn lnm hn' hc (by omega) w ht
    · omega
  · rcases hcl with rfl | hl
    · rcases hc0 with rfl | hc
      · exact ykv fn nm n lfn lnm hn' w ht
      · exact yku fn cp nm n lfn lnm hn' hc (by omega) w ht
    · omega
  · rcases hcl with rfl | hl
    · rcases hc0 with rfl | hc
      · exact ykt fn nm n lfn lnm hn' w ht
      · exact yks fn cp nm n lfn lnm hn' hc (by omega) w ht
    · omega
  · obtain ⟨hf0, h0⟩ : fn = [] ∧ cp = 0 := by
      rcases hfn with ⟨a, b, c⟩ | ⟨a, b⟩
      · exact ⟨b, c⟩
      · exact absurd rfl a
    subst h0
    rcases hcl with rfl | hl
    · exact ykr fn nm n lfn lnm hn' hf0 w ht
    · exact ykq fn nm n cl lfn lnm hn' hf0 hl.2.1 hl.2.2 w ht
  · rcases hcl with rfl | hl
    · rcases hc0 with rfl | hc
      · exact ykp fn nm n lfn lnm hn' w ht
      · exact ykn fn cp nm n lfn lnm hn' hc (by omega) w ht
    · rcases hc0 with rfl | hc
      · exact yko fn nm n cl lfn lnm hn' hl.2.1 hl.2.2 w ht
      · exact ykm fn cp nm n cl lfn lnm hn' hc (by omega) hl.2.1 hl.2.2 w ht
  · rcases hcl with rfl | hl
    · rcases hc0 with rfl | hc
      · exact ykl fn nm n lfn lnm hn' w ht
      · exact ykj fn cp nm n lfn lnm hn' hc (by omega) w ht
    · rcases hc0 with rfl | hc
      · exact ykk fn nm n cl lfn lnm hn' hl.2.1 hl.2.2 w ht
      · exact yki fn cp nm n cl lfn lnm hn' hc (by omega) hl.2.1 hl.2.2 w ht
theorem vr_nv {κ : K} {d : Nd} {c : Go.Value} (h : VR κ (nv d) c) : c = .agg #[.int .i64 d.kind, .string ⟨d.fn.toArray⟩, .int .i64 d.copy, .string ⟨d.name.toArray⟩, .int .i64 d.n, .int .i64 d.cell] := by
  unfold nv at h
  cases h with
  | agg _ cs hl hv =>
    have hl' : cs.length = 6 := hl.symm
    match cs, hl' with
    | [a0, a1, a2, a3, a4, a5], _ =>
      have e0 := vr_i (hv 0 _ rfl)
      have e1 := vr_s (hv 1 _ rfl)
      have e2 := vr_i (hv 2 _ rfl)
      have e3 := vr_s (hv 3 _ rfl)
      have e4 := vr_i (hv 4 _ rfl)
      have e5 := vr_i (hv 5 _ rfl)
      simp at e0 e1 e2 e3 e4 e5
      subst e0 e1 e2 e3 e4 e5
      rfl
theorem write_ok (d : Nd) (hr : y6b d = true) (H : Hp) : AC Tryz.prog 109 [nv d] H (fun v H' => v = .s (y3b d) ∧ H' = H) := by
  refine AC.belowS (by kernel_rfl) fun κ cs S r => ?_
  obtain ⟨a, rfl, ra⟩ := r.one'
  obtain rfl := vr_nv ra
  exact ⟨_, fun κ' => .s _, ykh d hr κ.w (pow10_of S)⟩
def y7k (s : Str) : Option Nd := if (y7n s).2 = true ∧ y6b (y7n s).1 = true ∧ y3b (y7n s).1 = s then some (y7n s).1 else none
theorem ylj (s : Str) : (y7n s).1.fn.length ≤ s.length ∧ (y7n s).1.name.length ≤ s.length := by
  have ht : ∀ (d : Nd) (r : Str), (ya7 d r).1.fn = d.fn ∧ ((ya7 d r).1.name = d.name ∨ (ya7 d r).1.name.length ≤ r.length) := by
    intro d r
    cases r with
    | nil => simp [ya7]
    | cons c r =>
      simp only [ya7]
      repeat' split
      all_goals simp
  have hm : ∀ (d : Nd) (r : Str), (ydg d r).1.fn = d.fn ∧ ((ydg d r).1.name = d.name ∨ (ydg d r).1.name.length ≤ r.length) := by
    intro d r
    cases r with
    | nil => simp [ydg]
    | cons c r =>
      have hs := y5n r
      simp only [ydg]
      repeat' split
      · simp
      · have := ht { d with copy := (y5m (y3a r).1).1 } (y3a r).2
        refine ⟨this.1, this.2.imp id fun h => ?_⟩
        simp; omega
      · exact ht _ _
  have hh : ∀ (cl : Int) (r : Str), (y9z cl r).1.fn.length ≤ r.length ∧ (y9z cl r).1.name.length ≤ r.length := by
    intro cl r
    have hs := y5n r
    simp only [y9z]
    split
    · simp [Nd.zero]; omega
    · have := hm { Nd.zero with fn := (y3a r).1, cell := cl } (y3a r).2
      refine ⟨by rw [this.1]; exact hs.1, ?_⟩
      rcases this.2 with h | h
      · exact Nat.le_trans (Nat.le_of_eq (congrArg List.length h)) (by simp [Nd.zero])
      · exact Nat.le_trans h hs.2
  simp only [y7n]
  repeat' split
  · simp [Nd.zero]
  · rename_i h1 h2
    have := hh (y5m (s.drop ((Go.Lib.indexByte s 43).toNat + 1))).1 (s.take (Go.Lib.indexByte s 43).toNat)
    simp at this
    omega
  · exact hh _ _
theorem yc3 (s : Str) (hs : s.length ≤ 9223372036854775806) (H : Hp) : AC Tryz.prog y6h [.s s] H (fun v H' => v = rdV (y7k s) ∧ H' = H) := by
  have hfr : ybf (rdV (y7k s)) := by
    unfold rdV; split <;> simp [nv, Nd.cs]
  have hl := ylj s
  refine AC.codeP y2m.at y2m.ok hfr fun hlt => ?_
  simp only [y2m]
  refine AX.sr ?_
  simp [y2m.r0]
  refine AX.sr ?_
  simp [y2m.r1]
  refine AC.fix (read_ok s hs _) ?_
  have hrd : y7k s = if (y7n s).2 = true ∧ y6b (y7n s).1 = true ∧ y3b (y7n s).1 = s then some (y7n s).1 else none := rfl
  rw [hrd]
  clear hrd hfr
  generalize y7n s = q at hl ⊢
  obtain ⟨⟨k, fn, cp, nm, n, cl⟩, ok⟩ := q
  simp only at hl ⊢
  simp [rkV, nv, Nd.cs]
  have e1 : H.Ext (((H.add (.cells [.i .i64 0, .s [], .i .i64 0, .s [], .i .i64 0, .i .i64 0] 6)).add (.cells [.i .i64 0, .s [], .i .i64 0, .s [], .i .i64 0, .i .i64 0] 6)).upd (H.next + 1) (.cells [.i .i64 k, .s fn, .i .i64 cp, .s nm, .i .i64 n, .i .i64 cl] 6)) :=
    (((Hp.Ext.add hlt _).trans (.add (Hp.add_lt hlt _) _)).upd hlt (by omega) _)
  obtain ⟨X, hX⟩ : ∃ X, X = ((H.add (.cells [.i .i64 0, .s [], .i .i64 0, .s [], .i .i64 0, .i .i64 0] 6)).add (.cells [.i .i64 0, .s [], .i .i64 0, .s [], .i .i64 0, .i .i64 0] 6)).upd (H.next + 1) (.cells [.i .i64 k, .s fn, .i .i64 cp, .s nm, .i .i64 n, .i .i64 cl] 6) := ⟨_, rfl⟩
  have g2 : X.get H.next = some (.cells [.i .i64 0, .s [], .i .i64 0, .s [], .i .i64 0, .i .i64 0] 6) := by rw [hX]; simp
  have g4 : X.get (H.next + 1) = some (.cells [.i .i64 k, .s fn, .i .i64 cp, .s nm, .i .i64 n, .i .i64 cl] 6) := by rw [hX]; simp
  rw [← hX] at e1 ⊢
  clear hX
  refine AX.seq (AX.test (!(ok && y6b ⟨k, fn, cp, nm, n, cl⟩ && decide (y3b ⟨k, fn, cp, nm, n, cl⟩ = s))) [(2, .p (some (H.next, 0, 6))), (4, .p (some (H.next + 1, 0, 6))), (23, .b (!(ok && y6b ⟨k, fn, cp, nm, n, cl⟩ && decide (y3b ⟨k, fn, cp, nm, n, cl⟩ = s))))] ?_ rfl (fun hz => AX.seq (AX.reg ?_)) (fun hz => AX.skip ?_))
  · by_cases b1 : ok = true
    case neg => simp [y2m.r2, b1]
    simp [y2m.r2, b1, g4]
    refine AC.fix (right_ok ⟨k, fn, cp, nm, n, cl⟩ (by simp only; omega) (by simp only; omega) _) ?_
    by_cases b2 : y6b ⟨k, fn, cp, nm, n, cl⟩ = true
    case neg => simp [b1, b2]
    simp [b1, b2, g4]
    refine AC.fix (write_ok ⟨k, fn, cp, nm, n, cl⟩ b2 _) ?_
    by_cases b3 : y3b ⟨k, fn, cp, nm, n, cl⟩ = s
    · simp [b3]
    · simp [b3, show (y3b ⟨k, fn, cp, nm, n, cl⟩ == s) = false by simpa using b3]
  · simp [y2m.r3, g2]
    refine AX.ret ?_
    have hn : ¬ (ok = true ∧ y6b ⟨k, fn, cp, nm, n, cl⟩ = true ∧ y3b ⟨k, fn, cp, nm, n, cl⟩ = s) := by
      rintro ⟨b1, b2, b3⟩; rw [b1, b2, decide_eq_true b3] at hz; cases hz
    rw [if_neg hn]
    simp [rdV, nv, Nd.cs, Nd.zero]
    exact ⟨e1.upd hlt (Nat.le_refl _) _, .refl _⟩
  have hn : ok = true ∧ y6b ⟨k, fn, cp, nm, n, cl⟩ = true ∧ y3b ⟨k, fn, cp, nm, n, cl⟩ = s := by
    simp only [Bool.not_eq_false', Bool.and_eq_true, decide_eq_true_eq] at hz
    exact ⟨hz.1.1, hz.1.2, hz.2⟩
  rw [if_pos hn]
  simp
  refine AX.sr ?_
  simp [y2m.r4, g2, g4]
  refine AX.ret ?_
  simp [rdV, nv, Nd.cs]
  exact ⟨e1.upd hlt (Nat.le_refl _) _, .refl _⟩
end Go.Proofs.YtjajpilacdfnbaaGreatDoor
namespace Go.Proofs.YtjajpilacdfnbaaGreatDoor
open Am C
set_option linter.unusedSimpArgs false
set_option linter.unusedVariables false
theorem ycp {l : Str} {c : UInt8} (h : c ∉ l) : Go.Lib.indexByte l c = -1 := by
  induction l with
  | nil => rfl
  | cons b l ih =>
    simp only [List.mem_cons, not_or] at h
    have e : (b == c) = false := by simpa using fun hh : b = c => h.1 hh.symm
    simp [Go.Lib.indexByte, e, ih h.2]
theorem ycq {l r : Str} {c : UInt8} (h : c ∉ l) : Go.Lib.indexByte (l ++ c :: r) c = l.length := by
  induction l with
  | nil => simp [Go.Lib.indexByte]
  | cons b l ih =>
    simp only [List.mem_cons, not_or] at h
    have e : (b == c) = false := by simpa using fun hh : b = c => h.1 hh.symm
    simp only [List.cons_append, Go.Lib.indexByte, e, ih h.2]
    have : ((l.length : Int) == -1) = false := by simp
    simp [this]
theorem yb8 {s : Str} (h : y5o s = true) : s.length ≤ 16 ∧ y6v s = true ∧ s.all (inB true) = true ∧ s ≠ [] := by
  unfold y5o at h; simp only [Bool.and_eq_true, decide_eq_true_eq] at h
  refine ⟨h.1.1, h.1.2, h.2, fun e => ?_⟩
  subst e; exact absurd h.1.2 (by decide)
end Go.Proofs.YtjajpilacdfnbaaGreatDoor
namespace Go.Proofs.YtjajpilacdfnbaaGreatDoor
open Am C
set_option linter.unusedSimpArgs false
set_option linter.unusedVariables false
namespace Am
open Go Go.RowKit
theorem Sim.adopt {κ : K} {H : Hp} (S : Sim κ H) {b o : Nat} {ds : List V} {arr : Array Value} {t : TypeId} {fr : Nat × Nat} (hb : κ.w.heap[b]? = some (.cells arr t fr)) (hsz : o + ds.length ≤ arr.size)
    (hv : ∀ (j : Nat) v, ds[j]? = some v → VR κ v (arr.getD (o + j) undef)) (hfr : fr.2 ≤ fr.1 ∨ arr.size < 0) (hz : ¬ κ.fz b)
    (hno : ∀ id cs m e, H.get id = some (.cells cs m) → m ≤ e → e ≤ cs.length → (κ.pl id e).1 ≠ b) :
    ∃ κ' : K, κ'.w = κ.w ∧ κ.Le κ' ∧ Sim κ' (H.add (.cells ds ds.length)) ∧ κ'.pl H.next ds.length = (b, o) ∧ κ'.ok H.next ds.length := by
  let κ2 : K := { κ with pl := fun k e => if k = H.next then (b, o) else κ.pl k e, ok := fun k e => κ.ok k e ∨ (k = H.next ∧ e ≤ ds.length) }
  have plo : ∀ {k e}, k ≠ H.next → κ2.pl k e = κ.pl k e := fun h => if_neg h
  have pln : ∀ {e}, κ2.pl H.next e = (b, o) := if_pos rfl
  have le : κ.Le κ2 := ⟨fun k e h => ⟨.inl h, plo (by have := (S.ok k e h).1; omega)⟩, fun b h => ⟨h, rfl⟩, fun b h => ⟨h, rfl⟩, fun b h => .inl h, fun b n h => h, Nat.le_refl _, rfl, rfl, rfl,
    fun k h => ⟨h, fun e o => o.elim id fun x => by have := (S.hole k h).1; omega⟩, rfl, fun b r h => ⟨r, h⟩⟩
  have gne : ∀ {k}, k ≠ H.next → (H.add (.cells ds ds.length)).get k = H.get k := fun h => by simp [h]
  have geq : (H.add (.cells ds ds.length)).get H.next = some (.cells ds ds.length) := by simp
  refine ⟨κ2, rfl, le, ⟨fun k e h => ?_, fun k h => ?_, Hp.add_lt S.lt _, S.fz, S.ic, fun k cs m h => ?_, fun k cs m h e h1 h2 => ?_, fun k o' h => ?_, fun k k' e e' cs1 m1 cs2 m2 g1 g2 a1 a2 b1 b2 hp => ?_, fun k cs' m' e e' h a1 a2 b1 b2 hp => ?_, fun k k' es es' g1 g2 hp => ?_, S.tb.mono le⟩, pln, .inr ⟨rfl, Nat.le_refl _⟩⟩
  · rcases h with h | ⟨rfl, h⟩
    · obtain ⟨h1, h2⟩ := S.ok k e h
      exact ⟨by simp; omega, fun cs m hg => h2 cs m (by rw [gne (by omega)] at hg; exact hg)⟩
    · refine ⟨by simp, fun cs m hg => ?_⟩
      rw [geq] at hg; injection hg with hg; injection hg with x y; subst x; exact h
  · obtain ⟨h1, h2⟩ := S.hole k h
    exact ⟨by simp; omega, by rw [gne (by omega)]; exact h2⟩
  · by_cases hk : k = H.next
    · subst hk; rw [geq] at h; injection h with h; injection h with x y; subst x; subst y; exact Nat.le_refl _
    · rw [gne hk] at h; exact S.le k cs m h
  · by_cases hk : k = H.next
    · subst hk; rw [geq] at h; injection h with h; injection h with x y; subst x; subst y
      have : e = ds.length := by omega
      subst this
      exact ⟨⟨arr, t, fr, by rw [pln]; exact hb, by rw [pln]; exact hsz, fun j v _ hj => by rw [pln]; exact (hv j v hj).mono le, hfr⟩, by rw [pln]; exact hz⟩
    · rw [gne hk] at h
      obtain ⟨⟨arr0, t0, fr0, q1, q2, q3, q4⟩, q5⟩ := S.cells k cs m h e h1 h2
      exact ⟨⟨arr0, t0, fr0, by rw [plo hk]; exact q1, by rw [plo hk]; exact q2, fun j v hj hv => by rw [plo hk]; exact (q3 j v hj hv).mono le, q4⟩, by rw [plo hk]; exact q5⟩
  · by_cases hk : k = H.next
    · subst hk; rw [geq] at h; injection h with h; cases h
    · rw [gne hk] at h
      obtain ⟨⟨x, q1, q2⟩, q3⟩ := S.maps k o' h
      exact ⟨⟨x, by rw [plo hk]; exact q1, q2.mono le⟩, by rw [plo hk]; exact q3⟩
  · by_cases hk : k = H.next <;> by_cases hk' : k' = H.next
    · rw [hk, hk']
    · rw [gne hk'] at g2
      rw [plo hk'] at hp; subst hk; rw [pln] at hp
      exact absurd hp.symm (hno k' cs2 m2 e' g2 b1 b2)
    · rw [gne hk] at g1
      rw [plo hk] at hp; subst hk'; rw [pln] at hp
      exact absurd hp (hno k cs1 m1 e g1 a1 a2)
    · rw [gne hk] at g1; rw [gne hk'] at g2
      rw [plo hk, plo hk'] at hp
      exact S.sep k k' e e' cs1 m1 cs2 m2 g1 g2 a1 a2 b1 b2 hp
  · by_cases hk : k = H.next
    · subst hk; rw [pln, pln]
    · rw [gne hk] at h
      rw [plo hk, plo hk] at hp ⊢
      exact S.base k cs' m' e e' h a1 a2 b1 b2 hp
  · by_cases hk : k = H.next
    · subst hk; rw [geq] at g1; injection g1 with g1; cases g1
    · by_cases hk' : k' = H.next
      · subst hk'; rw [geq] at g2; injection g2 with g2; cases g2
      · rw [gne hk] at g1; rw [gne hk'] at g2
        rw [plo hk, plo hk'] at hp
        exact S.sepm k k' es es' g1 g2 hp
theorem Sim.other {κ : K} {H : Hp} (S : Sim κ H) {b : Nat} {w' : World} {arr : Array Value} {t : TypeId} {fr : Nat × Nat} (hb : κ.w.heap[b]? = some (.cells arr t fr))
    (hk : ∀ k, k ≠ b → k < κ.w.heap.size → w'.heap[k]? = κ.w.heap[k]?) (hn : ∀ k n, y48 κ.w k = some n → y48 w' k = some n) (hsz : κ.w.heap.size ≤ w'.heap.size)
    (hos : w'.os = κ.w.os) (hta : w'.tape = κ.w.tape) (hou : w'.output = κ.w.output) (hz : ¬ κ.fz b)
    (hno : ∀ id cs m e, H.get id = some (.cells cs m) → m ≤ e → e ≤ cs.length → (κ.pl id e).1 ≠ b) :
    κ.Le { κ with w := w' } ∧ Sim { κ with w := w' } H := by
  have le : κ.Le { κ with w := w' } := ⟨fun _ _ h => ⟨h, rfl⟩, fun k h => ⟨h, hk k (fun e => hz (e ▸ h)) (S.fz k h)⟩, fun k h => ⟨h, hk k (fun e => hz (e ▸ S.ic k h)) (S.fz k (S.ic k h))⟩, fun _ h => .inl h, hn, hsz, hos, hta, hou, fun _ h => ⟨h, fun _ o => o⟩, rfl,
    fun k r h => ⟨r, (hk k (fun e => by subst e; rw [hb] at h; cases h) (lt_of_some h)).trans h⟩⟩
  refine ⟨le, ⟨S.ok, S.hole, S.lt, fun k h => Nat.lt_of_lt_of_le (S.fz k h) hsz, S.ic, S.le, fun id cs m hg e h1 h2 => ?_, fun id o hg => ?_, S.sep, S.base, S.sepm, S.tb.mono le⟩⟩
  · obtain ⟨⟨arr0, t0, fr0, q1, q2, q3, q4⟩, q5⟩ := S.cells id cs m hg e h1 h2
    exact ⟨⟨arr0, t0, fr0, (hk _ (hno id cs m e hg h1 h2) (lt_of_some q1)).trans q1, q2, fun j v a b => (q3 j v a b).mono le, q4⟩, q5⟩
  · obtain ⟨⟨x, q1, q2⟩, q3⟩ := S.maps id o hg
    exact ⟨⟨x, (hk _ (fun e => by rw [e, hb] at q1; injection q1 with q1; subst q1; exact q2.not_cells) (lt_of_some q1)).trans q1, q2.mono le⟩, q3⟩
end Am
end Go.Proofs.YtjajpilacdfnbaaGreatDoor
namespace Go.Proofs
open Go.Shelf Go.RowKit Go.Sort Go.Lib
def Tryz.laysNm221_ren : Go.Shelf.Ren := ⟨fun | 21 => 117 | 27 => 147 | 28 => 148 | 35 => 164 | 39 => 175 | n => n, fun | 22 => 127 | 3 => 3 | 4 => 4 | 0 => 0 | n => n, fun | n => n⟩
theorem Tryz.laysNm221 : Go.Proofs.Lays2.n21 Tryz.prog Tryz.laysNm221_ren := {
  mixed := by kernel_rfl
  f21 := Tryz.func117.trans (congrArg some (by kernel_rfl))
  f27 := Tryz.func147.trans (congrArg some (by kernel_rfl))
  f28 := Tryz.func148.trans (congrArg some (by kernel_rfl))
  f35 := Tryz.func164.trans (congrArg some (by kernel_rfl))
  f39 := Tryz.func175.trans (congrArg some (by kernel_rfl))
  t0 := Tryz.underlying0
  a0 := Tryz.isAgg0
  z0 := Tryz.sizeOf0
  v0 := Tryz.zeroValue0
  t3 := Tryz.underlying3
  a3 := Tryz.isAgg3
  z3 := Tryz.sizeOf3
  v3 := Tryz.zeroValue3
  t4 := Tryz.underlying4
  a4 := Tryz.isAgg4
  z4 := Tryz.sizeOf4
  v4 := Tryz.zeroValue4
  t22 := Tryz.underlying127
  a22 := Tryz.isAgg127
  z22 := Tryz.sizeOf127
  v22 := Tryz.zeroValue127
  i3 := by kernel_rfl }
end Go.Proofs
namespace Go.Proofs.YtjajpilacdfnbaaGreatDoor
open Am C
set_option linter.unusedSimpArgs false
set_option linter.unusedVariables false
namespace Am
open Go Go.RowKit
theorem y79 (b : Nat) (t : TypeId) (fr : Nat × Nat) : ∀ (vs : List Value) (o : Nat) (arr : Array Value) (w : World), w.heap[b]? = some (.cells arr t fr) → o + vs.length ≤ arr.size →
    ∃ arr', (w.setCells b o vs).heap[b]? = some (.cells arr' t fr) ∧ arr'.size = arr.size ∧ (∀ q, q < o ∨ o + vs.length ≤ q → arr'.getD q undef = arr.getD q undef) ∧ (∀ j, j < vs.length → arr'.getD (o + j) undef = vs.getD j undef) ∧
      (∀ k, k ≠ b → (w.setCells b o vs).heap[k]? = w.heap[k]?) ∧ (∀ k, y48 (w.setCells b o vs) k = y48 w k) ∧ (w.setCells b o vs).heap.size = w.heap.size ∧ (w.setCells b o vs).os = w.os ∧ (w.setCells b o vs).tape = w.tape ∧ (w.setCells b o vs).output = w.output
  | [], o, arr, w, hg, hl => ⟨arr, hg, rfl, fun _ _ => rfl, fun j hj => by simp at hj, fun _ _ => rfl, fun _ => rfl, rfl, rfl, rfl, rfl⟩
  | v :: r, o, arr, w, hg, hl => by
    simp only [List.length_cons] at hl
    obtain ⟨arr', h1, h2, h3, h4, h5, h6, h7, h8, h9, h10⟩ := y79 b t fr r (o + 1) (arr.setIfInBounds o v) (w.setCell ⟨b, o, none⟩ v) (y7z v hg) (by simp; omega)
    refine ⟨arr', h1, by simpa using h2, fun q hq => ?_, fun j hj => ?_, fun k hk => (h5 k hk).trans (Below.heap_setCell w _ v k hk), fun k => (h6 k).trans (y9b w _ v k), by rw [World.setCells, h7]; simp [World.setCell], h8, h9, h10⟩
    · simp only [List.length_cons] at hq
      rw [h3 q (by omega)]
      simp [Array.getD_eq_getD_getElem?, Array.getElem?_setIfInBounds_ne (show o ≠ q by omega)]
    · cases j with
      | zero =>
        rw [h3 _ (by omega)]
        simp [Array.getD_eq_getD_getElem?, show o < arr.size by omega]
      | succ j =>
        have := h4 j (by simpa using hj)
        rw [show o + (j + 1) = o + 1 + j by omega, this]
        simp
theorem ins_fin {κ : K} {H : Hp} (S : Sim κ H) {id m : Nat} {cs : List V} (hg : H.get id = some (.cells cs m)) {w' : World} {b' o' cap : Nat} {arr : Array Value} {t : TypeId} {fr : Nat × Nat} {ds : List V}
    (hb : w'.heap[b']? = some (.cells arr t fr)) (ho : o' + cap ≤ arr.size) (hcap : ds.length ≤ cap ∧ cap ≤ 9223372036854775807) (hd : ∀ (j : Nat) v, ds[j]? = some v → ∃ k n, v = .i k n ∧ arr.getD (o' + j) undef = .int k n) (hfr : fr.2 ≤ fr.1 ∨ arr.size < 0)
    (hk : ∀ k, k ≠ (κ.pl id cs.length).1 → k < κ.w.heap.size → w'.heap[k]? = κ.w.heap[k]?) (hn : ∀ k n, y48 κ.w k = some n → y48 w' k = some n) (hsz : κ.w.heap.size ≤ w'.heap.size)
    (hos : w'.os = κ.w.os) (hta : w'.tape = κ.w.tape) (hou : w'.output = κ.w.output) (hb' : b' = (κ.pl id cs.length).1 ∨ κ.w.heap.size ≤ b') :
    ∃ κ' : K, κ'.w = w' ∧ κ.Le κ' ∧ Sim κ' ((H.del id).add (.cells ds ds.length)) ∧ VR κ' (.sl (some (H.next, 0, ds.length)) ds.length 1) (.slice (some ⟨b', o', none⟩) ds.length cap) := by
  have hm := S.le id cs m hg
  have hP := S.cells id cs m hg cs.length hm (Nat.le_refl _)
  obtain ⟨⟨arr0, t0, fr0, q1, _⟩, qz⟩ := hP
  have S1 : Sim κ (H.del id) := S.weak (Hp.del_sub H id)
  have hget : ∀ {k x}, (H.del id).get k = some x → k ≠ id ∧ H.get k = some x := fun {k x} h => by
    simp only [Hp.del] at h
    split at h
    · cases h
    · rename_i hne; exact ⟨hne, h⟩
  have hno : ∀ k cs' m' e, (H.del id).get k = some (.cells cs' m') → m' ≤ e → e ≤ cs'.length → (κ.pl k e).1 ≠ (κ.pl id cs.length).1 := fun k cs' m' e h h1 h2 hp => by
    obtain ⟨hne, h⟩ := hget h
    exact hne (S.sep k id e cs.length cs' m' cs m h hg h1 h2 hm (Nat.le_refl _) hp)
  obtain ⟨le, S2⟩ := Sim.other S1 q1 hk hn hsz hos hta hou qz hno
  have hno2 : ∀ k cs' m' e, (H.del id).get k = some (.cells cs' m') → m' ≤ e → e ≤ cs'.length → (κ.pl k e).1 ≠ b' := fun k cs' m' e h h1 h2 hp => by
    rcases hb' with hb' | hb'
    · exact hno k cs' m' e h h1 h2 (hp.trans hb')
    · obtain ⟨⟨a0, t1, f1, r1, _⟩, _⟩ := S1.cells k cs' m' h e h1 h2
      have := lt_of_some r1
      omega
  have hz2 : ¬ κ.fz b' := fun h => by
    rcases hb' with hb' | hb'
    · exact qz (hb' ▸ h)
    · have := S.fz b' h; omega
  obtain ⟨κ', e1, le2, S3, e2, e3⟩ := Sim.adopt S2 (ds := ds) (o := o') hb (by omega) (fun j v hj => by obtain ⟨k, n, rfl, h⟩ := hd j v hj; rw [h]; exact .i k n) hfr hz2 hno2
  have e2' : κ'.pl H.next ds.length = (b', o') := e2
  refine ⟨κ', e1, le.trans le2, S3, ?_⟩
  refine .sl H.next 0 ds.length ds.length 1 cap arr.size _ e3 (by omega) hcap (by omega) (by omega) ?_ (by rw [e2']; simp; omega) (fun _ => by rw [e2']; rfl)
  rw [e2', e1]
  simp only [y48, hb]
end Am
def nc (l : List Nat) : List V := l.map fun v => .i .i64 (v : Nat)
def ydz (l : List Nat) (i x : Nat) : List Nat := l.take i ++ x :: l.drop i
theorem yfa {l : List Nat} {i x : Nat} (h : i ≤ l.length) : (ydz l i x).length = l.length + 1 := by simp [ydz]; omega
end Go.Proofs.YtjajpilacdfnbaaGreatDoor
namespace Go.Proofs.YtjajpilacdfnbaaGreatDoor
open Am C
open Go Go.RowKit
set_option linter.unusedSimpArgs false
set_option linter.unusedVariables false
def iv (l : List Nat) : List Value := l.map fun n => Value.int .i64 (n : Nat)
theorem one_iv (l : List Nat) : ∀ v ∈ iv l, v.oneCell' = true := fun v hv => by
  obtain ⟨n, _, rfl⟩ := List.mem_map.1 hv; rfl
theorem nc_at {l : List Nat} {j : Nat} {v : V} (h : (nc l)[j]? = some v) : ∃ n, l[j]? = some n ∧ v = .i .i64 (n : Nat) := by
  simp only [nc, List.getElem?_map, Option.map_eq_some_iff] at h
  obtain ⟨n, h1, h2⟩ := h; exact ⟨n, h1, h2.symm⟩
theorem iv_at {l : List Nat} {j : Nat} {n : Nat} (h : l[j]? = some n) : (iv l)[j]? = some (.int .i64 (n : Nat)) := by simp [iv, h]
theorem yim {κ : K} {H : Hp} (S : Sim κ H) {id m : Nat} {l : List Nat} (hg : H.get id = some (.cells (nc l) m)) : ∃ arr t fr, κ.w.heap[(κ.pl id l.length).1]? = some (.cells arr t fr) ∧ (κ.pl id l.length).2 + l.length ≤ arr.size ∧
    (∀ (j : Nat) n, l[j]? = some n → arr.getD ((κ.pl id l.length).2 + j) undef = .int .i64 (n : Nat)) ∧ (fr.2 ≤ fr.1 ∨ arr.size < 0) ∧ ¬ κ.fz (κ.pl id l.length).1 := by
  have e : (nc l).length = l.length := by simp [nc]
  have hm := S.le id _ m hg
  rw [e] at hm
  obtain ⟨⟨arr, t, fr, h1, h2, h3, h4⟩, h5⟩ := S.cells id _ m hg l.length hm (by omega)
  exact ⟨arr, t, fr, h1, h2, fun j n hj => by
    have hjl := (List.getElem?_eq_some_iff.1 hj).1
    have := h3 j (.i .i64 (n : Nat)) hjl (by simp [nc, hj])
    exact vr_i this, h4, h5⟩
theorem y9l {w : World} {b q : Nat} {arr : Array Value} {t : TypeId} {fr : Nat × Nat} (h : w.heap[b]? = some (.cells arr t fr)) (hq : q < arr.size) : w.cell? ⟨b, q, none⟩ = some (arr.getD q undef) := by
  simp [World.cell?, h, Array.getD_eq_getD_getElem?, hq]
theorem ycf {w : World} {b q : Nat} {arr : Array Value} {t : TypeId} {fr : Nat × Nat} (h : w.heap[b]? = some (.cells arr t fr)) (hf : fr.2 ≤ fr.1 ∨ arr.size < 0) (hq : q < arr.size) : w.frozen? ⟨b, q, none⟩ = false := by
  simp only [World.frozen?, h]
  rcases hf with hf | hf
  · simp; omega
  · simp; omega
set_option maxHeartbeats 1000000 in
theorem ynv (l : List Nat) (i x id idv m mv : Nat) (hne : idv ≠ id) (hi : i ≤ l.length) (hl : l.length ≤ 1000000000) (H : Hp) (hg : H.get id = some (.cells (nc l) m)) (hv : H.get idv = some (.cells [.i .i64 (x : Nat)] mv)) :
    AC Tryz.prog 117 [.sl (some (id, 0, l.length)) l.length 1, .i .i64 (i : Nat), .sl (some (idv, 0, 1)) 1 1] H (fun v H' => v = .sl (some (H.next, 0, l.length + 1)) (l.length + 1) 1 ∧ H' = (H.del id).add (.cells (nc (ydz l i x)) (l.length + 1))) := by
  refine ⟨by kernel_rfl, fun κ cs S r => ?_⟩
  obtain ⟨hlen, hr⟩ := r
  match cs, hlen with
  | [c0, c1, c2], _ =>
    have r0 : VR κ _ c0 := hr 0 _ rfl
    have r1 : VR κ _ c1 := hr 1 _ rfl
    have r2 : VR κ _ c2 := hr 2 _ rfl
    obtain rfl := vr_i r1
    have hgl : (nc l).length = l.length := by simp [nc]
    obtain ⟨arr, t, fr, p1, p2, p3, p4, p5⟩ := yim S hg
    have hvm : mv ≤ 1 := S.le idv _ mv hv
    obtain ⟨⟨arv, tv, frv, u1, u2, u3, u4⟩, u5⟩ := S.cells idv _ mv hv 1 hvm (by simp)
    have hx : arv.getD (κ.pl idv 1).2 undef = .int .i64 (x : Nat) := vr_i (u3 0 _ (by omega) rfl)
    have hbb : (κ.pl idv 1).1 ≠ (κ.pl id l.length).1 := fun h => hne (S.sep idv id 1 l.length _ mv _ m hv hg hvm (by simp) (by have := S.le id _ m hg; omega) (by omega) h)
    cases r2 with
    | sl _ _ _ _ _ vcap vn va vok vz vlc vlo vhi vnc vroom vaddr =>
    obtain rfl := vaddr (by omega)
    cases r0 with
    | sl _ _ _ _ _ cap nn a ok hz hlc hlo hhi hnc hroom ha =>
    have hnn : nn = arr.size := by simp only [y48, p1] at hnc; injection hnc with hnc; exact hnc.symm
    subst hnn
    have hvs : ∀ (j : Nat) v, [Value.int .i64 (x : Nat)][j]? = some v → κ.w.cell? ⟨(κ.pl idv 1).1, (κ.pl idv 1).2 + 0 + j, none⟩ = some v := fun j v hj => by
      cases j with
      | zero =>
        simp at hj; subst hj
        rw [show (κ.pl idv 1).2 + 0 + 0 = (κ.pl idv 1).2 by omega, y9l u1 (by omega), hx]
      | succ j => simp at hj
    have h1v : ∀ v ∈ [Value.int .i64 (x : Nat)], v.oneCell' = true := fun v hv => by simp at hv; subst hv; rfl
    have hil : (iv l).length = l.length := by simp [iv]
    have hcs : ∀ (j : Nat) v, (iv l)[j]? = some v → κ.w.cell? ⟨(κ.pl id l.length).1, (κ.pl id l.length).2 + j, none⟩ = some v := fun j v hj => by
      simp only [iv, List.getElem?_map, Option.map_eq_some_iff] at hj
      obtain ⟨n, hn, rfl⟩ := hj
      have hjl := (List.getElem?_eq_some_iff.1 hn).1
      rw [y9l p1 (by omega), p3 j n hn]
    have hdl : (nc (ydz l i x)).length = l.length + 1 := by simp [nc, yfa hi]
    have hkn : ∀ (w' : World) (b' o' cap' : Nat) (arr' : Array Value) (t' : TypeId) (fr' : Nat × Nat), w'.heap[b']? = some (.cells arr' t' fr') → o' + cap' ≤ arr'.size → l.length + 1 ≤ cap' ∧ cap' ≤ 9223372036854775807 →
        (∀ (j : Nat) n, (ydz l i x)[j]? = some n → arr'.getD (o' + j) undef = .int .i64 (n : Nat)) → (fr'.2 ≤ fr'.1 ∨ arr'.size < 0) →
        (∀ k, k ≠ (κ.pl id l.length).1 → k < κ.w.heap.size → w'.heap[k]? = κ.w.heap[k]?) → (∀ k n, y48 κ.w k = some n → y48 w' k = some n) → κ.w.heap.size ≤ w'.heap.size →
        w'.os = κ.w.os → w'.tape = κ.w.tape → w'.output = κ.w.output → (b' = (κ.pl id l.length).1 ∨ κ.w.heap.size ≤ b') →
        ∃ κ' v cv H', Ending.returned (.slice (some ⟨b', o', none⟩) (l.length + 1) cap') = Ending.returned cv ∧ κ'.w = w' ∧ κ.Le κ' ∧ Sim κ' H' ∧ VR κ' v cv ∧ v = .sl (some (H.next, 0, l.length + 1)) (l.length + 1) 1 ∧ H' = (H.del id).add (.cells (nc (ydz l i x)) (l.length + 1)) := by
      intro w' b' o' cap' arr' t' fr' q1 q2 q3 q4 q5 q6 q7 q8 q9 q10 q11 q12
      obtain ⟨κ', e1, e2, e3, e4⟩ := ins_fin S hg (ds := nc (ydz l i x)) (cap := cap') q1 q2 (by omega) (fun j v hj => by
        obtain ⟨n, hn, rfl⟩ := nc_at hj
        exact ⟨_, _, rfl, q4 j n hn⟩) q5 (by rw [hgl]; exact q6) q7 q8 q9 q10 q11 (by rw [hgl]; exact q12)
      rw [hdl] at e3 e4
      exact ⟨κ', _, _, _, rfl, e1, e2, e3, e4, rfl, rfl⟩
    by_cases hroomy : l.length + 1 ≤ cap
    · obtain rfl := ha (by omega)
      simp only [Nat.add_zero] at hroom ⊢
      have hsome : ∀ q, q < arr.size → (κ.w.cell? ⟨(κ.pl id l.length).1, q, none⟩).isSome = true := fun q hq => by rw [y9l p1 hq]; rfl
      have hfro : ∀ q, q < arr.size → κ.w.frozen? ⟨(κ.pl id l.length).1, q, none⟩ = false := fun q hq => ycf p1 p4 hq
      by_cases hend : i = l.length
      · subst hend
        refine (Any2.slices_Insert_int_end_room Tryz.laysNm221 (κ.pl id l.length).1 (κ.pl id l.length).2 l.length cap (κ.pl idv 1).1 ((κ.pl idv 1).2 + 0) 1 vcap [.int .i64 (x : Nat)] κ.w (by omega) (by omega) (by omega) rfl (fun j hj => hsome _ (by omega)) (fun j hj => hfro _ (by omega)) hvs h1v).mono ?_
        rintro e w' ⟨rfl, rfl⟩
        obtain ⟨arr', s1, s2, s3, s4, s5, s6, s7, s8, s9, s10⟩ := y79 (κ.pl id l.length).1 t fr [.int .i64 (x : Nat)] ((κ.pl id l.length).2 + l.length) arr κ.w p1 (by simp; omega)
        refine hkn _ _ _ _ arr' t fr s1 (by omega) (by omega) (fun j n hj => ?_) (by rw [s2]; exact p4) (fun k hk _ => s5 k hk) (fun k n h => by rw [s6]; exact h) (by omega) s8 s9 s10 (.inl rfl)
        simp only [ydz, List.take_length, List.drop_length] at hj
        by_cases hjl : j < l.length
        · rw [List.getElem?_append_left hjl] at hj
          rw [s3 _ (by omega)]; exact p3 j n hj
        · rw [List.getElem?_append_right (by omega)] at hj
          have : j = l.length := by
            have := (List.getElem?_eq_some_iff.1 hj).1
            simp at this; omega
          subst this
          simp at hj; subst hj
          have := s4 0 (by simp)
          simpa using this
      · have hlt : i < l.length := by omega
        have hsh : κ.w.shape? (κ.pl id l.length).1 = some (t, arr.size) := by simp [World.shape?, p1]
        have hsv : κ.w.shape? (κ.pl idv 1).1 = some (tv, arv.size) := by simp [World.shape?, u1]
        refine (Any2.slices_Insert_int_shift Tryz.laysNm221 (κ.pl id l.length).1 (κ.pl id l.length).2 l.length cap i (κ.pl idv 1).1 ((κ.pl idv 1).2 + 0) 1 vcap (iv l) [.int .i64 (x : Nat)] κ.w hlt (by omega) (by omega) (by omega) hbb hil rfl hcs (fun j hj => hsome _ (by omega)) (fun j hj => hfro _ (by omega)) hvs (one_iv l) h1v tv t arv.size arr.size hsv hsh (by omega) (ycf u1 u4 (by omega)) ?_).mono ?_
        · simp only [World.frozen?, u1]
          rcases u4 with hf | hf
          · simp; omega
          · omega
        rintro e w' ⟨rfl, rfl⟩
        have p1d : κ.w.drew.heap[(κ.pl id l.length).1]? = some (.cells arr t fr) := p1
        obtain ⟨arr1, s1, s2, s3, s4, s5, s6, s7, s8, s9, s10⟩ := y79 (κ.pl id l.length).1 t fr ((iv l).drop i) ((κ.pl id l.length).2 + (i + 1)) arr κ.w.drew p1d (by simp [hil]; omega)
        obtain ⟨arr2, v1, v2, v3, v4, v5, v6, v7, v8, v9, v10⟩ := y79 (κ.pl id l.length).1 t fr [.int .i64 (x : Nat)] ((κ.pl id l.length).2 + i) arr1 _ s1 (by simp; omega)
        refine hkn _ _ _ _ arr2 t fr v1 (by omega) (by omega) (fun j n hj => ?_) (by rw [v2, s2]; exact p4) (fun k hk _ => (v5 k hk).trans (s5 k hk)) (fun k n h => by rw [v6, s6]; exact h) (by rw [v7, s7]; exact Nat.le_refl _) (v8.trans s8) (v9.trans s9) (v10.trans s10) (.inl rfl)
        have hti : (l.take i).length = i := by simp; omega
        simp only [ydz] at hj
        by_cases hj1 : j < i
        · rw [List.getElem?_append_left (by omega), List.getElem?_take, if_pos hj1] at hj
          rw [v3 _ (by omega), s3 _ (by omega)]; exact p3 j n hj
        · rw [List.getElem?_append_right (by omega), hti] at hj
          by_cases hj2 : j = i
          · subst hj2
            simp at hj; subst hj
            have := v4 0 (by simp)
            simpa using this
          · rw [show j - i = (j - i - 1) + 1 by omega, List.getElem?_cons_succ, List.getElem?_drop] at hj
            have hjl := (List.getElem?_eq_some_iff.1 hj).1
            rw [v3 _ (by simp; omega)]
            have := s4 (j - i - 1) (by simp [hil]; omega)
            rw [show (κ.pl id l.length).2 + (i + 1) + (j - i - 1) = (κ.pl id l.length).2 + j by omega] at this
            rw [this, List.getD_eq_getElem?_getD, List.getElem?_drop, iv_at hj]; rfl
    · have hcap : cap = l.length := by omega
      have g1 := grownCap_ge κ.w (l.length + 1) cap (Tryz.laysNm221_ren.t 3)
      have g2 := grownCap_le_maxLen κ.w (l.length + 1) cap (Tryz.laysNm221_ren.t 3) (by unfold maxLen; omega)
      have g3 : grownCap κ.w (l.length + 1) cap (Tryz.laysNm221_ren.t 3) ≤ 9223372036854775807 := g2
      have hz1 : ∀ k, (Builtin.zeroCells (Value.int .i64 0).cells k).size = k := fun k => by rw [y81]; simp [Value.cells]
      by_cases hend : i = l.length
      · subst hend
        refine (Any2.slices_Insert_int_end_grow Tryz.laysNm221 (some a) l.length cap (κ.pl idv 1).1 ((κ.pl idv 1).2 + 0) 1 vcap (iv l) [.int .i64 (x : Nat)] κ.w (by omega) (by omega) (by omega) (by omega) hil rfl (fun h => by cases h) (fun a' ha' j v hj => ?_) hvs h1v).mono ?_
        · injection ha' with ha'; subst ha'
          have hjl := (List.getElem?_eq_some_iff.1 hj).1
          obtain rfl := ha (by omega)
          have := hcs j v hj
          rw [y58]; simpa using this
        rintro e w' ⟨rfl, rfl⟩
        have hsz : ((iv l ++ [Value.int .i64 (x : Nat)]).toArray ++ Builtin.zeroCells (Value.int .i64 0).cells (grownCap κ.w (l.length + 1) cap (Tryz.laysNm221_ren.t 3) - (l.length + 1))).size = grownCap κ.w (l.length + 1) cap (Tryz.laysNm221_ren.t 3) := by
          rw [Array.size_append, hz1]; simp [hil]; omega
        refine hkn _ _ _ _ _ (Tryz.laysNm221_ren.t 3) (0, 0) (y3l _ _) (by rw [hsz]; omega) ⟨g1, g3⟩ (fun j n hj => ?_) (.inl (Nat.le_refl _)) (fun k _ hk => Below.heap_alloc _ _ _ hk) (fun k n h => y7a h) (by simp) rfl rfl rfl (.inr (Nat.le_refl _))
        simp only [ydz, List.take_length, List.drop_length] at hj
        have hj' : (iv l ++ [Value.int .i64 (x : Nat)])[j]? = some (.int .i64 (n : Nat)) := by
          have := iv_at hj
          simpa [iv] using this
        have hjl := (List.getElem?_eq_some_iff.1 hj').1
        rw [Nat.zero_add, Array.getD_eq_getD_getElem?, Array.getElem?_append_left (by simpa using hjl)]
        simp only [List.getElem?_toArray, hj', Option.getD_some]
      · have hlt : i < l.length := by omega
        obtain rfl := ha (by omega)
        refine (Any2.slices_Insert_int_grow Tryz.laysNm221 (κ.pl id l.length).1 ((κ.pl id l.length).2 + 0) l.length cap i (κ.pl idv 1).1 ((κ.pl idv 1).2 + 0) 1 vcap (iv l) [.int .i64 (x : Nat)] κ.w hlt (by omega) (by omega) (by omega) (by omega) hil rfl (by simpa using hcs) hvs (one_iv l) h1v).mono ?_
        rintro e w' ⟨rfl, rfl⟩
        have hti : ((iv l).take i).length = i := by simp [hil]; omega
        have hsz : (((iv l).take i).toArray ++ Builtin.zeroCells (Value.int .i64 0).cells (l.length + 1 - i) ++ Builtin.zeroCells (Value.int .i64 0).cells (grownCap κ.w (l.length + 1) cap (Tryz.laysNm221_ren.t 3) - (l.length + 1))).size = grownCap κ.w (l.length + 1) cap (Tryz.laysNm221_ren.t 3) := by
          rw [Array.size_append, Array.size_append, hz1, hz1]; simp [hil]; omega
        have q0 : ∀ W : World, (W.alloc (.cells (((iv l).take i).toArray ++ Builtin.zeroCells (Value.int .i64 0).cells (l.length + 1 - i) ++ Builtin.zeroCells (Value.int .i64 0).cells (grownCap κ.w (l.length + 1) cap (Tryz.laysNm221_ren.t 3) - (l.length + 1))) (Tryz.laysNm221_ren.t 3))).drew.heap[W.heap.size]? = some (.cells (((iv l).take i).toArray ++ Builtin.zeroCells (Value.int .i64 0).cells (l.length + 1 - i) ++ Builtin.zeroCells (Value.int .i64 0).cells (grownCap κ.w (l.length + 1) cap (Tryz.laysNm221_ren.t 3) - (l.length + 1))) (Tryz.laysNm221_ren.t 3) (0, 0)) := fun W => y3l _ _
        obtain ⟨arr1, s1, s2, s3, s4, s5, s6, s7, s8, s9, s10⟩ := y79 κ.w.heap.size (Tryz.laysNm221_ren.t 3) (0, 0) [.int .i64 (x : Nat)] i _ _ (q0 κ.w) (by rw [hsz]; simp; omega)
        obtain ⟨arr2, v1, v2, v3, v4, v5, v6, v7, v8, v9, v10⟩ := y79 κ.w.heap.size (Tryz.laysNm221_ren.t 3) (0, 0) ((iv l).drop i) (i + 1) arr1 _ (show ((((κ.w.alloc _).drew.setCells κ.w.heap.size i [.int .i64 (x : Nat)]).drew).heap[κ.w.heap.size]?) = _ from s1) (by rw [s2, hsz]; simp [hil]; omega)
        refine hkn _ _ _ _ arr2 (Tryz.laysNm221_ren.t 3) (0, 0) v1 (by rw [v2, s2, hsz]; omega) ⟨g1, g3⟩ (fun j n hj => ?_) (.inl (Nat.le_refl _)) (fun k hk hlt' => ?_) (fun k n h => ?_) ?_ (v8.trans s8) (v9.trans s9) (v10.trans s10) (.inr (Nat.le_refl _))
        · have htl : (l.take i).length = i := by simp; omega
          simp only [ydz] at hj
          rw [Nat.zero_add]
          by_cases hj1 : j < i
          · rw [List.getElem?_append_left (by omega)] at hj
            rw [v3 _ (by omega), s3 _ (by omega)]
            have hj' : ((iv l).take i)[j]? = some (.int .i64 (n : Nat)) := by
              rw [List.getElem?_take, if_pos hj1] at hj ⊢; exact iv_at hj
            rw [Array.getD_eq_getD_getElem?, Array.append_assoc, Array.getElem?_append_left (by simpa [hil] using (by omega : j < min i l.length))]
            simp only [List.getElem?_toArray, hj', Option.getD_some]
          · rw [List.getElem?_append_right (by omega), htl] at hj
            by_cases hj2 : j = i
            · subst hj2
              simp at hj; subst hj
              rw [v3 _ (by omega)]
              have := s4 0 (by simp)
              simpa using this
            · rw [show j - i = (j - i - 1) + 1 by omega, List.getElem?_cons_succ, List.getElem?_drop] at hj
              have hjl := (List.getElem?_eq_some_iff.1 hj).1
              have := v4 (j - i - 1) (by simp [hil]; omega)
              rw [show i + 1 + (j - i - 1) = j by omega] at this
              rw [this, List.getD_eq_getElem?_getD, List.getElem?_drop, iv_at hj]; rfl
        · have hne' : k ≠ κ.w.heap.size := by omega
          exact (v5 k hne').trans ((s5 k hne').trans (Below.heap_alloc _ _ _ hlt'))
        · rw [v6]
          show y48 ((κ.w.alloc _).drew.setCells κ.w.heap.size i [.int .i64 (x : Nat)]) k = some n
          rw [s6]
          exact y7a h
        · rw [v7]
          show κ.w.heap.size ≤ ((κ.w.alloc _).drew.setCells κ.w.heap.size i [.int .i64 (x : Nat)]).heap.size
          rw [s7]; simp
end Go.Proofs.YtjajpilacdfnbaaGreatDoor
