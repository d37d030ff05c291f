/- The law ForestOrder. -/
import Derived.Test.YtihipphpfbnknaaForM2
namespace Go.Proofs.Ytihipphpfbnknaa
open Am C
set_option linter.unusedSimpArgs false
set_option linter.unusedVariables false

theorem Left.other {H H' : Hp} {f u r n n' : Nat} {rep rep' : List Nat} (L : Left H H' f u r n rep') {f2 u2 r2 : Nat} (h : FS H f2 u2 r2 n' rep) (hd : ∀ x, x = f2 ∨ x = u2 ∨ x = r2 → x ≠ f ∧ x ≠ u ∧ x ≠ r) : FS H' f2 u2 r2 n' rep := by
  have l := h.lt
  have d1 := hd f2 (.inl rfl); have d2 := hd u2 (.inr (.inl rfl)); have d3 := hd r2 (.inr (.inr rfl))
  exact h.same L.lt (L.get _ l.1 d1.1 d1.2.1 d1.2.2) (L.get _ l.2.1 d2.1 d2.2.1 d2.2.2) (L.get _ l.2.2 d3.1 d3.2.1 d3.2.2)
def OrdInv (l : List (Int × Int)) (N n : Nat) (m : Nat) (F : Fr) (H' : Hp) : Prop :=
  ∃ (i jd : Nat) (ra rb : List Nat) (Eb : List (Int × Int)), i ≤ l.length ∧ m = l.length - i ∧ FS H' (N + 2) N (N + 1) n ra ∧ FS H' (N + 5) (N + 3) (N + 4) n rb ∧ Tight n ra (l.take i) ∧ Tight n rb Eb ∧ cnt ra + jd = n ∧
    (∀ j p, l[j]? = some p → l.length ≤ j + i → (p.2, p.1) ∈ Eb) ∧ (∀ q ∈ Eb, (q.2, q.1) ∈ l) ∧
    F = [(0, .i .i64 n), (1, .fs (l.map encP)), (5, .p (some (N + 2, 0, 3))), (6, .p (some (N + 5, 0, 3))), (7, .i .i64 jd), (8, .i .i64 i)]
def OrdInv2 (N n jd : Nat) (rep : List Nat) (m : Nat) (F : Fr) (H' : Hp) : Prop :=
  ∃ (i : Nat), i ≤ n ∧ m = n - i ∧ FS H' (N + 2) N (N + 1) n rep ∧ FS H' (N + 5) (N + 3) (N + 4) n rep ∧
    F = [(0, .i .i64 n), (5, .p (some (N + 2, 0, 3))), (6, .p (some (N + 5, 0, 3))), (7, .i .i64 jd), (10, .i .i64 i)]

theorem ForestOrder_ok (n0 : Int) (l : List (Int × Int)) (H : Hp) : AC Try.prog 9 [.i .i64 n0, .fs (l.map encP)] H (fun v H' => v = .b true) := by
  refine AC.codeL weftlaw06_ForestOrder.at weftlaw06_ForestOrder.ok fun hl => ?_
  simp only [weftlaw06_ForestOrder]
  refine AX.seq (AX.reg ?_)
  simp [weftlaw06_ForestOrder.r0]
  refine AX.seq (AX.seq (AX.reg ?_))
  simp [weftlaw06_ForestOrder.r1]
  refine AC.fix (works_ok H) ?_
  simp
  refine AX.pcond rfl (fun hb => by simp at hb) (fun _ => AX.skip ?_)
  simp
  refine AX.seq (AX.seq (AX.reg ?_))
  simp [weftlaw06_ForestOrder.r3]
  refine AX.pcond rfl (fun hb => AX.seq (AX.reg ?_)) (fun hb => AX.skip ?_)
  · simp [weftlaw06_ForestOrder.r4]
    refine AX.ret ?_
    simp
  simp at hb
  simp
  refine AX.seq (AX.reg ?_)
  simp [weftlaw06_ForestOrder.r5]
  have em : ∃ m : Nat, IntKind.i64.wrap ((IntKind.u64.wrap n0).tmod 60) = (m : Int) ∧ m < 60 := by
    rw [wrap_u64_mod]
    have h1 : 0 ≤ n0 % 18446744073709551616 := by omega
    obtain ⟨a, ha⟩ := Int.eq_ofNat_of_zero_le h1
    rw [ha]
    refine ⟨a % 60, ?_, Nat.mod_lt _ (by decide)⟩
    rw [show (60 : Int) = ((60 : Nat) : Int) from rfl, tmod_nat]
    rw [wrap_i64] <;> omega
  obtain ⟨n, e, hn⟩ := em
  rw [e]
  refine AX.seq (AX.reg ?_)
  simp [weftlaw06_ForestOrder.r6]
  obtain ⟨H1, c1, f1, n1, g1, hl1⟩ := New_fs H hl n
  have hcl : clampN (n : Int) = n := by unfold clampN; omega
  rw [hcl] at f1
  refine AC.fix c1 ?_
  simp
  obtain ⟨H2, c2, f2, n2, g2, hl2⟩ := New_fs H1 hl1 n
  rw [hcl] at f2
  refine AC.fix c2 ?_
  simp
  rw [n1] at f2
  have f1' : FS H2 (H.next + 2) H.next (H.next + 1) n (List.range n) := f1.same (by omega) (g2 _ (by omega)) (g2 _ (by omega)) (g2 _ (by omega))
  refine AX.seq (AX.seq (AX.reg ?_))
  simp [weftlaw06_ForestOrder.r7]
  refine AX.pcond rfl (fun hb => by simp at hb) (fun _ => AX.skip ?_)
  simp
  refine AX.seq (AX.reg ?_)
  simp [weftlaw06_ForestOrder.r9]
  refine AX.seq (AX.seq (AX.reg ?_))
  simp [weftlaw06_ForestOrder.r10]
  refine AX.pblock (AX.loop (OrdInv l H.next n) l.length ⟨_, _, .refl _ _, 0, 0, List.range n, List.range n, [], by omega, by omega, f1', f2, .new n, .new n, by rw [cnt_new]; rfl, fun j p hj h => (by
    have := (List.getElem?_eq_some_iff.1 hj).1; omega), fun q hq => (by cases hq), by simp [n1]⟩ ?_)
  rintro m F H' ⟨i, jd, ra, rb, Eb, hi, rfl, fa, fb, ta, tb, hc, hb1, hb2, rfl⟩
  have hjd : jd ≤ n := by omega
  simp only [weftlaw06_ForestOrder.l0]
  refine AX.seq (AX.seq (AX.reg ?_))
  simp [weftlaw06_ForestOrder.r11]
  refine AX.pcond rfl (fun hb => AX.skip ?_) (fun hb => AX.exit ?_)
  case refine_2 =>
    simp at hb
    have hil : i = l.length := by omega
    subst hil
    rw [List.take_length] at ta
    simp
    have hrr : ra = rb := by
      refine ta.unique tb ?_ ?_
      · exact tb.edge.mem fun p hp => .inr (by
          obtain ⟨j, hj⟩ := List.mem_iff_getElem?.1 hp
          exact hb1 j p hj (by omega))
      · exact ta.edge.mem fun q hq => .inr (hb2 q hq)
    subst hrr
    refine AX.seq (AX.seq (AX.reg ?_))
    simp [weftlaw06_ForestOrder.r17]
    refine AX.pblock (AX.loop (OrdInv2 H.next n jd ra) n ⟨_, _, .refl _ _, 0, by omega, by omega, fa, fb, by simp⟩ ?_)
    rintro m F H' ⟨i, hi, rfl, fa, fb, rfl⟩
    simp only [weftlaw06_ForestOrder.l1]
    refine AX.seq (AX.seq (AX.reg ?_))
    simp [weftlaw06_ForestOrder.r18]
    refine AX.pcond rfl (fun hb => AX.skip ?_) (fun hb => AX.exit ?_)
    case refine_2 =>
      simp
      refine AX.seq (AX.reg ?_)
      simp [weftlaw06_ForestOrder.r22]
      have ew : IntKind.i64.wrap ((n : Int) - (jd : Int)) = ((cnt ra : Nat) : Int) := by rw [wrap_i64 (by omega) (by omega)]; omega
      refine AC.fix (Parts_fs fa) ?_
      simp [ew]
      refine AC.fix (Parts_fs fb) ?_
      simp
      refine AC.fix (Parts_fs fa) ?_
      simp
      refine AX.ret ?_
      simp
    simp at hb
    simp
    have hd : ∀ x, x = H.next + 5 ∨ x = H.next + 3 ∨ x = H.next + 4 → x ≠ H.next + 2 ∧ x ≠ H.next ∧ x ≠ H.next + 1 := fun x hx => by omega
    have hd' : ∀ x, x = H.next + 2 ∨ x = H.next ∨ x = H.next + 1 → x ≠ H.next + 5 ∧ x ≠ H.next + 3 ∧ x ≠ H.next + 4 := fun x hx => by omega
    have hfv : findV ra i = ((gt ra i : Nat) : Int) := by unfold findV; rw [fa.len, if_pos (by omega)]; simp
    have hle := fa.inv.1 i hb
    have hid := fa.inv.2 i hb
    have hfv2 : findV ra ((gt ra i : Nat) : Int) = ((gt ra i : Nat) : Int) := by unfold findV; rw [fa.len, if_pos (by omega)]; simp [hid]
    obtain ⟨H3, c3, L3⟩ := Find_fs fa i
    obtain ⟨H4, c4, L4⟩ := Find_fs (L3.other fb hd) i
    have fa4 := L4.other L3.fs hd'
    obtain ⟨H5, c5, L5⟩ := Find_fs fa4 i
    obtain ⟨H6, c6, L6⟩ := Find_fs L5.fs i
    obtain ⟨H7, c7, L7⟩ := Find_fs L6.fs ((gt ra i : Nat) : Int)
    obtain ⟨H8, c8, L8⟩ := Find_fs L7.fs i
    have fb8 := L8.other (L7.other (L6.other (L5.other L4.fs hd) hd) hd) hd
    rw [hfv] at c3 c4 c5 c6 c8
    rw [hfv2] at c7
    refine AX.seq (AX.pblock (AX.seq (AX.reg ?_)))
    simp [weftlaw06_ForestOrder.r19]
    refine AC.fix c3 ?_
    simp
    refine AC.fix c4 ?_
    simp
    refine AC.fix c5 ?_
    have hng : ¬ i < gt ra i := by omega
    simp [hng]
    refine AC.fix c6 ?_
    simp
    refine AC.fix c7 ?_
    simp
    refine AC.fix c8 ?_
    simp
    refine AX.pcond rfl (fun hb => by simp at hb) (fun _ => AX.skip ?_)
    simp
    refine AX.reg ?_
    simp [weftlaw06_ForestOrder.r21, i64_succ (show i ≤ 9223372036854775000 by omega)]
    exact ⟨n - (i + 1), by omega, _, _, .refl _ _, i + 1, by omega, rfl, L8.fs, fb8, by simp⟩
  simp at hb
  simp
  have hd : ∀ x, x = H.next + 5 ∨ x = H.next + 3 ∨ x = H.next + 4 → x ≠ H.next + 2 ∧ x ≠ H.next ∧ x ≠ H.next + 1 := fun x hx => by omega
  have hd' : ∀ x, x = H.next + 2 ∨ x = H.next ∨ x = H.next + 1 → x ≠ H.next + 5 ∧ x ≠ H.next + 3 ∧ x ≠ H.next + 4 := fun x hx => by omega
  obtain ⟨p, hp⟩ : ∃ p, p = l[i] := ⟨_, rfl⟩
  have hp1 : l[i]? = some p := by rw [hp]; exact List.getElem?_eq_getElem hb
  obtain ⟨k, hk⟩ : ∃ k, k = l.length - 1 - i := ⟨_, rfl⟩
  have hkl : k < l.length := by omega
  obtain ⟨q, hq⟩ : ∃ q, q = l[k] := ⟨_, rfl⟩
  have hq1 : l[k]? = some q := by rw [hq]; exact List.getElem?_eq_getElem hkl
  obtain ⟨a, b⟩ := p
  obtain ⟨c, d⟩ := q
  obtain ⟨H3, c3, L3⟩ := Join_fs fa a b
  obtain ⟨H4, c4, L4⟩ := Join_fs (L3.other fb hd) d c
  have fa4 := L4.other L3.fs hd'
  have hcnt := cnt_joinV fa a b
  have ta' := ta.join a b
  have tb' := tb.join d c
  have ew : IntKind.i64.wrap (IntKind.i64.wrap ((l.length : Int) - 1) - (i : Int)) = (k : Int) := by
    rw [wrap_i64 (n := (l.length : Int) - 1) (by omega) (by omega), wrap_i64 (by omega) (by omega)]; omega
  have etake : l.take i ++ [(a, b)] = l.take (i + 1) := by rw [List.take_add_one, hp1]; rfl
  rw [etake] at ta'
  obtain ⟨jd', hjd'⟩ : ∃ jd', jd' = jd + (if joins ra a b then 1 else 0) := ⟨_, rfl⟩
  refine AX.seq (AX.pblock (AX.seq (AX.seq (AX.drw ?_))))
  simp [weftlaw06_ForestOrder.r12, hb, hp.symm, encP]
  refine callD_eff _ _ c3 ?_
  simp [hb, hp.symm, encP]
  refine AX.join (F1 := [(0, .i .i64 n), (1, .fs (l.map encP)), (5, .p (some (H.next + 2, 0, 3))), (6, .p (some (H.next + 5, 0, 3))), (7, .i .i64 jd'), (8, .i .i64 i)]) (H1 := H3) ?_ ?_
  · refine AX.pcond rfl (fun hj => AX.reg ?_) (fun hj => AX.skip ?_)
    · rw [hj, if_pos rfl] at hjd'
      simp [weftlaw06_ForestOrder.r13, i64_succ (show jd ≤ 9223372036854775000 by omega), hjd', encP]
    · rw [hj] at hjd'
      simp at hjd'
      simp [hjd', encP]
  simp
  refine AX.seq (AX.reg ?_)
  simp [weftlaw06_ForestOrder.r14, ew]
  refine AX.drw ?_
  simp [weftlaw06_ForestOrder.r15, hkl, hq.symm, encP]
  refine callD_eff _ _ c4 ?_
  simp [hkl, hq.symm, encP]
  refine AX.reg ?_
  simp [weftlaw06_ForestOrder.r16, i64_succ (show i ≤ 9223372036854775000 by omega)]
  refine ⟨l.length - (i + 1), by omega, _, _, .refl _ _, i + 1, jd', joinV ra a b, joinV rb d c, Eb ++ [(d, c)], by omega, rfl, fa4, L4.fs, ta', tb', by omega, fun j p hj h => ?_, fun q hq => ?_, by simp [encP]⟩
  · by_cases hjk : j = k
    · subst hjk
      rw [hq1] at hj; injection hj with hj; subst hj
      simp
    · exact List.mem_append_left _ (hb1 j p hj (by omega))
  · rcases List.mem_append.1 hq with hq | hq
    · exact hb2 q hq
    · simp at hq; subst hq
      exact List.mem_of_getElem? hq1

def TP : Ty := .st [.int .i64, .int .i64]
theorem isT_P {vs : List V} (h : IsT TP vs) : ∃ p : Int × Int, vs = encP p ∧ True := by
  obtain ⟨a, b, rfl, ha, hb⟩ := isTs_cons (isT_st h)
  obtain ⟨b1, b2, rfl, hb1, hb2⟩ := isTs_cons hb
  have := isTs_nil hb2
  obtain ⟨x, rfl, _⟩ := isT_int ha
  obtain ⟨y, rfl, _⟩ := isT_int hb1
  subst this
  exact ⟨(x, y), rfl, trivial⟩
theorem ForestNil_all (us : List V) (h : Args [.int .i64, .int .i64] us) : AC Try.prog 8 us Hp.none (fun r _ => r = .b true) := by
  obtain ⟨u, us', rfl, hu, u2, us2, rfl, hu2, rfl⟩ := h
  obtain ⟨x, hx, _⟩ := isT_int hu
  obtain ⟨y, hy, _⟩ := isT_int hu2
  injection hx with hx; subst hx
  injection hy with hy; subst hy
  exact ForestNil_ok x y _
theorem ForestDoes_all (us : List V) (h : Args [.int .i64, .sl TP, .int .i64] us) : AC Try.prog 7 us Hp.none (fun r _ => r = .b true) := by
  obtain ⟨u, us', rfl, hu, u2, us2, rfl, hu2, u3, us3, rfl, hu3, rfl⟩ := h
  obtain ⟨x, hx, h1⟩ := isT_int hu
  obtain ⟨l, hy, _⟩ := isT_sl encP (fun _ => True) (fun vs h => isT_P h) hu2
  obtain ⟨z, hz, _⟩ := isT_int hu3
  injection hx with hx; subst hx
  injection hy with hy; subst hy
  injection hz with hz; subst hz
  exact ForestDoes_ok x h1 l z _
theorem ForestOrder_all (us : List V) (h : Args [.int .i64, .sl TP] us) : AC Try.prog 9 us Hp.none (fun r _ => r = .b true) := by
  obtain ⟨u, us', rfl, hu, u2, us2, rfl, hu2, rfl⟩ := h
  obtain ⟨x, hx, h1⟩ := isT_int hu
  obtain ⟨l, hy, _⟩ := isT_sl encP (fun _ => True) (fun vs h => isT_P h) hu2
  injection hx with hx; subst hx
  injection hy with hy; subst hy
  exact ForestOrder_ok x l _
end Go.Proofs.Ytihipphpfbnknaa
