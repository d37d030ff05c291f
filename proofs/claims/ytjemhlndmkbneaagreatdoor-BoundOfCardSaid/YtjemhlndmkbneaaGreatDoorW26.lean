/- Part 26 of the proof of the laws of the queries: S20a, S15f, S20b, S15c. -/
import Derived.Test.YtjemhlndmkbneaaGreatDoorW18
import Derived.Test.YtjemhlndmkbneaaGreatDoorW25
namespace Go.Proofs.YtjemhlndmkbneaaGreatDoor
open Am C
set_option linter.unusedSimpArgs false
set_option linter.unusedVariables false
theorem Trim_ok (s t : Str) (hs : s.length ≤ 9223372036854775807) (ht : t.length < 4294967281) (ha : t.all (fun b => decide (b.toNat < 128)) = true) (H : Hp) : AC Tryz.prog n_strings_Trim [.s s, .s t] H (fun v H' => v = .s (Go.Lib.trimS s t) ∧ H' = H) := by
  refine AC.below (by kernel_rfl) fun κ cs r => ?_
  obtain ⟨a, b, rfl, ra, rb⟩ := r.two'
  obtain rfl := vr_s ra
  obtain rfl := vr_s rb
  refine ⟨_, fun κ' => .s _, ?_⟩
  refine (Go.Proofs.Any.strings_Trim_laid Tryz.lays160 (by kernel_rfl) ⟨s.toArray⟩ ⟨t.toArray⟩ κ.w (show s.toArray.size ≤ 9223372036854775807 by simpa using hs) (show t.toArray.size < 4294967281 by simpa using ht) (by simpa using Go.Proofs.ascii_of_all ha)).mono fun e w' ⟨he, hw⟩ => ⟨?_, hw⟩
  rw [he]
theorem Index1_ok (s : Str) (c : UInt8) (H : Hp) : AC Tryz.prog n_internal_stringslite_Index [.s s, .s [c]] H (fun v H' => v = .i .i64 (Go.Lib.indexByte s c) ∧ H' = H) := by
  refine AC.below (by kernel_rfl) fun κ cs r => ?_
  obtain ⟨a, b, rfl, ra, rb⟩ := r.two'
  obtain rfl := vr_s ra
  obtain rfl := vr_s rb
  refine ⟨_, fun κ' => .i _ _, ?_⟩
  refine (Tryz.stringslite_Index_one ⟨s.toArray⟩ c κ.w).mono fun e w' ⟨he, hw⟩ => ⟨?_, ?_⟩
  · rw [he]
  · rw [hw]; exact .refl _ _
theorem trim_nil (s : Str) : (Go.Lib.trimS s [105, 112] = []) = (kpB s = true) := by
  have hp : ∀ l : Str, l.all (List.contains [105, 112]) = kpB l := fun l => by
    unfold kpB
    congr 1
    funext c
    simp [List.contains, List.elem]
    cases c == 105 <;> cases c == 112 <;> rfl
  apply propext
  unfold Go.Lib.trimS Go.Lib.trimLeftS Go.Lib.trimRightS
  rw [dropWhile_nil, ← hp s]
  constructor
  · intro h
    rw [List.all_reverse] at h
    have hd : s.reverse.dropWhile (List.contains [105, 112]) = [] := by
      cases hx : s.reverse.dropWhile (List.contains [105, 112]) with
      | nil => rfl
      | cons c r =>
        have h1 := List.head_dropWhile_not (List.contains [105, 112]) (l := s.reverse) (by rw [hx]; simp)
        rw [hx] at h
        simp only [hx, List.head_cons] at h1
        simp only [List.all_cons, Bool.and_eq_true] at h
        rw [h1] at h; exact absurd h.1 (by simp)
    rw [dropWhile_nil, List.all_reverse] at hd
    exact hd
  · intro h
    have : s.reverse.dropWhile (List.contains [105, 112]) = [] := by rw [dropWhile_nil, List.all_reverse]; exact h
    rw [this]; rfl
theorem kindsRight_ok (s : Str) (n : Int) (hs : s.length ≤ 9223372036854775807) (H : Hp) : AC Tryz.prog n_system_kindsRight [.s s, .i .i64 n] H (fun v H' => v = .b (kpB s && decide ((s.length : Int) ≤ n)) ∧ H' = H) := by
  refine AC.code system_kindsRight.at system_kindsRight.ok ?_
  simp only [system_kindsRight]
  refine AX.seq (AX.reg ?_)
  simp [system_kindsRight.r0]
  refine AX.seq (AX.reg ?_)
  simp [system_kindsRight.r1]
  refine AC.fix (Trim_ok s [105, 112] hs (by simp) (by rfl) _) ?_
  have ht := trim_nil s
  by_cases h : Go.Lib.trimS s [105, 112] = []
  · have hk : kpB s = true := by rw [← ht]; exact h
    simp [h]
    refine AX.ret ?_
    simp [hk]
  · have hk : kpB s = false := by
      cases e : kpB s
      · rfl
      · exact absurd (by rw [ht]; exact e) h
    simp [h, show (Go.Lib.trimS s [105, 112] == []) = false by simpa using h]
    refine AX.ret ?_
    simp [hk]
theorem tagRight_ok (s : Str) (hs : s.length ≤ 9223372036854775807) (H : Hp) : AC Tryz.prog n_system_tagRight [.s s] H (fun v H' => v = .b (tagB s) ∧ H' = H) := by
  refine AC.code system_tagRight.at system_tagRight.ok ?_
  simp only [system_tagRight]
  refine AX.seq (AX.reg ?_)
  simp [system_tagRight.r0]
  refine AX.seq (AX.reg ?_)
  by_cases h : s = []
  · simp [system_tagRight.r1, h]
    refine AX.ret ?_
    simp [tagB]
  · have h1 : 1 ≤ s.length := by cases s <;> simp_all
    simp [system_tagRight.r1, h, show (s == []) = false by simpa using h]
    refine AX.ret ?_
    simp [tagB, h1]
theorem SNode_ok (s : Str) (hs : s.length ≤ 9223372036854775806) (H : Hp) : AC Tryz.prog n_system_Node [.s s] H (fun v H' => v = .b (nodeB s) ∧ H' = H) := by
  refine AC.codeP system_Node.at system_Node.ok (by simp) fun hlt => ?_
  simp only [system_Node]
  refine AX.seq (AX.reg ?_)
  simp [system_Node.r0]
  refine AX.seq (AX.reg ?_)
  simp [system_Node.r1]
  refine AC.fix (NRead_ok s hs _) ?_
  cases hr : readN s with
  | none =>
    simp [rdV, nv, Nd.cs, Nd.zero]
    refine AX.seq (AX.reg ?_)
    simp [system_Node.r2]
    refine AX.ret ?_
    simp [nodeB, hr]
    exact ⟨(Hp.Ext.add hlt _).upd hlt (Nat.le_refl _) _, .refl _⟩
  | some d =>
    simp [rdV, nv, Nd.cs]
    refine AX.seq (AX.reg ?_)
    by_cases hk : d.kind ≤ 3
    · simp [system_Node.r2, hk]
      refine AX.ret ?_
      simp [nodeB, hr, hk]
      exact ⟨(Hp.Ext.add hlt _).upd hlt (Nat.le_refl _) _, .refl _⟩
    · simp [system_Node.r2, hk]
      refine AX.ret ?_
      simp [nodeB, hr, hk]
      exact ⟨(Hp.Ext.add hlt _).upd hlt (Nat.le_refl _) _, .refl _⟩
theorem SPlace_ok (s : Str) (hs : s.length ≤ 9223372036854775806) (H : Hp) : AC Tryz.prog n_system_Place [.s s] H (fun v H' => v = .b (placeB s) ∧ H' = H) := by
  refine AC.codeP system_Place.at system_Place.ok (by simp) fun hlt => ?_
  simp only [system_Place]
  refine AX.seq (AX.reg ?_)
  simp [system_Place.r0]
  refine AX.seq (AX.reg ?_)
  simp [system_Place.r1]
  refine AC.fix (NRead_ok s hs _) ?_
  cases hr : readN s with
  | none =>
    simp [rdV, nv, Nd.cs, Nd.zero]
    refine AX.seq (AX.reg ?_)
    simp [system_Place.r2]
    refine AX.ret ?_
    simp [placeB, hr]
    exact ⟨(Hp.Ext.add hlt _).upd hlt (Nat.le_refl _) _, .refl _⟩
  | some d =>
    simp [rdV, nv, Nd.cs]
    refine AX.seq (AX.reg ?_)
    by_cases hk : d.kind = 4
    · simp [system_Place.r2, hk]
      refine AX.ret ?_
      simp [placeB, hr, hk]
      exact ⟨(Hp.Ext.add hlt _).upd hlt (Nat.le_refl _) _, .refl _⟩
    · simp [system_Place.r2, hk]
      refine AX.ret ?_
      simp [placeB, hr, hk]
      exact ⟨(Hp.Ext.add hlt _).upd hlt (Nat.le_refl _) _, .refl _⟩
theorem sigS_index (t : Str) : (sigS t = none → Go.Lib.indexByte t 62 = -1) ∧ ∀ l r, sigS t = some (l, r) → Go.Lib.indexByte t 62 = l.length ∧ t = l ++ 62 :: r := by
  refine ⟨fun h => ?_, fun l r h => ?_⟩
  · refine indexByte_no fun hm => ?_
    obtain ⟨i, hi, he⟩ := List.mem_iff_getElem.1 hm
    have : ∀ {q : Str}, (62 : UInt8) ∈ q → sigS q ≠ none := by
      intro q
      induction q with
      | nil => intro h; cases h
      | cons a q ih =>
        intro h
        unfold sigS
        split
        · simp
        · rename_i ha
          have : (62 : UInt8) ∈ q := (List.mem_cons.1 h).resolve_left fun e => ha e.symm
          have := ih this
          cases hq : sigS q with
          | none => exact absurd hq this
          | some x => simp
    exact this hm h
  · have : ∀ {q l r : Str}, sigS q = some (l, r) → (62 : UInt8) ∉ l ∧ q = l ++ 62 :: r := by
      intro q
      induction q with
      | nil => intro l r h; simp [sigS] at h
      | cons a q ih =>
        intro l r h
        unfold sigS at h
        split at h
        · rename_i ha
          injection h with h; injection h with h1 h2
          subst h1; subst h2; subst ha; simp
        · rename_i ha
          cases hq : sigS q with
          | none => rw [hq] at h; cases h
          | some x =>
            rw [hq] at h; injection h with h; injection h with h1 h2
            obtain ⟨g1, g2⟩ := ih (l := x.1) (r := x.2) (by rw [hq])
            subst h1; subst h2
            refine ⟨?_, by rw [List.cons_append, ← g2]⟩
            simp only [List.mem_cons, not_or]
            exact ⟨fun e => ha e.symm, g1⟩
    obtain ⟨h1, h2⟩ := this h
    refine ⟨?_, h2⟩
    rw [h2]
    exact indexByte_at h1
def cutV (t : Str) : V := match sigS t with
  | none => .tup [.s t, .s [], .b false]
  | some (l, r) => .tup [.s l, .s r, .b true]
theorem Cut0_ok (t : Str) (ht : t.length ≤ 9223372036854775807) (H : Hp) : AC Tryz.prog n_internal_stringslite_Cut [.s t, .s [62]] H (fun v H' => v = cutV t ∧ H' = H) := by
  refine AC.code internal_stringslite_Cut.at internal_stringslite_Cut.ok ?_
  simp only [internal_stringslite_Cut]
  refine AX.seq (AX.reg ?_)
  simp [internal_stringslite_Cut.r0]
  refine AX.seq (AX.seq (AX.reg ?_))
  simp [internal_stringslite_Cut.r1]
  refine AC.fix (Index1_ok t 62 _) ?_
  have hi := sigS_index t
  unfold cutV
  cases hs : sigS t with
  | none =>
    rw [hi.1 hs]
    simp
    refine AX.seq (AX.reg ?_)
    simp [internal_stringslite_Cut.r2]
    refine AX.pcond (t := false) rfl (fun h => by simp at h) (fun _ => AX.skip ?_)
    simp
    refine AX.seq (AX.reg ?_)
    simp [internal_stringslite_Cut.r4]
    refine AX.ret ?_
    simp
  | some x =>
    obtain ⟨l, r⟩ := x
    obtain ⟨h1, h2⟩ := hi.2 l r hs
    rw [h1]
    simp
    refine AX.seq (AX.reg ?_)
    simp [internal_stringslite_Cut.r2]
    refine AX.pcond (t := true) rfl (fun _ => ?_) (fun h => by simp at h)
    have hlen : t.length = l.length + r.length + 1 := by rw [h2]; simp; omega
    have w1 : IntKind.i64.wrap ((l.length : Int) + 1) = (l.length : Int) + 1 := wrap_i64 (by omega) (by omega)
    have e1 : t.take l.length = l := by rw [h2]; simp
    have e2 : t.drop (l.length + 1) = r := by rw [h2]; simp
    refine AX.seq (AX.drw ?_)
    simp [internal_stringslite_Cut.r3, w1, e1, show l.length ≤ t.length by omega, show (0 : Int) ≤ (l.length : Int) + 1 by omega, show (l.length : Int) + 1 ≤ (t.length : Int) by omega, show ((l.length : Int) + 1).toNat = l.length + 1 by omega, e2]
    refine AX.ret ?_
    simp
theorem Cut_ok (t : Str) (ht : t.length ≤ 9223372036854775807) (H : Hp) : AC Tryz.prog n_strings_Cut [.s t, .s [62]] H (fun v H' => v = cutV t ∧ H' = H) := by
  refine AC.code strings_Cut.at strings_Cut.ok ?_
  simp only [strings_Cut]
  refine AX.seq (AX.reg ?_)
  simp [strings_Cut.r0]
  refine AX.seq (AX.reg ?_)
  simp [strings_Cut.r1]
  refine AC.fix (Cut0_ok t ht _) ?_
  unfold cutV
  cases hs : sigS t with
  | none => simp; refine AX.ret ?_; simp
  | some x => simp; refine AX.ret ?_; simp
end Go.Proofs.YtjemhlndmkbneaaGreatDoor
namespace Go.Proofs.YtjemhlndmkbneaaGreatDoor
open Am C
set_option linter.unusedSimpArgs false
set_option linter.unusedVariables false
def zi (l : List Int) : List (List V) := l.map fun x => [V.i .i64 x]
def zipS : List Str → List Str → List Int
  | a :: r, b :: q => cmpS a b :: zipS r q
  | _, _ => []
theorem orI_append (x : List Int) (y : List Int) : orI (x ++ y) = if orI x ≠ 0 then orI x else orI y := by
  induction x with
  | nil => simp [orI]
  | cons a r ih =>
    by_cases h : a = 0
    · simp [orI, h, ih]
    · simp [orI, h]
theorem orI_zip : ∀ (a b : List Str), orI (zipS a b ++ [cmpI a.length b.length]) = cmpL a b
  | [], b => by
    simp only [zipS, cmpL, orI, List.nil_append, cmpI, cmpN]
    cases b <;> simp
  | a :: r, [] => by
    have : ¬ ((r.length : Int) + 1 < 0) := by omega
    have h2 : ¬ ((r.length : Int) + 1 = 0) := by omega
    simp [zipS, cmpL, orI, cmpI, this, h2]
  | a :: r, b :: q => by
    have ih := orI_zip r q
    have e : cmpI ((a :: r).length : Nat) ((b :: q).length : Nat) = cmpI r.length q.length := by
      unfold cmpI; simp
    simp only [zipS, List.cons_append, orI, cmpL, e, ih]
def cmpR (a b : Cn) : List Int := [cmpI a.op b.op, cmpS a.a b.a, cmpS a.b b.b, cmpI a.k b.k, cmpS a.tag b.tag] ++ zipS a.args b.args ++ [cmpI a.args.length b.args.length]
theorem cmpR_eq (a b : Cn) : orI (cmpR a b) = cmpC a b := by
  unfold cmpR cmpC
  rw [List.append_assoc, orI_append, orI_zip]
  simp only [orI]
  by_cases h : cmpL a.args b.args = 0 <;> simp [h, orI] <;> (repeat' split) <;> simp_all
theorem zi_flat (l : List Int) : (zi l).flatten = l.map fun x => V.i .i64 x := by
  induction l with
  | nil => rfl
  | cons a r ih => simp [zi] at ih ⊢; exact ih
def CmInv (a b : Cn) (c5 : List Int) (H : Hp) (m : Nat) (F : Fr) (X : Hp) : Prop :=
  ∃ i v, i ≤ a.args.length ∧ i ≤ b.args.length ∧ m = a.args.length - i ∧ Acc H 1 v X (zi (c5 ++ (zipS a.args b.args).take i)) ∧ F = [(2, .fp (cncs a) 0), (3, .fp (cncs b) 0), (5, v), (6, .i .i64 i)]
theorem zipS_len : ∀ (a b : List Str), (zipS a b).length = min a.length b.length
  | [], b => by simp [zipS]
  | a :: r, [] => by simp [zipS]
  | a :: r, b :: q => by simp [zipS, zipS_len r q]
theorem zipS_get : ∀ {a b : List Str} {i : Nat} (h : i < a.length) (h2 : i < b.length), (zipS a b)[i]? = some (cmpS a[i] b[i])
  | [], b, i, h, _ => by simp at h
  | a :: r, [], i, _, h => by simp at h
  | a :: r, b :: q, 0, _, _ => by simp [zipS]
  | a :: r, b :: q, i + 1, h, h2 => by
    simp at h h2
    simp [zipS, zipS_get h h2]
def CmInv1 (R : List Int) (v : V) (X : Hp) (m : Nat) (F : Fr) (Y : Hp) : Prop :=
  ∃ k, k ≤ R.length ∧ m = R.length - k ∧ orI (R.take k) = 0 ∧ Y = X ∧ F = [(5, v), (7, .i .i64 k)]
theorem RCompare_ok (a b : Cn) (ha : a.args.length ≤ 1000000) (hb : b.args.length ≤ 9223372036854775807) (H : Hp) : AC Tryz.prog n_weftref15_Compare [.agg (cncs a), .agg (cncs b)] H (fun v H' => v = .i .i64 (cmpC a b) ∧ H' = H) := by
  refine AC.codeP weftref15_Compare.at weftref15_Compare.ok (by simp) fun hlt => ?_
  simp only [weftref15_Compare]
  refine AX.seq (AX.reg ?_)
  simp [weftref15_Compare.r0, cncs]
  refine AX.seq (AX.drw ?_)
  simp [weftref15_Compare.r1]
  refine callD_pure _ (fun H2 => Rints_ok a.op b.op H2) ?_
  simp
  refine callD_pure _ (fun H2 => Rtexts_ok a.a b.a H2) ?_
  simp
  refine callD_pure _ (fun H2 => Rtexts_ok a.b b.b H2) ?_
  simp
  refine callD_pure _ (fun H2 => Rints_ok a.k b.k H2) ?_
  simp
  refine callD_pure _ (fun H2 => Rtexts_ok a.tag b.tag H2) ?_
  simp [show repl 5 [V.i .i64 0] = [.i .i64 0, .i .i64 0, .i .i64 0, .i .i64 0, .i .i64 0] from rfl]
  let c5 : List Int := [cmpI a.op b.op, cmpS a.a b.a, cmpS a.b b.b, cmpI a.k b.k, cmpS a.tag b.tag]
  have A0 : Acc H 1 (.sl (some (H.next, 0, 5)) 5 1) (H.add (.cells [.i .i64 (cmpI a.op b.op), .i .i64 (cmpS a.a b.a), .i .i64 (cmpS a.b b.b), .i .i64 (cmpI a.k b.k), .i .i64 (cmpS a.tag b.tag)] 5)) (zi (c5 ++ (zipS a.args b.args).take 0)) :=
    ⟨Hp.Ext.add hlt _, Hp.add_lt hlt _, fun e he => by obtain ⟨x, _, rfl⟩ := List.mem_map.1 he; rfl, .inr ⟨H.next, 5, Nat.le_refl _, rfl, by simp [zi, c5], by simp [zi, c5]⟩⟩
  have hc5 : c5.length = 5 := rfl
  have eR : cmpR a b = c5 ++ zipS a.args b.args ++ [cmpI a.args.length b.args.length] := rfl
  generalize H.add (.cells [.i .i64 (cmpI a.op b.op), .i .i64 (cmpS a.a b.a), .i .i64 (cmpS a.b b.b), .i .i64 (cmpI a.k b.k), .i .i64 (cmpS a.tag b.tag)] 5) = X0 at *
  generalize V.sl (some (H.next, 0, 5)) 5 1 = v0 at *
  clear_value c5
  refine AX.seq (AX.seq (AX.reg ?_))
  simp [weftref15_Compare.r2]
  refine AX.pblock (AX.loop (CmInv a b c5 H) a.args.length ⟨_, _, .refl _ _, 0, v0, by omega, by omega, by omega, A0, by simp [cncs]⟩ ?_)
  rintro m F X ⟨i, v, hia, hib, rfl, A, rfl⟩
  simp only [weftref15_Compare.l0]
  have hzl := zipS_len a.args b.args
  refine AX.seq (AX.test (decide (i < a.args.length) && decide (i < b.args.length)) [(2, .fp (cncs a) 0), (3, .fp (cncs b) 0), (5, v), (6, .i .i64 i), (45, .b (decide (i < a.args.length) && decide (i < b.args.length)))] ?_ rfl (fun hc => AX.skip ?_) (fun hc => AX.exit ?_))
  · by_cases h1 : i < a.args.length
    · simp [weftref15_Compare.r3, cncs, ss, h1]
    · simp [weftref15_Compare.r3, cncs, ss, h1]
  · simp at hc
    obtain ⟨h1, h2⟩ := hc
    simp
    have hz := zipS_get h1 h2
    have hA : (zi (c5 ++ (zipS a.args b.args).take (i + 1))) = zi (c5 ++ (zipS a.args b.args).take i) ++ [[V.i .i64 (cmpS a.args[i] b.args[i])]] := by
      rw [List.take_add_one, hz]
      simp [zi]
    obtain ⟨v1, X1, e1, A1⟩ := A.app (bytes := 8) (ys := [[V.i .i64 (cmpS a.args[i] b.args[i])]]) hlt (by simp) (by omega) (by simp) (by simp [zi, roomB, hc5]; omega)
    rw [← hA] at A1
    refine AX.seq (AX.pblock (AX.drw ?_))
    simp [weftref15_Compare.r4, cncs, ss, h1, h2]
    refine callD_pure _ (fun H2 => Rtexts_ok a.args[i] b.args[i] H2) ?_
    simp [repl, -sAppend, e1]
    refine AX.reg ?_
    simp [weftref15_Compare.r5, succ_of_lt h1 (show a.args.length ≤ 9223372036854775807 by omega)]
    exact ⟨a.args.length - (i + 1), by omega, _, _, .refl _ _, i + 1, v1, by omega, by omega, rfl, A1, by simp [cncs, ss]⟩
  simp at hc
  have hA : (zipS a.args b.args).take i = zipS a.args b.args := List.take_of_length_le (by rw [hzl]; omega)
  rw [hA] at A
  have hA2 : zi (cmpR a b) = zi (c5 ++ zipS a.args b.args) ++ [[V.i .i64 (cmpI a.args.length b.args.length)]] := by rw [eR]; simp [zi]
  obtain ⟨v1, X1, e1, A1⟩ := A.app (bytes := 8) (ys := [[V.i .i64 (cmpI a.args.length b.args.length)]]) hlt (by simp) (by omega) (by simp) (by simp [zi, roomB, hc5, hzl]; omega)
  rw [← hA2] at A1
  rw [← cmpR_eq]
  have hRl : (cmpR a b).length ≤ 1000010 := by rw [eR]; simp [hc5, hzl]; omega
  have hRn : cmpR a b ≠ [] := by rw [eR]; simp
  generalize cmpR a b = R at *
  simp
  refine AX.seq (AX.reg ?_)
  simp [weftref15_Compare.r6, cncs, ss]
  refine AC.fix (Rints_ok a.args.length b.args.length _) ?_
  simp [repl, -sAppend, e1]
  refine AX.seq (AX.seq (AX.reg ?_))
  simp [weftref15_Compare.r7]
  have hR0 : R ≠ [] := hRn
  obtain ⟨id, mm, h1, rfl, h2, h3⟩ : ∃ id m, H.next ≤ id ∧ v1 = .sl (some (id, 0, R.length)) R.length 1 ∧ X1.get id = some (.cells (R.map fun x => V.i .i64 x) m) ∧ m ≤ R.length := by
    have hf := zi_flat R
    rcases A1.sl with ⟨h, _⟩ | ⟨id, m, h1, h2, h3, h4⟩
    · exact absurd (by simpa [zi] using h) hR0
    · rw [hf] at h2 h3 h4
      exact ⟨id, m, h1, by simpa [zi] using h2, h3, by simpa using h4⟩
  refine AX.pblock (AX.loop (CmInv1 R (.sl (some (id, 0, R.length)) R.length 1) X1) R.length ⟨_, _, .refl _ _, 0, by omega, by omega, by simp [orI], rfl, rfl⟩ ?_)
  rintro m F Y ⟨k, hk, rfl, ho, rfl, rfl⟩
  simp only [weftref15_Compare.l1]
  refine AX.seq (AX.seq (AX.reg ?_))
  simp [weftref15_Compare.r8]
  refine AX.pcond rfl (fun hd => AX.skip ?_) (fun hd => AX.exit ?_)
  case refine_2 =>
    simp at hd
    rw [List.take_of_length_le hd] at ho
    simp
    refine AX.seq (AX.reg ?_)
    simp [weftref15_Compare.r12]
    refine AX.ret ?_
    simp [ho]
    exact ⟨A1.ext, .refl _⟩
  simp at hd
  have hsp : orI R = if R[k] ≠ 0 then R[k] else orI (R.drop (k + 1)) := by
    conv => lhs; rw [← List.take_append_drop k R, List.drop_eq_getElem_cons hd]
    rw [orI_append]
    simp [ho, orI]
  have hst : orI (R.take (k + 1)) = R[k] := by
    rw [List.take_add_one, List.getElem?_eq_getElem hd, orI_append]
    simp [ho, orI]
    exact fun h => h.symm
  simp
  refine AX.seq (AX.pblock (AX.seq (AX.reg ?_)))
  have hdk : List.take 1 (List.drop k (R.map fun x => V.i .i64 x)) = [V.i .i64 R[k]] := by
    rw [← List.map_drop, List.drop_eq_getElem_cons hd]; rfl
  simp [weftref15_Compare.r9, hd, h2, h3, show k + 1 ≤ R.length from hd, hdk]
  refine AX.pcond rfl (fun he => ?_) (fun he => AX.skip ?_)
  · simp at he
    refine AX.seq (AX.reg ?_)
    simp [weftref15_Compare.r10, hd, h2, h3, show k + 1 ≤ R.length from hd, hdk]
    refine AX.ret ?_
    simp [hsp, he]
    exact ⟨A1.ext, .refl _⟩
  simp at he
  simp
  refine AX.reg ?_
  simp [weftref15_Compare.r11, succ_of_lt hd (show R.length ≤ 9223372036854775807 by omega)]
  exact ⟨R.length - (k + 1), by omega, _, _, .refl _ _, k + 1, by omega, rfl, by rw [hst, he], rfl, by simp⟩
end Go.Proofs.YtjemhlndmkbneaaGreatDoor
namespace Go.Proofs.YtjemhlndmkbneaaGreatDoor
open Am C
set_option linter.unusedSimpArgs false
set_option linter.unusedVariables false
theorem isNaNi_ok (x : Int) (H : Hp) : AC Tryz.prog n_cmp_isNaN_int [.i .i64 x] H (fun v H' => v = .b false ∧ H' = H) := by
  refine AC.code cmp_isNaN_int.at cmp_isNaN_int.ok ?_
  simp only [cmp_isNaN_int]
  refine AX.seq (AX.reg ?_)
  simp [cmp_isNaN_int.r0]
  refine AX.seq (AX.reg ?_)
  simp [cmp_isNaN_int.r1]
  refine AX.ret ?_
  simp
theorem CompareI_ok (x y : Int) (H : Hp) : AC Tryz.prog n_cmp_Compare_int [.i .i64 x, .i .i64 y] H (fun v H' => v = .i .i64 (cmpI x y) ∧ H' = H) := by
  refine AC.code cmp_Compare_int.at cmp_Compare_int.ok ?_
  simp only [cmp_Compare_int]
  refine AX.seq (AX.reg ?_)
  simp [cmp_Compare_int.r0]
  refine AX.seq (AX.reg ?_)
  simp [cmp_Compare_int.r1]
  refine AC.fix (isNaNi_ok _ _) ?_
  simp
  refine AX.seq (AX.reg ?_)
  simp [cmp_Compare_int.r2]
  refine AC.fix (isNaNi_ok _ _) ?_
  simp
  refine AX.seq (AX.seq (AX.reg ?_))
  simp [cmp_Compare_int.r3]
  refine AX.pcond (t := false) rfl (fun h => by simp at h) (fun _ => AX.skip ?_)
  simp
  refine AX.seq (AX.seq (AX.reg ?_))
  simp [cmp_Compare_int.r7]
  refine AX.pcond (t := false) rfl (fun h => by simp at h) (fun _ => AX.skip ?_)
  simp
  refine AX.seq (AX.seq (AX.reg ?_))
  simp [cmp_Compare_int.r9]
  refine AX.pcond rfl (fun h => AX.seq (AX.reg ?_)) (fun h => AX.skip ?_)
  · simp at h
    simp [cmp_Compare_int.r10]
    refine AX.ret ?_
    simp [cmpI, h]
  simp at h
  simp
  refine AX.seq (AX.seq (AX.reg ?_))
  simp [cmp_Compare_int.r11]
  refine AX.pcond rfl (fun h2 => AX.seq (AX.reg ?_)) (fun h2 => AX.skip ?_)
  · simp at h2
    simp [cmp_Compare_int.r12]
    refine AX.ret ?_
    simp [cmpI, show ¬ x < y by omega, show ¬ x = y by omega]
  simp at h2
  simp
  refine AX.seq (AX.reg ?_)
  simp [cmp_Compare_int.r13]
  refine AX.ret ?_
  simp [cmpI, show ¬ x < y by omega, show x = y by omega]
def OrInv (R : List Int) (H : Hp) (m : Nat) (F : Fr) (X : Hp) : Prop :=
  ∃ i, i ≤ R.length ∧ m = R.length - i ∧ orI (R.take i) = 0 ∧ X = H ∧ F = [(3, .i .i64 0), (6, .fs (zi R)), (7, .i .i64 R.length), (8, .i .i64 i)]
theorem Or_ok (R : List Int) (hR : R.length ≤ 1000) (H : Hp) : AC Tryz.prog n_cmp_Or_int [.fs (zi R)] H (fun v H' => v = .i .i64 (orI R) ∧ H' = H) := by
  refine AC.code cmp_Or_int.at cmp_Or_int.ok ?_
  simp only [cmp_Or_int]
  refine AX.seq (AX.reg ?_)
  simp [cmp_Or_int.r0]
  refine AX.seq (AX.reg ?_)
  simp [cmp_Or_int.r1]
  refine AX.seq (AX.seq (AX.reg ?_))
  simp [cmp_Or_int.r2]
  refine AX.pblock (AX.loop (OrInv R H) R.length ⟨_, _, .refl _ _, 0, by omega, by omega, rfl, rfl, by simp [zi]⟩ ?_)
  rintro m F X ⟨i, hi, rfl, ho, rfl, rfl⟩
  simp only [cmp_Or_int.l0]
  refine AX.seq (AX.reg ?_)
  simp [cmp_Or_int.r3]
  refine AX.seq (AX.pcond rfl (fun hd => AX.skip ?_) (fun hd => AX.exit ?_))
  case refine_2 =>
    simp at hd
    rw [List.take_of_length_le hd] at ho
    simp
    refine AX.seq (AX.reg ?_)
    simp [cmp_Or_int.r8]
    refine AX.ret ?_
    simp [ho]
  simp at hd
  have hg : R[i]? = some R[i] := List.getElem?_eq_getElem hd
  have hsp : orI R = if R[i] ≠ 0 then R[i] else orI (R.drop (i + 1)) := by
    conv => lhs; rw [← List.take_append_drop i R, List.drop_eq_getElem_cons hd]
    rw [orI_append]
    simp [ho, orI]
  have hst : orI (R.take (i + 1)) = R[i] := by
    rw [List.take_add_one, hg, orI_append]
    simp [ho, orI]
    exact fun h => h.symm
  simp
  refine AX.seq (AX.pblock (AX.seq (AX.reg ?_)))
  simp [cmp_Or_int.r4, hd, zi, hg]
  refine AX.seq (AX.reg ?_)
  simp [cmp_Or_int.r5]
  refine AX.pcond rfl (fun he => ?_) (fun he => AX.skip ?_)
  · simp at he
    refine AX.seq (AX.reg ?_)
    simp [cmp_Or_int.r6]
    refine AX.ret ?_
    simp [hsp, he]
  simp at he
  simp
  refine AX.reg ?_
  simp [cmp_Or_int.r7, succ_of_lt hd (show R.length ≤ 9223372036854775807 by omega)]
  exact ⟨R.length - (i + 1), by omega, _, _, .refl _ _, i + 1, by omega, rfl, by rw [hst, he], rfl, by simp [zi]⟩
def CmLInv (a b : List Str) (H : Hp) (m : Nat) (F : Fr) (X : Hp) : Prop :=
  ∃ i, i ≤ a.length ∧ i ≤ b.length ∧ m = a.length - i ∧ cmpL a b = cmpL (a.drop i) (b.drop i) ∧ X = H ∧ F = [(0, ss a), (1, ss b), (9, ss a), (10, .i .i64 a.length), (11, .i .i64 i)]
theorem CompareL_ok (a b : List Str) (ha : a.length ≤ 9223372036854775807) (hb : b.length ≤ 9223372036854775807) (H : Hp) : AC Tryz.prog n_slices_Compare_string_string [ss a, ss b] H (fun v H' => v = .i .i64 (cmpL a b) ∧ H' = H) := by
  refine AC.code slices_Compare_string_string.at slices_Compare_string_string.ok ?_
  simp only [slices_Compare_string_string]
  refine AX.seq (AX.reg ?_)
  simp [slices_Compare_string_string.r0]
  refine AX.seq (AX.seq (AX.reg ?_))
  simp [slices_Compare_string_string.r1, ss]
  refine AX.pblock (AX.loop (CmLInv a b H) a.length ⟨_, _, .refl _ _, 0, by omega, by omega, by omega, rfl, rfl, by simp [ss]⟩ ?_)
  rintro m F X ⟨i, hia, hib, rfl, hc, rfl, rfl⟩
  simp only [slices_Compare_string_string.l0]
  refine AX.seq (AX.reg ?_)
  simp [slices_Compare_string_string.r2]
  refine AX.seq (AX.pcond rfl (fun hd => AX.skip ?_) (fun hd => AX.exit ?_))
  case refine_2 =>
    simp at hd
    rw [List.drop_eq_nil_of_le hd] at hc
    have e : cmpL a b = if a.length < b.length then -1 else 0 := by
      rw [hc]
      simp only [cmpL, cmpN, List.length_drop]
      by_cases h : a.length < b.length
      · rw [if_pos (by omega), if_pos h]
      · rw [if_neg (by omega), if_neg h, if_pos (by omega)]
    simp
    refine AX.seq (AX.seq (AX.reg ?_))
    simp [slices_Compare_string_string.r11, ss]
    refine AX.pcond rfl (fun he => ?_) (fun he => AX.skip ?_)
    · simp at he
      refine AX.seq (AX.reg ?_)
      simp [slices_Compare_string_string.r12]
      refine AX.ret ?_
      simp [e, he]
    simp at he
    simp
    refine AX.seq (AX.reg ?_)
    simp [slices_Compare_string_string.r13]
    refine AX.ret ?_
    simp [e, show ¬ a.length < b.length by omega]
  simp at hd
  simp
  rw [List.drop_eq_getElem_cons hd] at hc
  refine AX.seq (AX.pblock (AX.seq (AX.reg ?_)))
  simp [slices_Compare_string_string.r3, ss, hd]
  refine AX.seq (AX.seq (AX.reg ?_))
  simp [slices_Compare_string_string.r4]
  refine AX.pcond rfl (fun he => ?_) (fun he => AX.skip ?_)
  · simp at he
    rw [List.drop_eq_nil_of_le he] at hc
    refine AX.seq (AX.reg ?_)
    simp [slices_Compare_string_string.r5]
    refine AX.ret ?_
    simp [hc, cmpL]
  simp at he
  rw [List.drop_eq_getElem_cons he] at hc
  simp only [cmpL] at hc
  simp
  refine AX.seq (AX.reg ?_)
  simp [slices_Compare_string_string.r6, he]
  refine AX.seq (AX.reg ?_)
  simp [slices_Compare_string_string.r7]
  refine AC.fix (Compare_ok _ _ _) ?_
  simp
  refine AX.seq (AX.reg ?_)
  simp [slices_Compare_string_string.r8]
  refine AX.pcond rfl (fun hf => ?_) (fun hf => AX.skip ?_)
  · simp at hf
    refine AX.seq (AX.reg ?_)
    simp [slices_Compare_string_string.r9]
    refine AX.ret ?_
    simp [hc, hf]
  simp at hf
  simp
  refine AX.reg ?_
  simp [slices_Compare_string_string.r10, succ_of_lt hd ha]
  exact ⟨a.length - (i + 1), by omega, _, _, .refl _ _, i + 1, by omega, by omega, rfl, by rw [hc]; simp [hf], rfl, by simp [ss]⟩
theorem SCompare_ok (a b : Cn) (ha : a.args.length ≤ 9223372036854775807) (hb : b.args.length ≤ 9223372036854775807) (H : Hp) : AC Tryz.prog n_system_Compare [.agg (cncs a), .agg (cncs b)] H (fun v H' => v = .i .i64 (cmpC a b) ∧ H' = H) := by
  refine AC.code system_Compare.at system_Compare.ok ?_
  simp only [system_Compare]
  refine AX.seq (AX.reg ?_)
  simp [system_Compare.r0, cncs]
  refine AX.seq (AX.drw ?_)
  simp [system_Compare.r1]
  refine callD_pure _ (fun H2 => CompareI_ok a.op b.op H2) ?_
  simp
  refine callD_pure _ (fun H2 => Compare_ok a.a b.a H2) ?_
  simp
  refine callD_pure _ (fun H2 => Compare_ok a.b b.b H2) ?_
  simp
  refine callD_pure _ (fun H2 => CompareI_ok a.k b.k H2) ?_
  simp
  refine callD_pure _ (fun H2 => Compare_ok a.tag b.tag H2) ?_
  simp
  refine callD_pure _ (fun H2 => CompareL_ok a.args b.args ha hb H2) ?_
  simp [show repl 6 [V.i .i64 0] = [.i .i64 0, .i .i64 0, .i .i64 0, .i .i64 0, .i .i64 0, .i .i64 0] from rfl]
  refine callD_pure _ (fun H2 => Or_ok [cmpI a.op b.op, cmpS a.a b.a, cmpS a.b b.b, cmpI a.k b.k, cmpS a.tag b.tag, cmpL a.args b.args] (by simp) H2) ?_
  simp
  refine AX.ret ?_
  simp [cmpC]
def numM : List Mk → Mk → Int
  | [], _ => -1
  | y :: r, x => if y = x then 0 else if numM r x < 0 then -1 else numM r x + 1
theorem numM_neg {l : List Mk} {x : Mk} : numM l x < 0 ↔ x ∉ l := by
  induction l with
  | nil => simp [numM]
  | cons y r ih =>
    simp only [numM]
    by_cases h : y = x
    · simp [h]
    · rw [if_neg h]
      by_cases h2 : numM r x < 0
      · rw [if_pos h2]; simp [ih.1 h2, Ne.symm h]
      · rw [if_neg h2]
        have : x ∈ r := Classical.byContradiction fun hc => h2 (ih.2 hc)
        simp [this]; omega
theorem numM_at {l : List Mk} {x : Mk} {i : Nat} (h : l[i]? = some x) (hn : x ∉ l.take i) : numM l x = i := by
  induction l generalizing i with
  | nil => simp at h
  | cons y r ih =>
    cases i with
    | zero => simp at h; simp [numM, h]
    | succ i =>
      simp at h hn
      have := ih h hn.2
      simp only [numM]
      rw [if_neg (Ne.symm hn.1), this, if_neg (by omega)]; omega
theorem numM_ge (l : List Mk) (x : Mk) : -1 ≤ numM l x ∧ numM l x < l.length := by
  induction l with
  | nil => simp [numM]
  | cons y r ih =>
    simp only [numM, List.length_cons]
    split
    · omega
    · split <;> omega
def IxInv (l : List Mk) (x : Mk) (H : Hp) (m : Nat) (F : Fr) (X : Hp) : Prop :=
  ∃ i, i ≤ l.length ∧ m = l.length - i ∧ x ∉ l.take i ∧ X = H ∧ F = [(0, .fs (l.map mkcs)), (3, .fp (mkcs x) 0), (7, .i .i64 l.length), (8, .i .i64 i)]
theorem IndexM_ok (l : List Mk) (x : Mk) (hl : l.length ≤ 9223372036854775807) (H : Hp) : AC Tryz.prog n_slices_Index_api_Mark_api_Mark [.fs (l.map mkcs), .agg (mkcs x)] H (fun v H' => v = .i .i64 (numM l x) ∧ H' = H) := by
  refine AC.code slices_Index_api_Mark_api_Mark.at slices_Index_api_Mark_api_Mark.ok ?_
  simp only [slices_Index_api_Mark_api_Mark]
  refine AX.seq (AX.reg ?_)
  simp [slices_Index_api_Mark_api_Mark.r0, mkcs]
  refine AX.seq (AX.seq (AX.reg ?_))
  simp [slices_Index_api_Mark_api_Mark.r1]
  refine AX.pblock (AX.loop (IxInv l x H) l.length ⟨_, _, .refl _ _, 0, by omega, by omega, by simp, rfl, by simp [mkcs]⟩ ?_)
  rintro m F X ⟨i, hi, rfl, hn, rfl, rfl⟩
  simp only [slices_Index_api_Mark_api_Mark.l0]
  refine AX.seq (AX.reg ?_)
  simp [slices_Index_api_Mark_api_Mark.r2]
  refine AX.seq (AX.pcond rfl (fun hd => AX.skip ?_) (fun hd => AX.exit ?_))
  case refine_2 =>
    simp at hd
    rw [List.take_of_length_le hd] at hn
    simp
    refine AX.seq (AX.reg ?_)
    simp [slices_Index_api_Mark_api_Mark.r7]
    refine AX.ret ?_
    have h1 := numM_neg.2 hn
    have h2 := numM_ge l x
    simp; omega
  simp at hd
  have hg : l[i]? = some l[i] := List.getElem?_eq_getElem hd
  have htk : l.take (i + 1) = l.take i ++ [l[i]] := by rw [List.take_add_one, hg]; rfl
  have hmem := List.getElem_mem hd
  generalize l[i] = q at *
  simp
  refine AX.seq (AX.pblock (AX.seq (AX.reg ?_)))
  simp [slices_Index_api_Mark_api_Mark.r3]
  refine AX.testD (decide (x = q)) [(0, .fs (l.map mkcs)), (3, .fp (mkcs x) 0), (5, .i .i64 i), (7, .i .i64 l.length), (8, .i .i64 i), (16, .b (decide (x = q)))] ?_ rfl (fun hb2 => ?_) (fun hb2 => AX.skip ?_)
  · simp [slices_Index_api_Mark_api_Mark.r4, hg, mkcs]
    rw [mk_eq]
    simp [mkcs]
  · simp at hb2
    refine AX.seq (AX.reg ?_)
    simp [slices_Index_api_Mark_api_Mark.r5]
    refine AX.ret ?_
    simp
    exact (numM_at (by rw [hg, hb2]) hn).symm
  simp at hb2
  simp
  refine AX.reg ?_
  simp [slices_Index_api_Mark_api_Mark.r6, succ_of_lt hd hl]
  refine ⟨l.length - (i + 1), by omega, _, _, .refl _ _, i + 1, by omega, rfl, ?_, rfl, by simp [mkcs]⟩
  rw [htk]
  simp [hn, hb2]
theorem ContainsM_ok (l : List Mk) (x : Mk) (hl : l.length ≤ 9223372036854775807) (H : Hp) : AC Tryz.prog n_slices_Contains_api_Mark_api_Mark [.fs (l.map mkcs), .agg (mkcs x)] H (fun v H' => v = .b (decide (x ∈ l)) ∧ H' = H) := by
  refine AC.code slices_Contains_api_Mark_api_Mark.at slices_Contains_api_Mark_api_Mark.ok ?_
  simp only [slices_Contains_api_Mark_api_Mark]
  refine AX.seq (AX.reg ?_)
  simp [slices_Contains_api_Mark_api_Mark.r0, mkcs]
  refine AX.seq (AX.reg ?_)
  simp [slices_Contains_api_Mark_api_Mark.r1]
  refine AC.fix (IndexM_ok l x hl _) ?_
  simp
  refine AX.ret ?_
  have h := @numM_neg l x
  by_cases hm : x ∈ l
  · have : ¬ numM l x < 0 := fun e => (h.1 e) hm
    simp [hm]; omega
  · have := h.2 hm
    simp [hm]; omega
end Go.Proofs.YtjemhlndmkbneaaGreatDoor
namespace Go.Proofs.YtjemhlndmkbneaaGreatDoor
open Am C
set_option linter.unusedSimpArgs false
set_option linter.unusedVariables false
def ptrB (l r : Str) (i : Nat) : Bool := if i = 0 then decide (r = [112]) else decide (l[i - 1]? = some 112)
def argsB (l r : Str) (args : List Str) : Bool := (List.range args.length).all fun i => argB (ptrB l r i) (args.getD i [])
theorem calledB_eq (c : Cn) : calledB c = match sigS c.tag with
    | none => false
    | some (l, r) => sigOk l r && decide (c.k = 0) && decide (c.args.length = l.length + 1) && argsB l r c.args := by
  unfold calledB
  cases h : sigS c.tag with
  | none => rfl
  | some x =>
    obtain ⟨l, r⟩ := x
    simp only [sigOk, argsB, ptrB]
    cases kpB l <;> cases decide (c.k = 0) <;> simp
def CallInv (c : Cn) (l r : Str) (H : Hp) (m : Nat) (F : Fr) (X : Hp) : Prop :=
  ∃ i, i ≤ c.args.length ∧ m = c.args.length - i ∧ (∀ j, j < i → argB (ptrB l r j) (c.args.getD j []) = true) ∧ X = H ∧ F = [(1, .fp (cncs c) 0), (3, .s l), (4, .s r), (6, .i .i64 i)]
theorem argsB_no {l r : Str} {args : List Str} {i : Nat} (h : i < args.length) (hn : argB (ptrB l r i) (args.getD i []) = false) : argsB l r args = false := by
  cases hk : argsB l r args
  · rfl
  · have := List.all_eq_true.1 hk i (List.mem_range.2 h)
    rw [hn] at this; cases this
theorem sigS_len : ∀ {t : Str} {l r : Str}, sigS t = some (l, r) → l.length + r.length + 1 = t.length
  | [], l, r, h => by simp [sigS] at h
  | c :: q, l, r, h => by
    unfold sigS at h
    split at h
    · injection h with h; injection h with h1 h2; subst h1; subst h2; simp
    · cases hs : sigS q with
      | none => rw [hs] at h; cases h
      | some x =>
        rw [hs] at h; injection h with h; injection h with h1 h2
        have := sigS_len (t := q) (l := x.1) (r := x.2) (by rw [hs])
        subst h1; subst h2; simp; omega
theorem Rcall_ok (c : Cn) (ht : c.tag.length ≤ 9223372036854775807) (ha : c.args.length ≤ 9223372036854775807) (hx : ∀ a ∈ c.args, a.length ≤ 9223372036854775807) (H : Hp) : AC Tryz.prog n_weftref15_call [.agg (cncs c)] H (fun v H' => v = .i .i64 (if calledB c then 0 else 3) ∧ H' = H) := by
  refine AC.code weftref15_call.at weftref15_call.ok ?_
  simp only [weftref15_call]
  refine AX.seq (AX.reg ?_)
  simp [weftref15_call.r0, cncs]
  refine AX.seq (AX.reg ?_)
  simp [weftref15_call.r1]
  refine AC.fix (Sig_ok c.tag ht _) ?_
  rw [calledB_eq]
  unfold sigV
  cases hs : sigS c.tag with
  | none =>
    simp
    refine AX.seq (AX.seq (AX.reg ?_))
    simp [weftref15_call.r2]
    refine AX.pcond (t := true) rfl (fun _ => ?_) (fun h => by simp at h)
    refine AX.seq (AX.reg ?_)
    simp [weftref15_call.r3]
    refine AX.ret ?_
    simp
  | some x =>
    obtain ⟨l, r⟩ := x
    have hll := sigS_len hs
    simp
    refine AX.seq ?_
    refine AX.test (!(sigOk l r && decide (c.k = 0) && decide (c.args.length = l.length + 1))) [(1, .fp (cncs c) 0), (3, .s l), (4, .s r), (30, .b (!(sigOk l r && decide (c.k = 0) && decide (c.args.length = l.length + 1))))] ?_ rfl (fun hb => ?_) (fun hb => AX.skip ?_)
    · cases sigOk l r
      · simp [weftref15_call.r2, cncs]
      have hw : IntKind.i64.wrap ((l.length : Int) + 1) = (l.length : Int) + 1 := wrap_i64 (by omega) (by omega)
      by_cases hk : c.k = 0
      · by_cases hl : c.args.length = l.length + 1
        · simp [weftref15_call.r2, hk, hl, ss, cncs, hw]
        · simp [weftref15_call.r2, hk, hl, ss, cncs, hw, show ¬ (c.args.length : Int) = (l.length : Int) + 1 by omega]
      · simp [weftref15_call.r2, hk, cncs]
    · refine AX.seq (AX.reg ?_)
      simp [weftref15_call.r3]
      refine AX.ret ?_
      simp at hb
      simp
      rcases hb with (h | h) | h <;> simp [h]
    simp at hb
    obtain ⟨⟨h1, h2⟩, h3⟩ := hb
    simp [h1, h2, h3]
    refine AX.seq (AX.seq (AX.reg ?_))
    simp [weftref15_call.r4]
    refine AX.pblock (AX.loop (CallInv c l r H) c.args.length ⟨_, _, .refl _ _, 0, by omega, by omega, fun j hj => by omega, rfl, by simp [cncs]⟩ ?_)
    rintro m F X ⟨i, hi, rfl, hn, rfl, rfl⟩
    simp only [weftref15_call.l0]
    refine AX.seq (AX.seq (AX.reg ?_))
    simp [weftref15_call.r5, ss, cncs]
    refine AX.pcond rfl (fun hb => AX.skip ?_) (fun hb => AX.exit ?_)
    case refine_2 =>
      simp at hb
      have : argsB l r c.args = true := List.all_eq_true.2 fun j hj => hn j (by have := List.mem_range.1 hj; omega)
      simp
      refine AX.seq (AX.reg ?_)
      simp [weftref15_call.r12]
      refine AX.ret ?_
      simp [this]
    simp at hb
    simp
    refine AX.seq (AX.pblock (AX.seq (AX.reg ?_)))
    simp [weftref15_call.r6]
    refine AX.seq (AX.join (F1 := [(1, .fp (cncs c) 0), (3, .s l), (4, .s r), (6, .i .i64 i), (7, .b (ptrB l r i))]) (H1 := X) ?_ ?_)
    · refine AX.seq (AX.reg ?_)
      simp [weftref15_call.r7]
      refine AX.pcond rfl (fun hc => ?_) (fun hc => AX.skip ?_)
      · simp at hc
        have hi1 : i - 1 < l.length := by omega
        have e1 : ((l[i - 1].toNat : Int) = 112) = (l[i - 1] = 112) := u8_ne l[i - 1] 112 (by omega)
        have e0 : ((i : Int) - 1).toNat = i - 1 := by omega
        refine AX.reg ?_
        simp [weftref15_call.r8, show (0 : Int) ≤ (i : Int) - 1 by omega, show 1 ≤ i by omega, e0, hi1, e1, show IntKind.i64.wrap ((i : Int) - 1) = (i : Int) - 1 from wrap_i64 (by omega) (by omega), cncs, ss]
        simp [ptrB, show ¬ i = 0 by omega, hi1]
      · simp at hc
        subst hc
        simp [ptrB, cncs, ss]
    simp
    obtain ⟨p, hp⟩ : ∃ p, p = ptrB l r i := ⟨_, rfl⟩
    rw [← hp]
    have hgd : c.args.getD i [] = c.args[i] := by simp [hb]
    refine AX.test (!argB p c.args[i]) [(1, .fp (cncs c) 0), (3, .s l), (4, .s r), (6, .i .i64 i), (65, .b (!argB p c.args[i]))] ?_ rfl (fun hc => ?_) (fun hc => AX.skip ?_)
    · by_cases h0 : c.args[i] = []
      · simp [weftref15_call.r9, hb, h0, argB, cncs, ss]
      · have h0' : (c.args[i] == []) = false := by simpa using h0
        cases p
        · simp [weftref15_call.r9, hb, h0, h0', argB, cncs, ss]
        · simp [weftref15_call.r9, hb, h0, h0', argB, cncs, ss]
          refine AC.fix (RNode_ok c.args[i] (hx _ (List.getElem_mem hb)) _) ?_
          simp
    · refine AX.seq (AX.reg ?_)
      simp [weftref15_call.r10]
      refine AX.ret ?_
      simp at hc
      simp [argsB_no hb (by rw [hgd, ← hp]; exact hc)]
    simp at hc
    simp
    refine AX.reg ?_
    simp [weftref15_call.r11, succ_of_lt hb ha]
    refine ⟨c.args.length - (i + 1), by omega, _, _, .refl _ _, i + 1, by omega, rfl, fun j hj => ?_, rfl, by simp⟩
    by_cases hj2 : j = i
    · subst hj2; rw [hgd, ← hp]; exact hc
    · exact hn j (by omega)
end Go.Proofs.YtjemhlndmkbneaaGreatDoor
