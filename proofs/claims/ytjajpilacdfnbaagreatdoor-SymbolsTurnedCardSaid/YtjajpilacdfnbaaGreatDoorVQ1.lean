/- What the law SymbolsTurned alone needs: LTrn, YAll. -/
import Derived.Test.YtjajpilacdfnbaaGreatDoorVQ0
namespace Go.Proofs.YtjajpilacdfnbaaGreatDoor
open Am C
set_option linter.unusedSimpArgs false
set_option linter.unusedVariables false
def TrI0 (l : List Su) (H : Hp) (m : Nat) (F : Fr) (X : Hp) : Prop :=
  ∃ k w, k ≤ l.length ∧ m = l.length - k ∧ Acc H 7 w X ((l.reverse.take k).map sucs) ∧ F = [(0, .fs (l.map sucs)), (3, w), (4, .i .i64 ((l.length : Int) - 1 - k))]
def TrI1 (l : List Su) (A B : List Sm) (e : Int) (H : Hp) (m : Nat) (F : Fr) (X : Hp) : Prop :=
  ∃ i, i ≤ l.length ∧ m = l.length - i ∧ (0 < i → e = 0) ∧ X = H ∧ F = [(0, .fs (l.map sucs)), (5, smV A), (7, .i .i64 e), (8, smV B), (11, .i .i64 ((((l.take i).map fun s => s.gives.length).sum : Nat) : Int)), (12, .i .i64 i)]
def TrI2 (l : List Su) (s : Su) (A : List Sm) (G i : Nat) (H : Hp) (m : Nat) (F : Fr) (X : Hp) : Prop :=
  ∃ k, k ≤ s.gives.length + s.wants.length ∧ m = s.gives.length + s.wants.length - k ∧ X = H ∧ F = [(0, .fs (l.map sucs)), (5, smV A), (7, .i .i64 0), (8, smV A), (11, .i .i64 G), (12, .i .i64 i), (13, .i .i64 k)]
theorem sum_take {l : List Su} {i : Nat} (h : i < l.length) : ((l.take (i + 1)).map fun s => s.gives.length).sum = ((l.take i).map fun s => s.gives.length).sum + l[i].gives.length := by
  rw [List.take_add_one, List.getElem?_eq_getElem h, List.map_append, List.sum_append]; simp
theorem sum_bnd {l : List Su} (hs : ∀ s ∈ l, suS s) : (l.map fun s => s.gives.length).sum ≤ l.length * 140737488355328 := by
  induction l with
  | nil => simp
  | cons s r ih =>
    have h1 := (hs s (by simp)).2.1
    have h2 := ih fun x hx => hs x (by simp [hx])
    simp only [List.map_cons, List.sum_cons, List.length_cons]
    omega
set_option maxHeartbeats 4000000 in
theorem SymbolsTurned_ok (l : List Su) (hl : l.length ≤ 140737488355328) (hs : ∀ s ∈ l, suZ s) (H : Hp) : AC Tryz.prog n_weftlaw28_SymbolsTurned [.fs (l.map sucs)] H (fun v H' => v = .b true ∧ H' = H) := by
  refine AC.codeP weftlaw28_SymbolsTurned.at weftlaw28_SymbolsTurned.ok (free_b _) fun hlt => ?_
  simp only [weftlaw28_SymbolsTurned]
  refine AX.seq (AX.reg ?_)
  simp [weftlaw28_SymbolsTurned.r0]
  refine AX.seq (AX.seq (AX.reg ?_))
  simp [weftlaw28_SymbolsTurned.r1]
  refine AC.fix (works_ok _) ?_
  simp
  refine AX.pcond rfl (fun h => by cases h) (fun _ => AX.skip ?_)
  simp
  refine AX.seq (AX.seq (AX.reg ?_))
  simp [weftlaw28_SymbolsTurned.r3]
  refine (GreatAll_ok l hl hs H).mono ?_
  rintro _ _ ⟨⟨b, rfl, hb⟩, rfl⟩
  rename_i H
  simp
  refine AX.pcond rfl (fun h => AX.seq (AX.reg ?_)) (fun h => AX.skip ?_)
  · simp [weftlaw28_SymbolsTurned.r4]
    refine AX.ret ?_
    simp
    exact ⟨.refl _, .refl _⟩
  obtain ⟨h12, hS⟩ := hb h
  simp
  refine AX.seq (AX.reg ?_)
  simp [weftlaw28_SymbolsTurned.r5]
  refine AX.seq (AX.seq (AX.reg ?_))
  have w0 : Go.IntKind.i64.wrap ((l.length : Int) - 1) = (l.length : Int) - 1 := wrap_i64 (by omega) (by omega)
  simp [weftlaw28_SymbolsTurned.r6, w0]
  refine AX.pblock (AX.loop (TrI0 l _) l.length ⟨_, _, .refl _ _, 0, .sl none 0 0, by omega, by omega, .nil 7 0 (.refl _) hlt, by simp⟩ ?_)
  rintro m F X ⟨k, w, hk, rfl, A, rfl⟩
  simp only [weftlaw28_SymbolsTurned.l0]
  refine AX.seq (AX.seq (AX.reg ?_))
  simp [weftlaw28_SymbolsTurned.r7]
  refine AX.pcond rfl (fun hd => AX.skip ?_) (fun hd => AX.exit ?_)
  · simp at hd
    obtain ⟨j, hj⟩ : ∃ j : Nat, (l.length : Int) - 1 - k = j := ⟨l.length - 1 - k, by omega⟩
    have hjl : j < l.length := by omega
    have hg : l[j]? = some l[j] := List.getElem?_eq_getElem hjl
    have htk : l.reverse.take (k + 1) = l.reverse.take k ++ [l[j]] := by
      have hkl : k < l.reverse.length := by simp; omega
      rw [List.take_add_one, List.getElem?_eq_getElem hkl, List.getElem_reverse]
      have : l.length - 1 - k = j := by omega
      simp [this]
    generalize l[j] = s at *
    obtain ⟨w2, X2, hA, A2, _⟩ := A.appK (bytes := 160) hlt (sucs s) rfl (by decide) (by simp [sucs]) (by simp [roomB]; omega)
    have hA' : sAppend X 7 160 w (.fs [[.s s.name, ss s.gives, ss s.wants, ss s.keeps, .fs (s.sys.objs.map obcs), .fs (s.sys.fns.map fucs), .fs (s.sys.cons.map cncs)]]) = some (w2, X2) := hA
    have w1 : Go.IntKind.i64.wrap ((j : Int) - 1) = (j : Int) - 1 := wrap_i64 (by omega) (by omega)
    rw [hj]
    simp
    refine AX.seq (AX.pblock (AX.reg ?_))
    simp [weftlaw28_SymbolsTurned.r8, hg, sucs, repl, hA', -sAppend]
    refine AX.reg ?_
    simp [weftlaw28_SymbolsTurned.r9, w1]
    refine ⟨l.length - (k + 1), by omega, _, _, .refl _ _, k + 1, w2, by omega, rfl, by rw [htk]; simpa using A2, ?_⟩
    rw [show (l.length : Int) - 1 - ((k + 1 : Nat) : Int) = (j : Int) - 1 by omega]
  simp at hd
  have hkl : k = l.length := by omega
  subst hkl
  rw [List.take_of_length_le (by simp)] at A
  simp
  refine AX.wk (Wk.freeze (F' := [(0, .fs (l.map sucs)), (3, .fs (l.reverse.map sucs))]) (fun k => H.next ≤ k) fun t => ?_) ?_
  · match t with
    | 3 => exact A.frz
    | 0 | 1 | 2 => exact .refl _
    | t + 4 => exact .refl _
  have hE := Hp.wo_new A.ext hlt
  clear A
  generalize X.wo (fun k => H.next ≤ k) = Y at *
  have hr1 := Resolve_ok l (by show l.length ≤ 9223372036854775807; omega) hS
  have hr2 := Resolve_ok l.reverse (by show l.reverse.length ≤ 9223372036854775807; simp; omega) (fun s h => hS s (by simpa using h))
  have hBA : okL l → (resS l.reverse).1 = (resS l).1 := fun h => by rw [res_rev h]
  have hln := (res_bnd l).1
  have hwl := (res_bnd l).2
  have hok : (resS l).2.2 = 0 → okL l := res_ok.1.1
  have hcg : okL l → (l.map fun s => s.gives.length).sum = (resS l).1.length := count_gives
  have htg : okL l → ∀ s ∈ l, ∀ n ∈ s.gives, toldB (resS l).1 n s.name true = true := fun h s hs n hn => told_g h hs hn
  have htw : okL l → ∀ s ∈ l, ∀ n ∈ s.wants, toldB (resS l).1 n s.name false = true := fun h s hs n hn => told_w h hs hn
  obtain ⟨ht1, ht2⟩ := res_turn l
  generalize resS l = r1 at *
  generalize resS l.reverse = r2 at *
  obtain ⟨A, n1, e⟩ := r1
  obtain ⟨B, n2, e2⟩ := r2
  refine AX.seq (AX.reg ?_)
  simp [weftlaw28_SymbolsTurned.r10]
  refine AC.fix (hr1 _) ?_
  simp [rsV]
  refine AX.seq (AX.reg ?_)
  simp [weftlaw28_SymbolsTurned.r11]
  refine AC.fix (by simpa using hr2 Y) ?_
  simp [rsV]
  simp only at ht1 ht2 hok hcg htg htw hBA hln hwl
  refine AX.seq (AX.seq (AX.join (F1 := [(0, .fs (l.map sucs)), (5, smV A), (7, .i .i64 e), (8, smV B), (56, .b false)]) (H1 := Y) (AX.reg ?_) ?_))
  · by_cases he : e = 0
    · have he2 := ht1.1 he
      simp [weftlaw28_SymbolsTurned.r12, smV, he, he2, ht2]
    · have he2 : e2 ≠ 0 := fun h => he (ht1.2 h)
      simp [weftlaw28_SymbolsTurned.r12, smV, he, he2, ht2]
  refine AX.pcond rfl (fun h => by cases h) (fun _ => AX.skip ?_)
  simp
  refine AX.seq (AX.reg ?_)
  simp [weftlaw28_SymbolsTurned.r14]
  refine AX.seq (AX.seq (AX.reg ?_))
  simp [weftlaw28_SymbolsTurned.r15]
  refine AX.pblock (AX.loop (TrI1 l A B e Y) l.length ⟨_, _, .refl _ _, 0, by omega, by omega, by omega, rfl, by simp⟩ ?_)
  rintro m F Z ⟨i, hi, rfl, he0, rfl, rfl⟩
  have hGb := sum_bnd (l := l.take i) fun s h => hS s (List.mem_of_mem_take h)
  have hGl : (l.take i).length ≤ 12 := by simp; omega
  simp only [weftlaw28_SymbolsTurned.l1]
  refine AX.seq (AX.seq (AX.join (F1 := [(0, .fs (l.map sucs)), (5, smV A), (7, .i .i64 e), (8, smV B), (11, .i .i64 ((((l.take i).map fun s => s.gives.length).sum : Nat) : Int)), (12, .i .i64 i), (64, .b (decide (i < l.length ∧ e = 0)))]) (H1 := Z) (AX.reg ?_) ?_))
  · by_cases hd : i < l.length
    · simp [weftlaw28_SymbolsTurned.r16, hd]
    · simp [weftlaw28_SymbolsTurned.r16, hd]
  refine AX.pcond rfl (fun hd => AX.skip ?_) (fun hd => AX.exit ?_)
  · obtain ⟨hdi, he⟩ := of_decide_eq_true hd
    clear hd
    subst he
    have hokl := hok rfl
    have hBA := hBA hokl
    subst hBA
    have htg := htg hokl
    have htw := htw hokl
    have hg : l[i]? = some l[i] := List.getElem?_eq_getElem hdi
    have htg := htg _ (List.getElem_mem hdi)
    have htw := htw _ (List.getElem_mem hdi)
    have hsu := hS _ (List.getElem_mem hdi)
    have e3 := sum_take hdi
    generalize l[i] = s at *
    have b1 := hsu.2.1
    have b2 := hsu.2.2.1
    generalize hG : ((l.take i).map fun s => s.gives.length).sum = G at *
    have w1 : Go.IntKind.i64.wrap ((G : Int) + s.gives.length) = ((G + s.gives.length : Nat) : Int) := by rw [wrap_i64 (by omega) (by omega)]; omega
    have w2 : Go.IntKind.i64.wrap ((s.gives.length : Int) + s.wants.length) = ((s.gives.length + s.wants.length : Nat) : Int) := by rw [wrap_i64 (by omega) (by omega)]; omega
    simp
    refine AX.seq (AX.pblock (AX.seq (AX.reg ?_)))
    simp [weftlaw28_SymbolsTurned.r17, hg, sucs, ss, w1]
    refine AX.seq (AX.reg ?_)
    simp [weftlaw28_SymbolsTurned.r18]
    obtain ⟨G', hG'⟩ : ∃ G', G' = G + s.gives.length := ⟨_, rfl⟩
    rw [show ((G : Int) + s.gives.length) = ((G' : Nat) : Int) by omega]
    rw [← hG'] at e3
    refine AX.pblock (AX.loop (TrI2 l s B G' i Z) (s.gives.length + s.wants.length) ⟨_, _, .refl _ _, 0, by omega, by omega, rfl, by simp⟩ ?_)
    rintro m F Y ⟨k, hk, rfl, rfl, rfl⟩
    simp only [weftlaw28_SymbolsTurned.l2]
    refine AX.seq (AX.seq (AX.drw ?_))
    simp [weftlaw28_SymbolsTurned.r19, hg, sucs, ss, w2]
    refine AX.pcond rfl (fun hc => AX.skip ?_) (fun hc => AX.exit ?_)
    · have hc : k < s.gives.length + s.wants.length := by simp at hc; omega
      obtain ⟨nm, hnm, htl⟩ : ∃ nm, (if k < s.gives.length then s.gives[k]? else s.wants[k - s.gives.length]?) = some nm ∧ toldB B nm s.name (decide (k < s.gives.length)) = true := by
        by_cases h1 : k < s.gives.length
        · rw [if_pos h1, decide_eq_true h1]
          exact ⟨_, List.getElem?_eq_getElem h1, htg _ (List.getElem_mem h1)⟩
        · have h2 : k - s.gives.length < s.wants.length := by omega
          rw [if_neg h1, decide_eq_false h1]
          exact ⟨_, List.getElem?_eq_getElem h2, htw _ (List.getElem_mem h2)⟩
      have htd := told_ok B nm s.name (decide (k < s.gives.length)) (by omega) (fun x hx => by have := hwl x hx; omega)
      rw [htl] at htd
      simp
      refine AX.seq (AX.pblock (AX.seq (AX.reg ?_)))
      simp [weftlaw28_SymbolsTurned.r20]
      refine AX.seq (AX.join (F1 := [(0, .fs (l.map sucs)), (5, smV B), (7, .i .i64 0), (8, smV B), (11, .i .i64 G'), (12, .i .i64 i), (13, .i .i64 k), (14, .s nm)]) (H1 := Y) ?_ ?_)
      · refine AX.seq (AX.reg ?_)
        simp [weftlaw28_SymbolsTurned.r21, hg, sucs, ss]
        refine AX.pcond rfl (fun h1 => ?_) (fun h1 => ?_)
        · have h1 : k < s.gives.length := by simpa using h1
          rw [if_pos h1] at hnm
          refine AX.reg ?_
          simp [weftlaw28_SymbolsTurned.r22, hg, sucs, ss, hnm]
        · have h1 : ¬ k < s.gives.length := by simpa using h1
          rw [if_neg h1] at hnm
          have w3 : Go.IntKind.i64.wrap ((k : Int) - s.gives.length) = ((k - s.gives.length : Nat) : Int) := by rw [wrap_i64 (by omega) (by omega)]; omega
          refine AX.drw ?_
          simp [weftlaw28_SymbolsTurned.r23, hg, sucs, ss, w3, hnm]
      refine AX.seq (AX.drw ?_)
      simp [weftlaw28_SymbolsTurned.r24, hg, sucs, ss]
      refine callD_pure _ (fun H2 => htd H2) ?_
      simp [hg, ss, sucs]
      refine callD_pure _ (fun H2 => htd H2) ?_
      simp
      refine AX.pcond rfl (fun h => by cases h) (fun _ => AX.skip ?_)
      simp
      refine AX.reg ?_
      simp [weftlaw28_SymbolsTurned.r26, i64_succ (i := k) (by omega)]
      exact ⟨s.gives.length + s.wants.length - (k + 1), by omega, _, _, .refl _ _, k + 1, by omega, rfl, rfl, by simp [sucs, ss]⟩
    simp
    refine AX.reg ?_
    simp [weftlaw28_SymbolsTurned.r27, i64_succ (i := i) (by omega)]
    exact ⟨l.length - (i + 1), by omega, _, _, .refl _ _, i + 1, by omega, rfl, fun _ => rfl, rfl, by rw [e3]; simp [sucs, ss]⟩
  have hd := of_decide_eq_false hd
  simp
  refine AX.seq (AX.reg ?_)
  by_cases he : e = 0
  · have hil : i = l.length := by
      have : ¬ i < l.length := fun h => hd ⟨h, he⟩
      omega
    have hc := hcg (hok he)
    subst hil
    simp [weftlaw28_SymbolsTurned.r28, he, smV, hc]
    refine AX.ret ?_
    simp
    exact ⟨hE, .refl _⟩
  · simp [weftlaw28_SymbolsTurned.r28, he]
    refine AX.ret ?_
    simp
    exact ⟨hE, .refl _⟩
end Go.Proofs.YtjajpilacdfnbaaGreatDoor
namespace Go.Proofs.YtjajpilacdfnbaaGreatDoor
open Am C Go.Proofs
set_option linter.unusedSimpArgs false
set_option linter.unusedVariables false
theorem SymbolsTurned_all (us : List V) (h : ArgsZ [.sl TSu] us) : AC Tryz.prog n_weftlaw28_SymbolsTurned us Hp.none (fun r _ => r = .b true) := by
  obtain ⟨l, rfl, h1, h2⟩ := symArg us h
  exact (SymbolsTurned_ok l h1 h2 _).mono fun v H' h => h.1
end Go.Proofs.YtjajpilacdfnbaaGreatDoor
