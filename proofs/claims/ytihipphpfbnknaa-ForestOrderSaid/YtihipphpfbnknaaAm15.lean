/- AM, part 15: drawn regions, the proof. -/
import Derived.Test.YtihipphpfbnknaaAm14
namespace Go.Proofs.Ytihipphpfbnknaa.Am
open Go Go.RowKit
set_option linter.unusedSimpArgs false
set_option linter.unusedVariables false

/-- An operation, wherever its operands are right. -/
theorem goD_ok {P : Program} {n : Nat} {ops : Array Oper} {j : Nat} {o : Oper} {s : AStep} (ho : ops[j]? = some o) (hd : o.dst = s.dst) (hn : dstOk n s.dst = true) (hok : okDo P o.op s.d = true)
    {F : Fr} {H : Hp} (hw : ∀ (κ : K) (a : Act) (F2 : Fr), FR κ F2 a.tmps → Agree (otS s) F2 F → Region.wanted o (yielded ops a.tmps) = true) {J0 : Cls → V → Hp → (Hp → Prop) → Prop} (hg : goD P s J0 F H) :
    ∃ c v H' re, StepR P n ops j s F (put F s.dst v) H H' v c re ∧ J0 c v H' re := by
  have wpo : ∀ {κ : K} {a : Act} {F2 : Fr} {J : Act → World → Prop} {Q : Exit → Act → World → Prop}, FR κ F2 a.tmps → Agree (otS s) F2 F → o.wp P a κ.w J Q → wpOp P ops Q j J a κ.w := fun {κ a F2 J Q} r ag h => by
    unfold wpOp
    simp only [ho]
    rw [if_pos (hw κ a F2 r ag)]
    exact .inl h
  obtain ⟨sd, sg, sdo⟩ := s
  cases sdo with
  | op p =>
    simp only [goD] at hg
    split at hg
    · rename_i v H' hst
      have same : clsO p F ≠ .eff → H' = H := fun hne => by
        cases hc : clsO p F with
        | pure => exact (cls_pure hc hst).1
        | rd => exact cls_rd hc hst
        | eff => exact absurd hc hne
      refine ⟨clsO p F, v, H', _, ⟨⟨o, ho, hd⟩, hn, rfl, same, fun hr => ?_, fun κ a F2 H2 A ag hH hR J Q hJ => ?_⟩, hg⟩
      · have e := same (by rw [hr]; simp)
        rw [e] at hst; exact hst
      · refine wpo A.r ag ?_
        have ag' : Agree (otOp p) F2 F := Agree.left (a := otOp p) ag
        have hst2 : astep p F2 H2 = some (v, if clsO p F = .eff then H' else H2) := by
          rw [astep_congr ag']
          cases hc : clsO p F with
          | pure => simpa using (cls_pure hc hst).2 H2
          | rd => simpa using hR hc
          | eff => have := hH hc; subst this; simpa using hst
        obtain ⟨κ', nx, cv, le, S', rv, run, hnx⟩ := okOp_ok hok F2 H2 v _ hst2 κ a A.S A.r
        have := hJ κ' cv le S' rv
        unfold Oper.wp
        rw [run]
        rcases hnx with rfl | ⟨rfl, rfl⟩
        · simp only [Oper.upon_value]; rw [hd]; exact this
        · simp only [Oper.upon_skip]; rw [hd]; exact this
    · exact hg.elim
  | call f args =>
    simp only [goD] at hg
    simp only [okDo] at hok
    split at hok
    · rename_i g os ts hop
      simp only [Bool.and_eq_true, beq_iff_eq] at hok
      obtain ⟨rfl, h2⟩ := hok
      have run : ∀ {κ : K} {a : Act} {F2 : Fr} {H2 : Hp} {R : V → Hp → Prop} {J : Act → World → Prop} {Q : Exit → Act → World → Prop}, At κ F2 H2 n a → Agree (otAs args) F2 F → AC P f (evs F args) H2 R →
          (∀ κ' v cv H', κ.Le κ' → Sim κ' H' → VR κ' v cv → R v H' → J (a.put o.dst cv) κ'.w) → o.wp P a κ.w J Q := fun {κ a F2 H2 R J Q} A ag hac hK => by
        have hv := okAOs_ok h2 A.r
        rw [ag.evs] at hv
        refine wp_call hac A.S (cs := os.map a.eval) (by rw [Array.toList_map]; exact hv) ?_ hK
        simp only [execOp, hop, resolve, Sem.run_bind, Act.eval, Deferred.ofValue, Sem.run_pure, Result.andThen_ok, invoke]
        simpa using callFunc_enter hac.1
      simp only [callC] at hg
      rcases hg with ⟨v, hac, k⟩ | ⟨v, hac, k⟩ | ⟨v, H1, hac, k⟩
      · refine ⟨.pure, v, H, _, ⟨⟨o, ho, hd⟩, hn, rfl, fun _ => rfl, (fun h => by cases h), fun κ a F2 H2 A ag hH hR J Q hJ => ?_⟩, k⟩
        refine wpo A.r ag (run A (Agree.left (a := otAs args) ag) (hac H2) fun κ' u cv H' le S' rv hR => ?_)
        obtain ⟨rfl, rfl⟩ := hR
        rw [hd]; exact hJ κ' cv le (by simpa using S') rv
      · refine ⟨.rd, v, H, _, ⟨⟨o, ho, hd⟩, hn, rfl, fun _ => rfl, (fun _ => hac), fun κ a F2 H2 A ag hH hR J Q hJ => ?_⟩, k⟩
        refine wpo A.r ag (run A (Agree.left (a := otAs args) ag) (hR rfl) fun κ' u cv H' le S' rv hR => ?_)
        obtain ⟨rfl, rfl⟩ := hR
        rw [hd]; exact hJ κ' cv le (by simpa using S') rv
      · refine ⟨.eff, v, H1, _, ⟨⟨o, ho, hd⟩, hn, rfl, fun h => absurd rfl h, (fun h => by cases h), fun κ a F2 H2 A ag hH hR J Q hJ => ?_⟩, k⟩
        have := hH rfl; subst this
        refine wpo A.r ag (run A (Agree.left (a := otAs args) ag) hac fun κ' u cv H' le S' rv hR => ?_)
        obtain ⟨rfl, rfl⟩ := hR
        rw [hd]; exact hJ κ' cv le (by simpa using S') rv
    · cases hok
  | callv fv args =>
    simp only [goD] at hg
    simp only [okDo] at hok
    split at hg
    · rename_i f caps hfv
      split at hok
      · rename_i x os ts hop
        simp only [Bool.and_eq_true] at hok
        obtain ⟨h1, h2⟩ := hok
        have run : ∀ {κ : K} {a : Act} {F2 : Fr} {H2 : Hp} {R : V → Hp → Prop} {J : Act → World → Prop} {Q : Exit → Act → World → Prop}, At κ F2 H2 n a → Agree (otA fv ++ otAs args) F2 F → AC P f (evs F args ++ caps) H2 R →
            (∀ κ' v cv H', κ.Le κ' → Sim κ' H' → VR κ' v cv → R v H' → J (a.put o.dst cv) κ'.w) → o.wp P a κ.w J Q := fun {κ a F2 H2 R J Q} A ag hac hK => by
          have hv := okAOs_ok h2 A.r
          rw [ag.right.evs] at hv
          have hx := okAO_ok h1 A.r
          rw [ag.left.ev, hfv] at hx
          generalize hcx : a.eval x = c at hx
          cases hx with
          | fn _ _ cs g1 g2 =>
            refine wp_call hac A.S (cs := os.map a.eval ++ cs.toArray) (by simpa using hv.append ⟨g1, g2⟩) ?_ hK
            simp only [execOp, hop, resolve, Sem.run_bind, hcx, Deferred.ofValue, Sem.run_pure, Result.andThen_ok, invoke]
            simpa using callFunc_enter hac.1
        simp only [callC] at hg
        rcases hg with ⟨v, hac, k⟩ | ⟨v, hac, k⟩ | ⟨v, H1, hac, k⟩
        · refine ⟨.pure, v, H, _, ⟨⟨o, ho, hd⟩, hn, rfl, fun _ => rfl, (fun h => by cases h), fun κ a F2 H2 A ag hH hR J Q hJ => ?_⟩, k⟩
          refine wpo A.r ag (run A (Agree.left (a := otA fv ++ otAs args) ag) (hac H2) fun κ' u cv H' le S' rv hR => ?_)
          obtain ⟨rfl, rfl⟩ := hR
          rw [hd]; exact hJ κ' cv le (by simpa using S') rv
        · refine ⟨.rd, v, H, _, ⟨⟨o, ho, hd⟩, hn, rfl, fun _ => rfl, (fun _ => hac), fun κ a F2 H2 A ag hH hR J Q hJ => ?_⟩, k⟩
          refine wpo A.r ag (run A (Agree.left (a := otA fv ++ otAs args) ag) (hR rfl) fun κ' u cv H' le S' rv hR => ?_)
          obtain ⟨rfl, rfl⟩ := hR
          rw [hd]; exact hJ κ' cv le (by simpa using S') rv
        · refine ⟨.eff, v, H1, _, ⟨⟨o, ho, hd⟩, hn, rfl, fun h => absurd rfl h, (fun h => by cases h), fun κ a F2 H2 A ag hH hR J Q hJ => ?_⟩, k⟩
          have := hH rfl; subst this
          refine wpo A.r ag (run A (Agree.left (a := otA fv ++ otAs args) ag) hac fun κ' u cv H' le S' rv hR => ?_)
          obtain ⟨rfl, rfl⟩ := hR
          rw [hd]; exact hJ κ' cv le (by simpa using S') rv
      · cases hok
    · exact hg.elim

/-- A step that is passed by. -/
theorem skip_ok {P : Program} {n : Nat} {ops : Array Oper} {j : Nat} {o : Oper} {s : AStep} (ho : ops[j]? = some o) (hd : o.dst = s.dst) (hn : dstOk n s.dst = true) {F : Fr} {H : Hp}
    (hw : ∀ (κ : K) (a : Act) (F2 : Fr), FR κ F2 a.tmps → Agree (otS s) F2 F → Region.wanted o (yielded ops a.tmps) = false) : StepR P n ops j s F (put F s.dst (.tup [])) H H (.tup []) .pure (fun _ => True) :=
  ⟨⟨o, ho, hd⟩, hn, rfl, fun _ => rfl, (fun h => by cases h), fun κ a F2 H2 A ag hH hR J Q hJ => by
    unfold wpOp
    simp only [ho]
    rw [if_neg (by rw [hw κ a F2 A.r ag]; simp), hd]
    exact hJ κ undef (.refl κ) (by simpa using A.S) (.und κ)⟩

/-- The text's run, as functions of the place. -/
theorem awpD_run {P : Program} {n : Nat} {ops : Array Oper} {bs : List Nat} : ∀ {os : List Oper} {ss : List AStep} (k : Nat), okSteps P n ops os ss = true → (∀ j, os[j]? = ops[k + j]?) →
    ∀ {log : List LogE} {J : Fr → Hp → Prop} {F : Fr} {H : Hp}, awpD P bs k ss log J F H →
    ∃ (Fs : Nat → Fr) (Hs : Nat → Hp) (vs : Nat → V) (cl : Nat → Cls) (re : Nat → Hp → Prop), Fs k = F ∧ Hs k = H ∧
      (∀ j s, ss[j]? = some s → StepR P n ops (k + j) s (Fs (k + j)) (Fs (k + j + 1)) (Hs (k + j)) (Hs (k + j + 1)) (vs (k + j)) (cl (k + j)) (re (k + j))) ∧
      (∀ j, j < ss.length → cl (k + j) ≠ .pure → ∀ x ∈ log, pairOk bs x ⟨k + j, cl (k + j), Hs (k + j), Hs (k + j + 1), re (k + j)⟩) ∧
      (∀ i j, i < j → j < ss.length → cl (k + i) ≠ .pure → cl (k + j) ≠ .pure → pairOk bs ⟨k + i, cl (k + i), Hs (k + i), Hs (k + i + 1), re (k + i)⟩ ⟨k + j, cl (k + j), Hs (k + j), Hs (k + j + 1), re (k + j)⟩) ∧
      J (Fs (k + ss.length)) (Hs (k + ss.length))
  | [], [], k, _, _, log, J, F, H, h => ⟨fun _ => F, fun _ => H, fun _ => .junk, fun _ => .pure, fun _ _ => True, rfl, rfl, fun j s hj => by simp at hj, fun j hj => by simp at hj, fun i j _ hj => by simp at hj, by simpa [awpD] using h⟩
  | o :: os, s :: ss, k, hok, hos, log, J, F, H, h => by
    simp only [okSteps, okStep, Bool.and_eq_true, beq_iff_eq] at hok
    obtain ⟨⟨⟨⟨h1, h2⟩, h3⟩, h4⟩, h5⟩ := hok
    have h0 : ops[k]? = some o := by simpa using (hos 0).symm
    have cons : ∀ {v : V} {H' : Hp} {c : Cls} {r : Hp → Prop}, StepR P n ops k s F (put F s.dst v) H H' v c r → logD bs k c H H' r log (fun log' => awpD P bs (k + 1) ss log' J (put F s.dst v) H') →
        ∃ (Fs : Nat → Fr) (Hs : Nat → Hp) (vs : Nat → V) (cl : Nat → Cls) (re : Nat → Hp → Prop), Fs k = F ∧ Hs k = H ∧
          (∀ j t, (s :: ss)[j]? = some t → StepR P n ops (k + j) t (Fs (k + j)) (Fs (k + j + 1)) (Hs (k + j)) (Hs (k + j + 1)) (vs (k + j)) (cl (k + j)) (re (k + j))) ∧
          (∀ j, j < (s :: ss).length → cl (k + j) ≠ .pure → ∀ x ∈ log, pairOk bs x ⟨k + j, cl (k + j), Hs (k + j), Hs (k + j + 1), re (k + j)⟩) ∧
          (∀ i j, i < j → j < (s :: ss).length → cl (k + i) ≠ .pure → cl (k + j) ≠ .pure → pairOk bs ⟨k + i, cl (k + i), Hs (k + i), Hs (k + i + 1), re (k + i)⟩ ⟨k + j, cl (k + j), Hs (k + j), Hs (k + j + 1), re (k + j)⟩) ∧
          J (Fs (k + (s :: ss).length)) (Hs (k + (s :: ss).length)) := fun {v H' c r} st hr => by
      obtain ⟨log', hlog, hself, hr'⟩ : ∃ log', (∀ x ∈ log, x ∈ log') ∧ (c ≠ .pure → (⟨k, c, H, H', r⟩ : LogE) ∈ log' ∧ pairsOk bs log ⟨k, c, H, H', r⟩) ∧ awpD P bs (k + 1) ss log' J (put F s.dst v) H' := by
        cases c with
        | pure => exact ⟨log, fun _ h => h, fun h => absurd rfl h, hr⟩
        | rd => exact ⟨_, fun _ h => by simp [h], fun _ => ⟨by simp, hr.1⟩, hr.2⟩
        | eff => exact ⟨_, fun _ h => by simp [h], fun _ => ⟨by simp, hr.1⟩, hr.2⟩
      obtain ⟨Fs, Hs, vs, cl, re, e1, e2, e3, e4, e5, e6⟩ := awpD_run (k + 1) h5 (fun j => by have := hos (j + 1); simpa [Nat.add_assoc, Nat.add_comm 1 j] using this) hr'
      have ne : ∀ j, k + (j + 1) ≠ k := fun j => by omega
      have ne2 : ∀ j, k + (j + 1) + 1 ≠ k := fun j => by omega
      have sh : ∀ j, k + 1 + j = k + (j + 1) := fun j => by omega
      refine ⟨fun j => if j = k then F else Fs j, fun j => if j = k then H else Hs j, fun j => if j = k then v else vs j, fun j => if j = k then c else cl j, fun j => if j = k then r else re j, by simp, by simp, fun j t hj => ?_, fun j hj hc x hx => ?_, fun i j hij hj hci hcj => ?_, ?_⟩
      · cases j with
        | zero =>
          simp at hj; subst hj
          simp only [Nat.add_zero, if_true, show k + 1 ≠ k by omega, if_false, e1, e2]
          exact st
        | succ j =>
          have := e3 j t (by simpa using hj)
          simp only [ne, ne2, if_false]
          simpa only [sh] using this
      · cases j with
        | zero =>
          simp only [Nat.add_zero, if_true, show k + 1 ≠ k by omega, if_false, e2] at hc ⊢
          exact pairsOk_mem (hself hc).2 x hx
        | succ j =>
          simp only [ne, ne2, if_false] at hc ⊢
          have := e4 j (by simpa using hj) (by rw [sh]; exact hc) x (hlog x hx)
          simpa only [sh] using this
      · cases j with
        | zero => omega
        | succ j =>
          cases i with
          | zero =>
            simp only [Nat.add_zero, if_true, show k + 1 ≠ k by omega, if_false, e2, ne, ne2] at hci hcj ⊢
            have := e4 j (by simpa using hj) (by rw [sh]; exact hcj) _ (hself hci).1
            simpa only [sh] using this
          | succ i =>
            simp only [ne, ne2, if_false] at hci hcj ⊢
            have := e5 i j (by omega) (by simpa using hj) (by rw [sh]; exact hci) (by rw [sh]; exact hcj)
            simpa only [sh] using this
      · simp only [List.length_cons, show k + (ss.length + 1) ≠ k by omega, if_false]
        simpa only [sh] using e6
    have wt : ∀ (κ : K) (a : Act) (F2 : Fr), FR κ F2 a.tmps → (s.g = none ∧ Region.wanted o (yielded ops a.tmps) = true) ∨ ∃ t b, s.g = some (t, b) ∧ (∀ x, fget F2 t = .b x → Region.wanted o (yielded ops a.tmps) = decide (x = b)) ∧ (fget F2 t = .tup [] → Region.wanted o (yielded ops a.tmps) = false) := fun κ a F2 r => wanted_of r h3
    simp only [awpD] at h
    split at h
    · rename_i hgd
      obtain ⟨c, v, H', r, st, hr⟩ := goD_ok h0 h1 h2 h4 (fun κ a F2 r ag => by
        rcases wt κ a F2 r with ⟨_, hw⟩ | ⟨t, b, e, _⟩
        · exact hw
        · rw [hgd] at e; cases e) h
      exact cons st hr
    · rename_i t b hgd
      have agt : ∀ {F2 : Fr}, Agree (otS s) F2 F → fget F2 t = fget F t := fun {F2} ag => ag t (by simp [otS, hgd])
      split at h
      · rename_i x hx
        by_cases hxb : x = b
        · obtain ⟨c, v, H', r, st, hr⟩ := goD_ok h0 h1 h2 h4 (fun κ a F2 r ag => by
            rcases wt κ a F2 r with ⟨e, _⟩ | ⟨t', b', e, hw⟩
            · rw [hgd] at e; cases e
            · rw [hgd] at e; injection e with e; injection e with e1 e2; subst e1; subst e2
              rw [hw.1 x (by rw [agt ag]; exact hx)]; simp [hxb]) (h.1 hxb)
          exact cons st hr
        · refine cons (r := fun _ => True) (skip_ok h0 h1 h2 (fun κ a F2 r ag => ?_)) (h.2 hxb)
          rcases wt κ a F2 r with ⟨e, _⟩ | ⟨t', b', e, hw⟩
          · rw [hgd] at e; cases e
          · rw [hgd] at e; injection e with e; injection e with e1 e2; subst e1; subst e2
            rw [hw.1 x (by rw [agt ag]; exact hx)]; simp [hxb]
      · rename_i hx
        refine cons (r := fun _ => True) (skip_ok h0 h1 h2 (fun κ a F2 r ag => ?_)) h
        rcases wt κ a F2 r with ⟨e, _⟩ | ⟨t', b', e, hw⟩
        · rw [hgd] at e; cases e
        · rw [hgd] at e; injection e with e; injection e with e1 e2; subst e1; subst e2
          exact hw.2 (by rw [agt ag]; exact hx)
      · exact h.elim
  | [], _ :: _, _, h, _, _, _, _, _, _ => by cases h
  | _ :: _, [], _, h, _, _, _, _, _, _ => by cases h

end Go.Proofs.Ytihipphpfbnknaa.Am
