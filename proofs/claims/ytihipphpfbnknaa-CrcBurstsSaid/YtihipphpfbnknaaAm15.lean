/- AM, part 15: drawn regions, the proof. -/
import Derived.Test.YtihipphpfbnknaaAm14
namespace Go.Proofs.Ytihipphpfbnknaa.Am
open Go Go.RowKit
set_option linter.unusedSimpArgs false
set_option linter.unusedVariables false

/-- An operation, wherever its operands are right. -/
theorem goD_ok {P : Program} {n : Nat} {ops : Array Oper} {j : Nat} {o : Oper} {s : AStep} (ho : ops[j]? = some o) (hd : o.dst = s.dst) (hn : dstOk n s.dst = true) (hok : okDo P o.op s.d = true)
    {F : Fr} {H : Hp} (hw : ∀ (κ : K) (a : Act) (F2 : Fr), FR κ F2 a.tmps → Agree (otS s) F2 F → Region.wanted o (yielded ops a.tmps) = true) {J0 : Cls → V → Hp → Prop} (hg : goD P s J0 F H) :
    ∃ c v H', StepR P n ops j s F (put F s.dst v) H H' v c ∧ J0 c v H' := by
  have wpo : ∀ {κ : K} {a : Act} {F2 : Fr} {J : Act → World → Prop} {Q : Exit → Act → World → Prop}, FR κ F2 a.tmps → Agree (otS s) F2 F → o.wp P a κ.w J Q → wpOp P ops Q j J a κ.w := fun {κ a F2 J Q} r ag h => by
    unfold wpOp
    simp only [ho]
    rw [if_pos (hw κ a F2 r ag)]
    exact .inl h
  obtain ⟨sd, sg, sdo⟩ := s
  cases sdo with
  | op p =>
    simp only [goD] at hg
    split at hg
    · rename_i v H' hst
      refine ⟨clsO p F, v, H', ⟨⟨o, ho, hd⟩, hn, rfl, fun hne => ?_, fun κ a F2 H2 A ag hH J Q hJ => ?_⟩, hg⟩
      · cases hc : clsO p F with
        | pure => exact (cls_pure hc hst).1
        | rd => exact cls_rd hc hst
        | eff => exact absurd hc hne
      · refine wpo A.r ag ?_
        have ag' : Agree (otOp p) F2 F := Agree.left (a := otOp p) ag
        have hst2 : astep p F2 H2 = some (v, if clsO p F = .eff then H' else H2) := by
          rw [astep_congr ag']
          cases hc : clsO p F with
          | pure => simpa using (cls_pure hc hst).2 H2
          | rd => have := hH (by rw [hc]; simp); subst this; rw [hst, cls_rd hc hst]; simp
          | eff => have := hH (by rw [hc]; simp); subst this; simpa using hst
        obtain ⟨κ', nx, cv, le, S', rv, run, hnx⟩ := okOp_ok hok F2 H2 v _ hst2 κ a A.S A.r
        have := hJ κ' cv le S' rv
        unfold Oper.wp
        rw [run]
        rcases hnx with rfl | ⟨rfl, rfl⟩
        · simp only [Oper.upon_value]; rw [hd]; exact this
        · simp only [Oper.upon_skip]; rw [hd]; exact this
    · exact hg.elim
  | call f args =>
    simp only [goD] at hg
    simp only [okDo] at hok
    split at hok
    · rename_i g os ts hop
      simp only [Bool.and_eq_true, beq_iff_eq] at hok
      obtain ⟨rfl, h2⟩ := hok
      have run : ∀ {κ : K} {a : Act} {F2 : Fr} {H2 : Hp} {R : V → Hp → Prop} {J : Act → World → Prop} {Q : Exit → Act → World → Prop}, At κ F2 H2 n a → Agree (otAs args) F2 F → AC P f (evs F args) H2 R →
          (∀ κ' v cv H', κ.Le κ' → Sim κ' H' → VR κ' v cv → R v H' → J (a.put o.dst cv) κ'.w) → o.wp P a κ.w J Q := fun {κ a F2 H2 R J Q} A ag hac hK => by
        have hv := okAOs_ok h2 A.r
        rw [ag.evs] at hv
        refine wp_call hac A.S (cs := os.map a.eval) (by rw [Array.toList_map]; exact hv) ?_ hK
        simp only [execOp, hop, resolve, Sem.run_bind, Act.eval, Deferred.ofValue, Sem.run_pure, Result.andThen_ok, invoke]
        simpa using callFunc_enter hac.1
      rcases hg with ⟨v, hac, k⟩ | ⟨v, H1, hac, k⟩
      · refine ⟨.pure, v, H, ⟨⟨o, ho, hd⟩, hn, rfl, fun _ => rfl, fun κ a F2 H2 A ag hH J Q hJ => ?_⟩, k⟩
        refine wpo A.r ag (run A (Agree.left (a := otAs args) ag) (hac H2) fun κ' u cv H' le S' rv hR => ?_)
        obtain ⟨rfl, rfl⟩ := hR
        rw [hd]; exact hJ κ' cv le (by simpa using S') rv
      · refine ⟨.eff, v, H1, ⟨⟨o, ho, hd⟩, hn, rfl, fun h => absurd rfl h, fun κ a F2 H2 A ag hH J Q hJ => ?_⟩, k⟩
        have := hH (by simp); subst this
        refine wpo A.r ag (run A (Agree.left (a := otAs args) ag) hac fun κ' u cv H' le S' rv hR => ?_)
        obtain ⟨rfl, rfl⟩ := hR
        rw [hd]; exact hJ κ' cv le (by simpa using S') rv
    · cases hok
  | callv fv args =>
    simp only [goD] at hg
    simp only [okDo] at hok
    split at hg
    · rename_i f caps hfv
      split at hok
      · rename_i x os ts hop
        simp only [Bool.and_eq_true] at hok
        obtain ⟨h1, h2⟩ := hok
        have run : ∀ {κ : K} {a : Act} {F2 : Fr} {H2 : Hp} {R : V → Hp → Prop} {J : Act → World → Prop} {Q : Exit → Act → World → Prop}, At κ F2 H2 n a → Agree (otA fv ++ otAs args) F2 F → AC P f (evs F args ++ caps) H2 R →
            (∀ κ' v cv H', κ.Le κ' → Sim κ' H' → VR κ' v cv → R v H' → J (a.put o.dst cv) κ'.w) → o.wp P a κ.w J Q := fun {κ a F2 H2 R J Q} A ag hac hK => by
          have hv := okAOs_ok h2 A.r
          rw [ag.right.evs] at hv
          have hx := okAO_ok h1 A.r
          rw [ag.left.ev, hfv] at hx
          generalize hcx : a.eval x = c at hx
          cases hx with
          | fn _ _ cs g1 g2 =>
            refine wp_call hac A.S (cs := os.map a.eval ++ cs.toArray) (by simpa using hv.append ⟨g1, g2⟩) ?_ hK
            simp only [execOp, hop, resolve, Sem.run_bind, hcx, Deferred.ofValue, Sem.run_pure, Result.andThen_ok, invoke]
            simpa using callFunc_enter hac.1
        rcases hg with ⟨v, hac, k⟩ | ⟨v, H1, hac, k⟩
        · refine ⟨.pure, v, H, ⟨⟨o, ho, hd⟩, hn, rfl, fun _ => rfl, fun κ a F2 H2 A ag hH J Q hJ => ?_⟩, k⟩
          refine wpo A.r ag (run A (Agree.left (a := otA fv ++ otAs args) ag) (hac H2) fun κ' u cv H' le S' rv hR => ?_)
          obtain ⟨rfl, rfl⟩ := hR
          rw [hd]; exact hJ κ' cv le (by simpa using S') rv
        · refine ⟨.eff, v, H1, ⟨⟨o, ho, hd⟩, hn, rfl, fun h => absurd rfl h, fun κ a F2 H2 A ag hH J Q hJ => ?_⟩, k⟩
          have := hH (by simp); subst this
          refine wpo A.r ag (run A (Agree.left (a := otA fv ++ otAs args) ag) hac fun κ' u cv H' le S' rv hR => ?_)
          obtain ⟨rfl, rfl⟩ := hR
          rw [hd]; exact hJ κ' cv le (by simpa using S') rv
      · cases hok
    · exact hg.elim

/-- A step that is passed by. -/
theorem skip_ok {P : Program} {n : Nat} {ops : Array Oper} {j : Nat} {o : Oper} {s : AStep} (ho : ops[j]? = some o) (hd : o.dst = s.dst) (hn : dstOk n s.dst = true) {F : Fr} {H : Hp}
    (hw : ∀ (κ : K) (a : Act) (F2 : Fr), FR κ F2 a.tmps → Agree (otS s) F2 F → Region.wanted o (yielded ops a.tmps) = false) : StepR P n ops j s F (put F s.dst (.tup [])) H H (.tup []) .pure :=
  ⟨⟨o, ho, hd⟩, hn, rfl, fun _ => rfl, fun κ a F2 H2 A ag hH J Q hJ => by
    unfold wpOp
    simp only [ho]
    rw [if_neg (by rw [hw κ a F2 A.r ag]; simp), hd]
    exact hJ κ undef (.refl κ) (by simpa using A.S) (.und κ)⟩

/-- The text's run, as functions of the place. -/
theorem awpD_run {P : Program} {n : Nat} {ops : Array Oper} : ∀ {os : List Oper} {ss : List AStep} (k : Nat), okSteps P n ops os ss = true → (∀ j, os[j]? = ops[k + j]?) →
    ∀ {cs : List Cls} {J : List Cls → Fr → Hp → Prop} {F : Fr} {H : Hp}, awpD P ss cs J F H →
    ∃ (Fs : Nat → Fr) (Hs : Nat → Hp) (vs : Nat → V) (cl : Nat → Cls), Fs k = F ∧ Hs k = H ∧
      (∀ j s, ss[j]? = some s → StepR P n ops (k + j) s (Fs (k + j)) (Fs (k + j + 1)) (Hs (k + j)) (Hs (k + j + 1)) (vs (k + j)) (cl (k + j))) ∧
      J (cs ++ (List.range ss.length).map fun j => cl (k + j)) (Fs (k + ss.length)) (Hs (k + ss.length))
  | [], [], k, _, _, cs, J, F, H, h => ⟨fun _ => F, fun _ => H, fun _ => .junk, fun _ => .pure, rfl, rfl, fun j s hj => by simp at hj, by simpa [awpD] using h⟩
  | o :: os, s :: ss, k, hok, hos, cs, J, F, H, h => by
    simp only [okSteps, okStep, Bool.and_eq_true, beq_iff_eq] at hok
    obtain ⟨⟨⟨⟨h1, h2⟩, h3⟩, h4⟩, h5⟩ := hok
    have h0 : ops[k]? = some o := by simpa using (hos 0).symm
    have cons : ∀ {v : V} {H' : Hp} {c : Cls}, StepR P n ops k s F (put F s.dst v) H H' v c → awpD P ss (cs ++ [c]) J (put F s.dst v) H' →
        ∃ (Fs : Nat → Fr) (Hs : Nat → Hp) (vs : Nat → V) (cl : Nat → Cls), Fs k = F ∧ Hs k = H ∧
          (∀ j t, (s :: ss)[j]? = some t → StepR P n ops (k + j) t (Fs (k + j)) (Fs (k + j + 1)) (Hs (k + j)) (Hs (k + j + 1)) (vs (k + j)) (cl (k + j))) ∧
          J (cs ++ (List.range (s :: ss).length).map fun j => cl (k + j)) (Fs (k + (s :: ss).length)) (Hs (k + (s :: ss).length)) := fun {v H' c} st hr => by
      obtain ⟨Fs, Hs, vs, cl, e1, e2, e3, e4⟩ := awpD_run (k + 1) h5 (fun j => by have := hos (j + 1); simpa [Nat.add_assoc, Nat.add_comm 1 j] using this) hr
      refine ⟨fun j => if j = k then F else Fs j, fun j => if j = k then H else Hs j, fun j => if j = k then v else vs j, fun j => if j = k then c else cl j, by simp, by simp, fun j t hj => ?_, ?_⟩
      · cases j with
        | zero =>
          simp at hj; subst hj
          simp only [Nat.add_zero, if_true, show k + 1 ≠ k by omega, if_false, e1, e2]
          exact st
        | succ j =>
          have := e3 j t (by simpa using hj)
          simp only [show k + (j + 1) ≠ k by omega, show k + (j + 1) + 1 ≠ k by omega, if_false]
          simpa [Nat.add_assoc, Nat.add_comm 1 j, Nat.add_comm 1 (j + 1)] using this
      · simp only [List.length_cons, show k + (ss.length + 1) ≠ k by omega, if_false]
        have e : (cs ++ (List.range (ss.length + 1)).map fun j => if k + j = k then c else cl (k + j)) = cs ++ [c] ++ (List.range ss.length).map fun j => cl (k + 1 + j) := by
          rw [List.range_succ_eq_map]
          simp [Function.comp_def, Nat.add_assoc, Nat.add_comm 1]
        rw [e, show k + (ss.length + 1) = k + 1 + ss.length by omega]
        exact e4
    have wt : ∀ (κ : K) (a : Act) (F2 : Fr), FR κ F2 a.tmps → (s.g = none ∧ Region.wanted o (yielded ops a.tmps) = true) ∨ ∃ t b, s.g = some (t, b) ∧ (∀ x, fget F2 t = .b x → Region.wanted o (yielded ops a.tmps) = decide (x = b)) ∧ (fget F2 t = .tup [] → Region.wanted o (yielded ops a.tmps) = false) := fun κ a F2 r => wanted_of r h3
    simp only [awpD] at h
    split at h
    · rename_i hgd
      obtain ⟨c, v, H', st, hr⟩ := goD_ok h0 h1 h2 h4 (fun κ a F2 r ag => by
        rcases wt κ a F2 r with ⟨_, hw⟩ | ⟨t, b, e, _⟩
        · exact hw
        · rw [hgd] at e; cases e) h
      exact cons st hr
    · rename_i t b hgd
      have agt : ∀ {F2 : Fr}, Agree (otS s) F2 F → fget F2 t = fget F t := fun {F2} ag => ag t (by simp [otS, hgd])
      split at h
      · rename_i x hx
        by_cases hxb : x = b
        · obtain ⟨c, v, H', st, hr⟩ := goD_ok h0 h1 h2 h4 (fun κ a F2 r ag => by
            rcases wt κ a F2 r with ⟨e, _⟩ | ⟨t', b', e, hw⟩
            · rw [hgd] at e; cases e
            · rw [hgd] at e; injection e with e; injection e with e1 e2; subst e1; subst e2
              rw [hw.1 x (by rw [agt ag]; exact hx)]; simp [hxb]) (h.1 hxb)
          exact cons st hr
        · refine cons (skip_ok h0 h1 h2 (fun κ a F2 r ag => ?_)) (h.2 hxb)
          rcases wt κ a F2 r with ⟨e, _⟩ | ⟨t', b', e, hw⟩
          · rw [hgd] at e; cases e
          · rw [hgd] at e; injection e with e; injection e with e1 e2; subst e1; subst e2
            rw [hw.1 x (by rw [agt ag]; exact hx)]; simp [hxb]
      · rename_i hx
        refine cons (skip_ok h0 h1 h2 (fun κ a F2 r ag => ?_)) h
        rcases wt κ a F2 r with ⟨e, _⟩ | ⟨t', b', e, hw⟩
        · rw [hgd] at e; cases e
        · rw [hgd] at e; injection e with e; injection e with e1 e2; subst e1; subst e2
          exact hw.2 (by rw [agt ag]; exact hx)
      · exact h.elim
  | [], _ :: _, _, h, _, _, _, _, _, _ => by cases h
  | _ :: _, [], _, h, _, _, _, _, _, _ => by cases h

end Go.Proofs.Ytihipphpfbnknaa.Am
