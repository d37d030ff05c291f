/- AM, part 16: drawn regions, all orders. -/
import Derived.Test.YtihipphpfbnknaaAm15
namespace Go.Proofs.Ytihipphpfbnknaa.Am
open Go Go.RowKit
set_option linter.unusedSimpArgs false
set_option linter.unusedVariables false

/-- The value of the last of those that write t. -/
def LW (ss : List AStep) (vs : Nat → V) (z : V) (t : Nat) (p : Nat → Prop) (x : V) : Prop :=
  (∃ i s, p i ∧ ss[i]? = some s ∧ s.dst = some t ∧ x = vs i ∧ ∀ i' s', p i' → ss[i']? = some s' → s'.dst = some t → i' ≤ i) ∨
  ((∀ i s, p i → ss[i]? = some s → s.dst ≠ some t) ∧ x = z)
theorem LW.eq {ss : List AStep} {vs : Nat → V} {z : V} {t : Nat} {p q : Nat → Prop} {x y : V} (h : LW ss vs z t p x) (k : LW ss vs z t q y) (e : ∀ i s, ss[i]? = some s → s.dst = some t → (p i ↔ q i)) : x = y := by
  rcases h with ⟨i, s, a1, a2, a3, a4, a5⟩ | ⟨a1, a2⟩ <;> rcases k with ⟨j, u, b1, b2, b3, b4, b5⟩ | ⟨b1, b2⟩
  · have h1 := a5 j u ((e j u b2 b3).2 b1) b2 b3
    have h2 := b5 i s ((e i s a2 a3).1 a1) a2 a3
    have : i = j := by omega
    subst this; rw [a4, b4]
  · exact absurd a3 (b1 i s ((e i s a2 a3).1 a1) a2)
  · exact absurd b3 (a1 j u ((e j u b2 b3).2 b1) b2)
  · rw [a2, b2]
def LH (N : Nat) (cl : Nat → Cls) (Hs : Nat → Hp) (p : Nat → Prop) (X : Hp) : Prop :=
  (∃ i, p i ∧ i < N ∧ cl i = .eff ∧ X = Hs (i + 1) ∧ ∀ i', p i' → i' < N → cl i' = .eff → i' ≤ i) ∨ ((∀ i, p i → i < N → cl i ≠ .eff) ∧ X = Hs 0)
theorem LH.eq {N : Nat} {cl : Nat → Cls} {Hs : Nat → Hp} {p q : Nat → Prop} {X Y : Hp} (h : LH N cl Hs p X) (k : LH N cl Hs q Y) (e : ∀ i, i < N → cl i = .eff → (p i ↔ q i)) : X = Y := by
  rcases h with ⟨i, a1, a2, a3, a4, a5⟩ | ⟨a1, a2⟩ <;> rcases k with ⟨j, b1, b2, b3, b4, b5⟩ | ⟨b1, b2⟩
  · have h1 := a5 j ((e j b2 b3).2 b1) b2 b3
    have h2 := b5 i ((e i a2 a3).1 a1) a2 a3
    have : i = j := by omega
    subst this; rw [a4, b4]
  · exact absurd a3 (b1 i ((e i a2 a3).1 a1) a2)
  · exact absurd b3 (a1 j ((e j b2 b3).2 b1) b2)
  · rw [a2, b2]

theorem fget_put (F : Fr) (d : Option Nat) (v : V) (t : Nat) : fget (put F d v) t = if d = some t then v else fget F t := by
  cases d with
  | none => simp [put]
  | some d => simp [put, fset, fget, eq_comm]

section
variable {P : Program} {n : Nat} {ops : Array Oper} {ss : List AStep} {Fs : Nat → Fr} {Hs : Nat → Hp} {vs : Nat → V} {cl : Nat → Cls} {re : Nat → Hp → Prop}

theorem text_F (st : ∀ j s, ss[j]? = some s → StepR P n ops j s (Fs j) (Fs (j + 1)) (Hs j) (Hs (j + 1)) (vs j) (cl j) (re j)) (t : Nat) : ∀ j, j ≤ ss.length → LW ss vs (fget (Fs 0) t) t (· < j) (fget (Fs j) t)
  | 0, _ => .inr ⟨fun i s h => absurd h (by omega), rfl⟩
  | j + 1, hj => by
    have hs : ss[j]? = some ss[j] := List.getElem?_eq_getElem (by omega)
    have h := st j _ hs
    rw [h.put, fget_put]
    have ih := text_F st t j (by omega)
    by_cases hd : (ss[j]).dst = some t
    · rw [if_pos hd]
      exact .inl ⟨j, _, by omega, hs, hd, rfl, fun i' s' h1 _ _ => by omega⟩
    · rw [if_neg hd]
      have no : ∀ i s, ss[i]? = some s → s.dst = some t → (i < j + 1 ↔ i < j) := fun i s h1 h2 => by
        constructor
        · intro h3
          rcases Nat.lt_or_ge i j with h4 | h4
          · exact h4
          · have : i = j := by omega
            subst this
            rw [hs] at h1; injection h1 with h1; subst h1
            exact absurd h2 hd
        · intro; omega
      rcases ih with ⟨i, s, a1, a2, a3, a4, a5⟩ | ⟨a1, a2⟩
      · exact .inl ⟨i, s, by omega, a2, a3, a4, fun i' s' h1 h2 h3 => a5 i' s' ((no i' s' h2 h3).1 h1) h2 h3⟩
      · exact .inr ⟨fun i s h1 h2 h3 => a1 i s ((no i s h2 h3).1 h1) h2 h3, a2⟩

theorem text_H (st : ∀ j s, ss[j]? = some s → StepR P n ops j s (Fs j) (Fs (j + 1)) (Hs j) (Hs (j + 1)) (vs j) (cl j) (re j)) : ∀ j, j ≤ ss.length → LH ss.length cl Hs (· < j) (Hs j)
  | 0, _ => .inr ⟨fun i h => absurd h (by omega), rfl⟩
  | j + 1, hj => by
    have hs : ss[j]? = some ss[j] := List.getElem?_eq_getElem (by omega)
    have h := st j _ hs
    have ih := text_H st j (by omega)
    by_cases hd : cl j = .eff
    · exact .inl ⟨j, by omega, by omega, hd, rfl, fun i' h1 _ _ => by omega⟩
    · rw [h.same hd]
      have no : ∀ i, cl i = .eff → (i < j + 1 ↔ i < j) := fun i h2 => by
        constructor
        · intro h3
          rcases Nat.lt_or_ge i j with h4 | h4
          · exact h4
          · have : i = j := by omega
            subst this; exact absurd h2 hd
        · intro; omega
      rcases ih with ⟨i, a1, a2, a3, a4, a5⟩ | ⟨a1, a2⟩
      · exact .inl ⟨i, by omega, a2, a3, a4, fun i' h1 h2 h3 => a5 i' ((no i' h3).1 h1) h2 h3⟩
      · exact .inr ⟨fun i h1 h2 h3 => a1 i ((no i h3).1 h1) h2 h3, a2⟩

def unl (S : Array Bool) (N : Nat) : Nat := (List.range N).countP fun j => !S.getD j false
theorem countP_lt {p q : Nat → Bool} : ∀ (l : List Nat), (∀ x ∈ l, q x = true → p x = true) → (∃ x ∈ l, p x = true ∧ q x = false) → l.countP q < l.countP p
  | [], _, h => by obtain ⟨x, h, _⟩ := h; cases h
  | y :: l, h1, h2 => by
    have le : l.countP q ≤ l.countP p := List.countP_mono_left fun x hx => h1 x (by simp [hx])
    obtain ⟨x, hx, hp, hq⟩ := h2
    rcases List.mem_cons.1 hx with rfl | hx
    · rw [List.countP_cons_of_pos hp, List.countP_cons_of_neg (by simp [hq])]; omega
    · have ih := countP_lt l (fun z hz => h1 z (by simp [hz])) ⟨x, hx, hp, hq⟩
      by_cases hqy : q y = true
      · rw [List.countP_cons_of_pos hqy, List.countP_cons_of_pos (h1 y (by simp) hqy)]; omega
      · rw [List.countP_cons_of_neg hqy]
        by_cases hpy : p y = true
        · rw [List.countP_cons_of_pos hpy]; omega
        · rw [List.countP_cons_of_neg hpy]; exact ih

structure Inv (P : Program) (n : Nat) (ops : Array Oper) (ss : List AStep) (Fs : Nat → Fr) (Hs : Nat → Hp) (vs : Nat → V) (cl : Nat → Cls) (S : Array Bool) (κ : K) (a : Act) : Prop where
  size : S.size = ss.length
  down : ∀ j, S.getD j false = true → ∀ i, Rch ops i j → S.getD i false = true
  ex : ∃ F2 H2, At κ F2 H2 n a ∧ (∀ t, LW ss vs (fget (Fs 0) t) t (fun i => S.getD i false = true) (fget F2 t)) ∧ LH ss.length cl Hs (fun i => S.getD i false = true) H2

theorem drawn_any (hN : ops.size = ss.length) (hback : ∀ j o, ops[j]? = some o → ∀ e ∈ o.after, Region.binds .any e = true → e.on < j)
    (htemps : ∀ i j x y, i < j → ss[i]? = some x → ss[j]? = some y → clash x y = true → Rch ops i j)
    (hee : ∀ i j, i < j → j < ss.length → cl i = .eff → cl j = .eff → Rch ops i j)
    (hre : ∀ i j, i < j → j < ss.length → cl i = .rd → cl j = .eff → Rch ops i j ∨ re i (Hs (j + 1)))
    (her : ∀ i j, i < j → j < ss.length → cl i = .eff → cl j = .rd → Rch ops i j ∨ re j (Hs i))
    (st : ∀ j s, ss[j]? = some s → StepR P n ops j s (Fs j) (Fs (j + 1)) (Hs j) (Hs (j + 1)) (vs j) (cl j) (re j)) {κ0 : K} {Q : Exit → Act → World → Prop}
    (hQ : ∀ κ' a', κ0.Le κ' → At κ' (Fs ss.length) (Hs ss.length) n a' → Q .normal a' κ'.w) :
    ∀ (fuel : Nat) (S : Array Bool) (κ : K) (a : Act), κ0.Le κ → Inv P n ops ss Fs Hs vs cl S κ a → unl S ss.length ≤ fuel → wpAny P .any ops Q fuel S a κ.w := by
  -- whoever is ready comes behind all that it leans on
  have behind : ∀ {S : Array Bool}, (∀ j, S.getD j false = true → ∀ i, Rch ops i j → S.getD i false = true) → ∀ {j}, j ∈ Region.ready .any ops S → ∀ i, Rch ops i j → S.getD i false = true := fun {S} down {j} hj i hr => by
    obtain ⟨_, o, ho, hp⟩ := mem_ready.1 hj
    have gen : ∀ {i j'}, Rch ops i j' → j' = j → S.getD i false = true := fun {i j'} h => by
      induction h with
      | edge j'' o' e ho' he hb =>
        intro e'; subst e'
        rw [ho] at ho'; injection ho' with ho'; subst ho'
        exact hp e he hb
      | step i k j'' h1 h2 ih1 ih2 => intro e'; exact down k (ih2 e') i h1
    exact gen hr rfl
  -- when nobody is ready all are told
  have all : ∀ {S : Array Bool}, S.size = ss.length → Region.ready .any ops S = [] → ∀ j, j < ss.length → S.getD j false = true := fun {S} hS hr j => by
    induction j using Nat.strongRecOn with
    | _ j ih =>
      intro hj
      cases hc : S.getD j false with
      | true => rfl
      | false =>
        exfalso
        have hjo : j < ops.size := by omega
        have : j ∈ Region.ready .any ops S := mem_ready.2 ⟨by
            have hjs : j < S.size := by omega
            simp [Array.getD_eq_getD_getElem?, hjs] at hc ⊢
            exact hc, ops[j], Array.getElem?_eq_getElem hjo, fun e he hb => by
          have := hback j _ (Array.getElem?_eq_getElem hjo) e he hb
          exact ih _ this (by omega)⟩
        rw [hr] at this; cases this
  have finish : ∀ {S κ a}, κ0.Le κ → Inv P n ops ss Fs Hs vs cl S κ a → Region.ready .any ops S = [] → Q .normal a κ.w := fun {S κ a} le I hr => by
    obtain ⟨F2, H2, A, hF, hH⟩ := I.ex
    have hall := all I.size hr
    have hlt : ∀ {i s}, ss[i]? = some s → i < ss.length := fun {i s} h => (List.getElem?_eq_some_iff.1 h).1
    have e1 : ∀ t, fget F2 t = fget (Fs ss.length) t := fun t => (hF t).eq (text_F st t _ (Nat.le_refl _)) fun i s h1 _ => ⟨fun _ => hlt h1, fun h => hall i h⟩
    have e2 : H2 = Hs ss.length := hH.eq (text_H st _ (Nat.le_refl _)) fun i h1 _ => ⟨fun _ => h1, fun h => hall i h⟩
    subst e2
    exact hQ κ a le ⟨A.S, fun t => by rw [← e1 t]; exact A.r t, A.size, A.defers⟩
  intro fuel
  induction fuel with
  | zero =>
    intro S κ a le I hf
    have hr : Region.ready .any ops S = [] := by
      rw [List.eq_nil_iff_forall_not_mem]
      intro j hj
      obtain ⟨h1, o, ho, _⟩ := mem_ready.1 hj
      have hjl : j < ss.length := by rw [← hN]; exact (Array.getElem?_eq_some_iff.1 ho).1
      have hpos : 0 < unl S ss.length := List.countP_pos_iff.2 ⟨j, by simpa using hjl, by
        have hjs : j < S.size := by rw [I.size]; exact hjl
        simp [Array.getD_eq_getD_getElem?, hjs] at h1 ⊢
        exact h1⟩
      omega
    exact ⟨hr, finish le I hr⟩
  | succ fuel ih =>
    intro S κ a le I hf
    refine ⟨fun hr => finish le I hr, fun j hj => ?_⟩
    obtain ⟨h1, o, ho, _⟩ := mem_ready.1 hj
    have hjo : j < ops.size := (Array.getElem?_eq_some_iff.1 ho).1
    have hjl : j < ss.length := by omega
    have hjs : j < S.size := by rw [I.size]; exact hjl
    have hSj : S.getD j false = false := by
      simp [Array.getD_eq_getD_getElem?, hjs] at h1 ⊢
      exact h1
    have hs : ss[j]? = some ss[j] := List.getElem?_eq_getElem hjl
    have hst := st j _ hs
    obtain ⟨F2, H2, A, hF, hH⟩ := I.ex
    have bh := behind I.down hj
    -- of those that clash with j, just those ahead of it are told
    have told : ∀ {i s}, ss[i]? = some s → i ≠ j → (clash s ss[j] = true ∧ i < j ∨ clash ss[j] s = true ∧ j < i) → (S.getD i false = true ↔ i < j) := fun {i s} hi hne hc => by
      rcases hc with ⟨hc, hlt⟩ | ⟨hc, hlt⟩
      · exact ⟨fun _ => hlt, fun _ => bh i (htemps i j s _ hlt hi hs hc)⟩
      · refine ⟨fun h => ?_, fun h => by omega⟩
        have := I.down i h j (htemps j i _ s hlt hs hi hc)
        rw [hSj] at this; cases this
    have ag : Agree (otS ss[j]) F2 (Fs j) := fun t ht => (hF t).eq (text_F st t j (by omega)) fun i s h2 h3 => by
      by_cases hij : i = j
      · subst hij
        exact ⟨fun h => (by rw [hSj] at h; cases h), fun h => by omega⟩
      · refine told h2 hij ?_
        rcases Nat.lt_or_gt_of_ne hij with hlt | hgt
        · exact .inl ⟨by simp [clash, h3, ht], hlt⟩
        · exact .inr ⟨by simp [clash, h3, ht], hgt⟩
    have notS : ∀ i, S.getD i false = true → ¬ Rch ops j i := fun i h hr => by
      have := I.down i h j hr
      rw [hSj] at this; cases this
    have hHe : cl j = .eff → H2 = Hs j := fun hc => hH.eq (text_H st j (by omega)) fun i h2 h3 => by
      by_cases hij : i = j
      · subst hij
        exact ⟨fun h => (by rw [hSj] at h; cases h), fun h => by omega⟩
      · rcases Nat.lt_or_gt_of_ne hij with hlt | hgt
        · exact ⟨fun _ => hlt, fun _ => bh i (hee i j hlt hjl h3 hc)⟩
        · exact ⟨fun h => absurd (hee j i hgt h2 hc h3) (notS i h), fun h => by omega⟩
    have hHr : cl j = .rd → re j H2 := fun hc => by
      -- those of the chain that are told stand ahead of those that are not
      have seg : ∀ i i', i < ss.length → i' < ss.length → cl i = .eff → cl i' = .eff → S.getD i false = true → S.getD i' false = false → i < i' := fun i i' l1 l2 c1 c2 h1 h2 => by
        rcases Nat.lt_or_ge i i' with q | q
        · exact q
        · exfalso
          rcases Nat.lt_or_ge i' i with q2 | q2
          · have := I.down i h1 i' (hee i' i q2 l1 c2 c1)
            rw [h2] at this; cases this
          · have : i = i' := by omega
            subst this; rw [h1] at h2; cases h2
      by_cases hmiss : ∃ i, i < j ∧ cl i = .eff ∧ S.getD i false = false
      · -- the first that is not told
        obtain ⟨i1, h1, h2, h3, hmin⟩ : ∃ i1, i1 < j ∧ cl i1 = .eff ∧ S.getD i1 false = false ∧ ∀ i, i < i1 → cl i = .eff → S.getD i false = true := by
          have wf : ∀ m, (∃ i, i < m ∧ cl i = .eff ∧ S.getD i false = false) → ∃ i1, i1 < m ∧ cl i1 = .eff ∧ S.getD i1 false = false ∧ ∀ i, i < i1 → cl i = .eff → S.getD i false = true := fun m => by
            induction m with
            | zero => rintro ⟨i, h, _⟩; omega
            | succ m ihm =>
              rintro ⟨i, h, hc1, hc2⟩
              by_cases hm : ∃ i, i < m ∧ cl i = .eff ∧ S.getD i false = false
              · obtain ⟨i1, q1, q2, q3, q4⟩ := ihm hm
                exact ⟨i1, by omega, q2, q3, q4⟩
              · refine ⟨i, h, hc1, hc2, fun i' hi' hci' => ?_⟩
                cases hS' : S.getD i' false with
                | true => rfl
                | false => exact absurd ⟨i', by omega, hci', hS'⟩ hm
          obtain ⟨i1, q1, q2, q3, q4⟩ := wf j hmiss
          exact ⟨i1, q1, q2, q3, q4⟩
        have e : H2 = Hs i1 := hH.eq (text_H st i1 (by omega)) fun i g1 g2 => by
          constructor
          · intro hS; exact seg i i1 g1 (by omega) g2 h2 hS h3
          · intro hlt; exact hmin i hlt g2
        rcases her i1 j h1 hjl h2 hc with hr | hr
        · have := bh i1 hr
          rw [h3] at this; cases this
        · rw [e]; exact hr
      · have hall : ∀ i, i < j → cl i = .eff → S.getD i false = true := fun i h1 h2 => by
          cases hS' : S.getD i false with
          | true => rfl
          | false => exact absurd ⟨i, h1, h2, hS'⟩ hmiss
        by_cases hlate : ∃ i, j < i ∧ i < ss.length ∧ cl i = .eff ∧ S.getD i false = true
        · obtain ⟨i, q1, q2, q3, q4⟩ := hlate
          rcases hH with ⟨i0, a1, a2, a3, a4, a5⟩ | ⟨a1, a2⟩
          · have : i ≤ i0 := a5 i q4 q2 q3
            rcases hre j i0 (by omega) a2 hc a3 with hr | hr
            · exact absurd hr (notS i0 a1)
            · rw [a4]; exact hr
          · exact absurd q3 (a1 i q4 q2)
        · have e : H2 = Hs j := hH.eq (text_H st j (by omega)) fun i g1 g2 => by
            constructor
            · intro hS
              rcases Nat.lt_or_ge i j with q | q
              · exact q
              · exfalso
                by_cases hij : i = j
                · subst hij; rw [hSj] at hS; cases hS
                · exact hlate ⟨i, by omega, g1, g2, hS⟩
            · intro hlt; exact hall i hlt g2
          rw [e]; exact hst.here hc
    refine hst.run κ a F2 H2 A ag hHe hHr _ Q fun κ' cv le' S' rv => ?_
    have set_get : ∀ i, (S.setIfInBounds j true).getD i false = true ↔ (S.getD i false = true ∨ i = j) := fun i => by
      by_cases hij : i = j
      · subst hij; simp [Array.getD_eq_getD_getElem?, hjs]
      · rw [getD_set_ne false (Ne.symm hij)]; simp [hij]
    refine ih _ κ' _ (le.trans le') ⟨by simpa using I.size, fun k hk i hr => ?_, _, _, A.put le' S' hst.dok rv, fun t => ?_, ?_⟩ ?_
    · rw [set_get] at hk ⊢
      rcases hk with hk | rfl
      · exact .inl (I.down k hk i hr)
      · exact .inl (bh i hr)
    · rw [fget_put]
      by_cases hd : (ss[j]).dst = some t
      · rw [if_pos hd]
        refine .inl ⟨j, _, (set_get j).2 (.inr rfl), hs, hd, rfl, fun i' s' h2 h3 h4 => ?_⟩
        rcases (set_get i').1 h2 with h5 | h5
        · by_cases hij : i' = j
          · omega
          · rcases Nat.lt_or_gt_of_ne hij with hlt | hgt
            · omega
            · have := (told h3 hij (.inr ⟨by simp [clash, hd, h4], hgt⟩)).1 h5
              omega
        · omega
      · rw [if_neg hd]
        have no : ∀ i s, ss[i]? = some s → s.dst = some t → ((S.setIfInBounds j true).getD i false = true ↔ S.getD i false = true) := fun i s h2 h3 => by
          rw [set_get]
          refine ⟨fun h => h.resolve_right fun e => ?_, .inl⟩
          subst e
          rw [hs] at h2; injection h2 with h2; subst h2
          exact hd h3
        rcases hF t with ⟨i, s, a1, a2, a3, a4, a5⟩ | ⟨a1, a2⟩
        · exact .inl ⟨i, s, (no i s a2 a3).2 a1, a2, a3, a4, fun i' s' q1 q2 q3 => a5 i' s' ((no i' s' q2 q3).1 q1) q2 q3⟩
        · exact .inr ⟨fun i s q1 q2 q3 => a1 i s ((no i s q2 q3).1 q1) q2 q3, a2⟩
    · by_cases hc : cl j = .eff
      · rw [if_pos hc]
        refine .inl ⟨j, (set_get j).2 (.inr rfl), hjl, hc, rfl, fun i' h2 h3 h4 => ?_⟩
        rcases (set_get i').1 h2 with h5 | h5
        · by_cases hij : i' = j
          · omega
          · rcases Nat.lt_or_gt_of_ne hij with hlt | hgt
            · omega
            · exact absurd (hee j i' hgt h3 hc h4) (notS i' h5)
        · omega
      · rw [if_neg hc]
        have no : ∀ i, cl i = .eff → ((S.setIfInBounds j true).getD i false = true ↔ S.getD i false = true) := fun i h2 => by
          rw [set_get]
          refine ⟨fun h => h.resolve_right fun e => ?_, .inl⟩
          subst e; exact hc h2
        rcases hH with ⟨i, a1, a2, a3, a4, a5⟩ | ⟨a1, a2⟩
        · exact .inl ⟨i, (no i a3).2 a1, a2, a3, a4, fun i' q1 q2 q3 => a5 i' ((no i' q3).1 q1) q2 q3⟩
        · exact .inr ⟨fun i q1 q2 q3 => a1 i ((no i q3).1 q1) q2 q3, a2⟩
    · have : unl (S.setIfInBounds j true) ss.length < unl S ss.length := by
        refine countP_lt _ (fun x _ hx => ?_) ⟨j, by simpa using hjl, by rw [hSj]; rfl, ?_⟩
        · cases h : S.getD x false with
          | false => rfl
          | true =>
            have := (set_get x).2 (.inl h)
            rw [this] at hx; exact hx
        · rw [(set_get j).2 (.inr rfl)]; rfl
      omega

end
end Go.Proofs.Ytihipphpfbnknaa.Am
