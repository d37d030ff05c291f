/- Part 24 of the proof of the laws of the queries: TarM. -/
import Derived.Below
namespace Go.Proofs.YtggjaoibcfgofaaGreatDoor
set_option linter.unusedSimpArgs false
set_option linter.unusedVariables false
inductive Rch (G : Nat → List Nat) : Nat → Nat → Prop
  | refl (a : Nat) : Rch G a a
  | tail {a b c : Nat} : Rch G a b → c ∈ G b → Rch G a c
theorem Rch.one {G : Nat → List Nat} {a b : Nat} (h : b ∈ G a) : Rch G a b := .tail (.refl a) h
theorem Rch.trans {G : Nat → List Nat} {a b c : Nat} (h : Rch G a b) (k : Rch G b c) : Rch G a c := by
  induction k with
  | refl => exact h
  | tail _ e ih => exact .tail ih e
theorem Rch.closed {G : Nat → List Nat} {D : Nat → Prop} (hD : ∀ x, D x → ∀ u ∈ G x, D u) {a b : Nat} (h : Rch G a b) (ha : D a) : D b := by
  induction h with
  | refl => exact ha
  | tail _ e ih => exact hD _ ih _ e
def upd {α : Type} (f : Nat → α) (i : Nat) (v : α) : Nat → α := fun k => if k = i then v else f k
@[simp] theorem upd_same {α : Type} (f : Nat → α) (i : Nat) (v : α) : upd f i v i = v := by simp [upd]
theorem upd_ne {α : Type} (f : Nat → α) {i k : Nat} (v : α) (h : k ≠ i) : upd f i v k = f k := by simp [upd, h]
structure TS where
  num : Nat → Nat
  low : Nat → Nat
  wt : Nat → Bool
  part : Nat → Nat
  W : List Nat
  S : List (Nat × Nat)
  parts : Nat
  met : Nat
abbrev TS.A (s : TS) : List Nat := s.S.map Prod.fst
def TS.done (s : TS) (x : Nat) : Prop := s.num x ≠ 0 ∧ x ∉ s.W
def Chn (G : Nat → List Nat) : List (Nat × Nat) → Prop
  | [] => True
  | [_] => True
  | p :: q :: R => (∃ k, q.2 = k + 1 ∧ (G q.1)[k]? = some p.1) ∧ Chn G (q :: R)
theorem Chn.tail {G : Nat → List Nat} {p : Nat × Nat} {R : List (Nat × Nat)} (h : Chn G (p :: R)) : Chn G R := by
  cases R with
  | nil => trivial
  | cons q R => exact h.2
theorem Chn.top {G : Nat → List Nat} {a k k' : Nat} {R : List (Nat × Nat)} (h : Chn G ((a, k) :: R)) : Chn G ((a, k') :: R) := by
  cases R with
  | nil => trivial
  | cons q R => exact h
def Seen (G : Nat → List Nat) (s : TS) (a k : Nat) : Prop := ∀ (i u : Nat), i < k → (G a)[i]? = some u → s.num u ≠ 0 ∧ (u ∈ s.W → s.low a ≤ s.num u)
structure TInv (G : Nat → List Nat) (n : Nat) (s : TS) : Prop where
  wtW : ∀ x, s.wt x = true ↔ x ∈ s.W
  Wn : s.W.Pairwise fun a b => s.num b < s.num a
  vis : ∀ x ∈ s.W, s.num x ≠ 0
  inj : ∀ x y, s.num x ≠ 0 → s.num x = s.num y → x = y
  met : ∀ x, s.num x ≤ s.met
  dom : ∀ x, s.num x ≠ 0 → x < n
  SW : ∀ a ∈ s.A, a ∈ s.W
  Sn : s.A.Pairwise fun a b => s.num b < s.num a
  ch : Chn G s.S
  p4 : ∀ w ∈ s.W, ∀ a ∈ s.A, s.num a ≤ s.num w → Rch G a w
  p5 : ∀ w ∈ s.W, s.low w ≤ s.num w ∧ ∃ u ∈ s.W, s.num u = s.low w ∧ Rch G w u
  p6 : ∀ w ∈ s.W, w ∉ s.A → s.low w < s.num w
  p7 : ∀ w ∈ s.W, w ∉ s.A → ∀ u ∈ G w, s.num u ≠ 0 ∧ (u ∈ s.W → s.low w ≤ s.num u)
  p7t : ∀ p R, s.S = p :: R → Seen G s p.1 p.2
  p7r : ∀ p R, s.S = p :: R → ∀ q ∈ R, Seen G s q.1 (q.2 - 1)
  p8 : ∀ w ∈ s.W, w ∉ s.A → ∃ b ∈ s.A, s.num b ≤ s.num w ∧ s.low b ≤ s.low w ∧ ∀ c ∈ s.A, s.num c ≤ s.num w → s.num c ≤ s.num b
  p9 : ∀ x, s.done x → ∀ u ∈ G x, s.done u ∧ s.part u ≤ s.part x
  p10 : ∀ x, s.done x → s.part x < s.parts
  p10e : ∀ x y, s.done x → s.done y → (s.part x = s.part y ↔ Rch G x y ∧ Rch G y x)
  p10i : ∀ p, p < s.parts → ∃ x, s.done x ∧ s.part x = p
def TS.init : TS := ⟨fun _ => 0, fun _ => 0, fun _ => false, fun _ => 0, [], [], 0, 0⟩
theorem TInv.init (G : Nat → List Nat) (n : Nat) : TInv G n .init :=
  ⟨fun x => by simp [TS.init], .nil, fun x h => by simp [TS.init] at h, fun x y h => absurd rfl h, fun x => Nat.le_refl _, fun x h => absurd rfl h, fun p h => by simp [TS.init] at h, .nil, trivial,
   fun w h => by simp [TS.init] at h, fun w h => by simp [TS.init] at h, fun w h => by simp [TS.init] at h, fun w h => by simp [TS.init] at h, fun p R h => by simp [TS.init] at h, fun p R h => by simp [TS.init] at h,
   fun w h => by simp [TS.init] at h, fun x h => absurd rfl h.1, fun x h => absurd rfl h.1, fun x y h => absurd rfl h.1, fun p h => by simp [TS.init] at h⟩
def TS.visit (s : TS) (S' : List (Nat × Nat)) (a : Nat) : TS := { s with num := upd s.num a (s.met + 1), low := upd s.low a (s.met + 1), wt := upd s.wt a true, W := a :: s.W, S := (a, 0) :: S', met := s.met + 1 }
theorem TInv.visit {G : Nat → List Nat} {n : Nat} {s : TS} (T : TInv G n s) {a : Nat} (ha : s.num a = 0) (hn : a < n) {S' : List (Nat × Nat)} (hm : S'.map Prod.fst = s.A) (hc : Chn G ((a, 0) :: S'))
    (hs : ∀ q ∈ S', Seen G s q.1 (q.2 - 1)) (hr : ∀ b ∈ s.A, Rch G b a) : TInv G n (s.visit S' a) := by
  have aW : a ∉ s.W := fun h => T.vis a h ha
  have wne : ∀ w ∈ s.W, w ≠ a := fun w h e => aW (e ▸ h)
  have n1 : ∀ x, x ≠ a → (s.visit S' a).num x = s.num x := fun x h => upd_ne _ _ h
  have n2 : (s.visit S' a).num a = s.met + 1 := upd_same _ _ _
  have l1 : ∀ x, x ≠ a → (s.visit S' a).low x = s.low x := fun x h => upd_ne _ _ h
  have l2 : (s.visit S' a).low a = s.met + 1 := upd_same _ _ _
  have w1 : (s.visit S' a).W = a :: s.W := rfl
  have A1 : (s.visit S' a).A = a :: s.A := by simp [TS.A, TS.visit, hm]
  have mw : ∀ w ∈ (s.visit S' a).W, w = a ∨ w ∈ s.W := fun w h => by rw [w1] at h; simpa using h
  have wm : ∀ w ∈ s.W, w ∈ (s.visit S' a).W := fun w h => by rw [w1]; simp [h]
  have mA : ∀ w ∈ (s.visit S' a).A, w = a ∨ w ∈ s.A := fun w h => by rw [A1] at h; simpa using h
  have nA : ∀ w, w ∉ (s.visit S' a).A → w ≠ a ∧ w ∉ s.A := fun w h => by rw [A1] at h; simpa using h
  have dn : ∀ x, (s.visit S' a).done x ↔ s.done x := fun x => by
    by_cases h : x = a
    · subst h
      simp only [TS.done, w1, List.mem_cons, true_or, not_true_eq_false, and_false, ha, ne_eq, false_and]
    · simp only [TS.done, w1, n1 x h, List.mem_cons, h, false_or]
  have sn : ∀ q k, q ≠ a → Seen G s q k → Seen G (s.visit S' a) q k := fun q k hq h i u hi hu => by
    obtain ⟨h1, h2⟩ := h i u hi hu
    have hua : u ≠ a := fun e => h1 (e ▸ ha)
    rw [n1 u hua, l1 q hq]
    exact ⟨h1, fun hm => h2 ((mw u hm).resolve_left hua)⟩
  refine ⟨fun x => ?_, ?_, fun x h => ?_, fun x y h e => ?_, fun x => ?_, fun x h => ?_, fun w h => ?_, ?_, hc, fun w hw b hb hle => ?_, fun w hw => ?_, fun w hw hA => ?_, fun w hw hA u hu => ?_, fun p R e => ?_, fun p R e q hq => ?_, fun w hw hA => ?_, fun x hx u hu => ?_, fun x hx => ?_, fun x y hx hy => ?_, fun p hp => ?_⟩
  · by_cases h : x = a
    · subst h; simp [TS.visit]
    · simp only [w1, List.mem_cons, h, false_or]
      rw [← T.wtW x]
      simp [TS.visit, upd_ne _ _ h]
  · rw [w1, List.pairwise_cons]
    refine ⟨fun b hb => ?_, T.Wn.imp_of_mem fun {x y} hx hy h => ?_⟩
    · rw [n2, n1 b (wne b hb)]; have := T.met b; omega
    · rw [n1 x (wne x hx), n1 y (wne y hy)]; exact h
  · rcases mw x h with rfl | h
    · rw [n2]; omega
    · rw [n1 x (wne x h)]; exact T.vis x h
  · by_cases hx : x = a
    · subst hx
      by_cases hy : y = x
      · exact hy.symm
      · rw [n2, n1 y hy] at e; have := T.met y; omega
    · by_cases hy : y = a
      · subst hy
        rw [n2, n1 x hx] at e; have := T.met x; omega
      · rw [n1 x hx] at h e; rw [n1 y hy] at e; exact T.inj x y h e
  · show _ ≤ s.met + 1
    by_cases hx : x = a
    · subst hx; rw [n2]; exact Nat.le_refl _
    · rw [n1 x hx]; have := T.met x; omega
  · by_cases hx : x = a
    · subst hx; exact hn
    · rw [n1 x hx] at h; exact T.dom x h
  · rcases mA w h with rfl | h
    · rw [w1]; simp
    · exact wm _ (T.SW w h)
  · rw [A1, List.pairwise_cons]
    refine ⟨fun b hb => ?_, T.Sn.imp_of_mem fun {x y} hx hy h => ?_⟩
    · rw [n2, n1 b (wne b (T.SW b hb))]; have := T.met b; omega
    · rw [n1 x (wne x (T.SW x hx)), n1 y (wne y (T.SW y hy))]; exact h
  · rcases mA b hb with hba | hb'
    · rcases mw w hw with hwa | hw'
      · rw [hba, hwa]; exact .refl _
      · rw [hba, n2, n1 w (wne w hw')] at hle; have := T.met w; omega
    · rcases mw w hw with hwa | hw'
      · rw [hwa]; exact hr b hb'
      · rw [n1 b (wne b (T.SW b hb')), n1 w (wne w hw')] at hle; exact T.p4 w hw' b hb' hle
  · rcases mw w hw with rfl | hw
    · rw [n2, l2]; exact ⟨Nat.le_refl _, w, by rw [w1]; simp, n2, .refl _⟩
    · rw [n1 w (wne w hw), l1 w (wne w hw)]
      obtain ⟨h1, u, h2, h3, h4⟩ := T.p5 w hw
      exact ⟨h1, u, wm u h2, by rw [n1 u (wne u h2)]; exact h3, h4⟩
  · obtain ⟨h1, h2⟩ := nA w hA
    have hw := (mw w hw).resolve_left h1
    rw [n1 w h1, l1 w h1]; exact T.p6 w hw h2
  · obtain ⟨h1, h2⟩ := nA w hA
    have hw := (mw w hw).resolve_left h1
    obtain ⟨h3, h4⟩ := T.p7 w hw h2 u hu
    have hua : u ≠ a := fun e => h3 (e ▸ ha)
    rw [n1 u hua, l1 w h1]
    exact ⟨h3, fun hm => h4 ((mw u hm).resolve_left hua)⟩
  · have e' : (a, 0) :: S' = p :: R := e
    injection e' with e1 e2
    subst e1
    intro i u hi; exact absurd hi (Nat.not_lt_zero _)
  · have e' : (a, 0) :: S' = p :: R := e
    injection e' with e1 e2
    subst e2
    have hqA : q.1 ∈ s.A := by rw [← hm]; exact List.mem_map.2 ⟨q, hq, rfl⟩
    exact sn _ _ (wne _ (T.SW _ hqA)) (hs q hq)
  · obtain ⟨h1, h2⟩ := nA w hA
    have hw := (mw w hw).resolve_left h1
    obtain ⟨b, hb, q1, q2, q3⟩ := T.p8 w hw h2
    have hba := wne b (T.SW b hb)
    refine ⟨b, by rw [A1]; simp [hb], by rw [n1 b hba, n1 w h1]; exact q1, by rw [l1 b hba, l1 w h1]; exact q2, fun c hc hle => ?_⟩
    rcases mA c hc with rfl | hc
    · rw [n2, n1 w h1] at hle; have := T.met w; omega
    · have hca := wne c (T.SW c hc)
      rw [n1 c hca, n1 w h1] at hle
      rw [n1 c hca, n1 b hba]; exact q3 c hc hle
  · have hx' := (dn x).1 hx
    obtain ⟨h1, h2⟩ := T.p9 x hx' u hu
    exact ⟨(dn u).2 h1, h2⟩
  · exact T.p10 x ((dn x).1 hx)
  · exact T.p10e x y ((dn x).1 hx) ((dn y).1 hy)
  · obtain ⟨x, h1, h2⟩ := T.p10i p hp
    exact ⟨x, (dn x).2 h1, h2⟩
theorem TInv.edge {G : Nat → List Nat} {n : Nat} {s : TS} (T : TInv G n s) {b k a : Nat} {R : List (Nat × Nat)} (hS : s.S = (b, k) :: R) (hk : (G b)[k]? = some a) (ha : s.num a ≠ 0) {L : Nat → Nat}
    (L1 : ∀ x, x ≠ b → L x = s.low x) (L2 : L b ≤ s.low b) (L3 : a ∈ s.W → L b ≤ s.num a) (L4 : L b = s.low b ∨ (a ∈ s.W ∧ L b = s.num a)) : TInv G n { s with S := (b, k + 1) :: R, low := L } := by
  have hA : s.A = b :: R.map Prod.fst := by simp [TS.A, hS]
  have hA' : (TS.mk s.num L s.wt s.part s.W ((b, k + 1) :: R) s.parts s.met).A = s.A := by rw [hA]; rfl
  have bA : b ∈ s.A := by rw [hA]; simp
  have Rne : ∀ q ∈ R, q.1 ≠ b := fun q hq e => by
    have := T.Sn
    rw [hA, List.pairwise_cons] at this
    have := this.1 q.1 (List.mem_map.2 ⟨q, hq, rfl⟩)
    rw [e] at this; omega
  have Lle : ∀ x, L x ≤ s.low x := fun x => by
    by_cases h : x = b
    · subst h; exact L2
    · rw [L1 x h]; exact Nat.le_refl _
  refine ⟨T.wtW, T.Wn, T.vis, T.inj, T.met, T.dom, fun w h => T.SW w (by rw [← hA']; exact h), by rw [hA']; exact T.Sn, (hS ▸ T.ch).top, fun w hw c hc => T.p4 w hw c (by rw [← hA']; exact hc), fun w hw => ?_, fun w hw hn => ?_, fun w hw hn u hu => ?_, fun p R' e => ?_, fun p R' e q hq => ?_, fun w hw hn => ?_, T.p9, T.p10, T.p10e, T.p10i⟩
  · obtain ⟨h1, u, h2, h3, h4⟩ := T.p5 w hw
    refine ⟨Nat.le_trans (Lle w) h1, ?_⟩
    by_cases h : w = b
    · subst h
      rcases L4 with h | ⟨h5, h6⟩
      · exact ⟨u, h2, h3.trans h.symm, h4⟩
      · exact ⟨a, h5, h6.symm, .one (List.mem_of_getElem? hk)⟩
    · exact ⟨u, h2, h3.trans (L1 w h).symm, h4⟩
  · exact Nat.lt_of_le_of_lt (Lle w) (T.p6 w hw (by rw [← hA']; exact hn))
  · obtain ⟨h3, h4⟩ := T.p7 w hw (by rw [← hA']; exact hn) u hu
    exact ⟨h3, fun hm => Nat.le_trans (Lle w) (h4 hm)⟩
  · injection e with e1 e2
    subst e1
    intro i u hi hu
    by_cases h : i < k
    · obtain ⟨h3, h4⟩ := T.p7t _ _ hS i u h hu
      exact ⟨h3, fun hm => Nat.le_trans L2 (h4 hm)⟩
    · have : i = k := by simp at hi; omega
      subst this
      rw [hk] at hu; injection hu with hu; subst hu
      exact ⟨ha, L3⟩
  · injection e with e1 e2
    subst e2
    intro i u hi hu
    obtain ⟨h3, h4⟩ := T.p7r _ _ hS q hq i u hi hu
    exact ⟨h3, fun hm => Nat.le_trans (Lle _) (h4 hm)⟩
  · rw [hA'] at hn ⊢
    obtain ⟨c, hc, q1, q2, q3⟩ := T.p8 w hw hn
    have hwb : w ≠ b := fun e => hn (e ▸ bA)
    exact ⟨c, hc, q1, by show L c ≤ L w; rw [L1 w hwb]; exact Nat.le_trans (Lle c) q2, q3⟩
def TS.lowUp (s : TS) : Nat → Nat := match s.S with
  | (a, _) :: (b, _) :: _ => upd s.low b (min (s.low b) (s.low a))
  | _ => s.low
section
variable {G : Nat → List Nat} {n : Nat} {s : TS} {a k : Nat} {R : List (Nat × Nat)}
theorem TInv.below (T : TInv G n s) (hS : s.S = (a, k) :: R) : ∀ b ∈ R.map Prod.fst, s.num b < s.num a := by
  have := T.Sn
  simp only [TS.A, hS, List.map_cons, List.pairwise_cons] at this
  exact this.1
theorem TInv.low_root (T : TInv G n s) (hS : s.S = (a, k) :: R) (h : s.low a = s.num a) : s.lowUp = s.low := by
  unfold TS.lowUp
  rw [hS]
  cases R with
  | nil => rfl
  | cons q R =>
    obtain ⟨b, j⟩ := q
    have h1 := T.below hS b (by simp)
    have h2 := (T.p5 b (T.SW b (by simp [TS.A, hS]))).1
    funext x
    simp only [upd]
    split
    · rename_i e; subst e; omega
    · rfl
theorem TInv.leave1 (T : TInv G n s) (hS : s.S = (a, k) :: R) (hk : ∀ (i u : Nat), (G a)[i]? = some u → i < k) (h : s.low a ≠ s.num a) : TInv G n { s with S := R, low := s.lowUp } := by
  have aA : a ∈ s.A := by simp [TS.A, hS]
  have aW := T.SW a aA
  obtain ⟨h5, u0, hu0, hu1, hu2⟩ := T.p5 a aW
  have hlt : s.low a < s.num a := by omega
  cases R with
  | nil =>
    exfalso
    have hA : s.A = [a] := by simp [TS.A, hS]
    have hn : u0 ∉ s.A := by rw [hA]; simp; intro e; subst e; omega
    obtain ⟨b, hb, q1, _, _⟩ := T.p8 u0 hu0 hn
    rw [hA] at hb; simp at hb; subst hb; omega
  | cons q R =>
    obtain ⟨b, j⟩ := q
    have hL : s.lowUp = upd s.low b (min (s.low b) (s.low a)) := by unfold TS.lowUp; rw [hS]
    have hA : s.A = a :: b :: R.map Prod.fst := by simp [TS.A, hS]
    have hb := T.below hS
    have hba := hb b (by simp)
    have hSn := T.Sn
    rw [hA, List.pairwise_cons, List.pairwise_cons] at hSn
    have hR := hSn.2.1
    have ane : a ≠ b := fun e => by rw [e] at hba; omega
    have Rne : ∀ q ∈ R, q.1 ≠ b := fun q hq e => by
      have := hR q.1 (List.mem_map.2 ⟨q, hq, rfl⟩)
      rw [e] at this; omega
    obtain ⟨k', hj, hkb⟩ : ∃ k', j = k' + 1 ∧ (G b)[k']? = some a := by have := T.ch; rw [hS] at this; exact this.1
    have L1 : ∀ x, x ≠ b → s.lowUp x = s.low x := fun x hx => by rw [hL, upd_ne _ _ hx]
    have L2 : s.lowUp b = min (s.low b) (s.low a) := by rw [hL, upd_same]
    have Lle : ∀ x, s.lowUp x ≤ s.low x := fun x => by
      by_cases h : x = b
      · subst h; rw [L2]; omega
      · rw [L1 x h]; exact Nat.le_refl _
    have hA' : (TS.mk s.num s.lowUp s.wt s.part s.W ((b, j) :: R) s.parts s.met).A = b :: R.map Prod.fst := rfl
    have sub : ∀ w ∈ b :: R.map Prod.fst, w ∈ s.A := fun w hw => by rw [hA]; exact List.mem_cons_of_mem _ hw
    refine ⟨T.wtW, T.Wn, T.vis, T.inj, T.met, T.dom, fun w hw => T.SW w (sub w hw), by rw [hA']; exact List.pairwise_cons.2 hSn.2, (hS ▸ T.ch : Chn G ((a, k) :: (b, j) :: R)).tail, fun w hw c hc => T.p4 w hw c (sub c hc), fun w hw => ?_, fun w hw hn => ?_, fun w hw hn u hu => ?_, fun p R' e => ?_, fun p R' e q hq => ?_, fun w hw hn => ?_, T.p9, T.p10, T.p10e, T.p10i⟩
    · obtain ⟨h1, u, h2, h3, h4⟩ := T.p5 w hw
      refine ⟨Nat.le_trans (Lle w) h1, ?_⟩
      by_cases hwb : w = b
      · subst hwb
        by_cases hm : s.low w ≤ s.low a
        · exact ⟨u, h2, by show s.num u = s.lowUp w; rw [L2, h3]; omega, h4⟩
        · exact ⟨u0, hu0, by show s.num u0 = s.lowUp w; rw [L2, hu1]; omega, (Rch.one (List.mem_of_getElem? hkb)).trans hu2⟩
      · exact ⟨u, h2, by show s.num u = s.lowUp w; rw [L1 w hwb]; exact h3, h4⟩
    · by_cases hwa : w = a
      · subst hwa; exact Nat.lt_of_le_of_lt (Lle w) hlt
      · exact Nat.lt_of_le_of_lt (Lle w) (T.p6 w hw (by rw [hA]; rw [hA'] at hn; simp only [List.mem_cons, hwa, false_or] at hn ⊢; exact hn))
    · by_cases hwa : w = a
      · subst hwa
        obtain ⟨i, hi⟩ := List.mem_iff_getElem?.1 hu
        obtain ⟨h3, h4⟩ := T.p7t _ _ hS i u (hk i u hi) hi
        exact ⟨h3, fun hm => Nat.le_trans (Lle w) (h4 hm)⟩
      · obtain ⟨h3, h4⟩ := T.p7 w hw (by rw [hA]; rw [hA'] at hn; simp only [List.mem_cons, hwa, false_or] at hn ⊢; exact hn) u hu
        exact ⟨h3, fun hm => Nat.le_trans (Lle w) (h4 hm)⟩
    · injection e with e1 e2
      subst e1
      intro i u hi hu
      by_cases hik : i < j - 1
      · obtain ⟨h3, h4⟩ := T.p7r _ _ hS (b, j) (by simp) i u hik hu
        exact ⟨h3, fun hm => Nat.le_trans (Lle _) (h4 hm)⟩
      · have : i = k' := by simp at hi; omega
        subst this
        simp only at hu
        rw [hkb] at hu; injection hu with hu; subst hu
        refine ⟨T.vis a aW, fun _ => ?_⟩
        show s.lowUp b ≤ s.num a
        rw [L2]; omega
    · injection e with e1 e2
      subst e2
      intro i u hi hu
      obtain ⟨h3, h4⟩ := T.p7r _ _ hS q (by simp [hq]) i u hi hu
      exact ⟨h3, fun hm => Nat.le_trans (Lle _) (h4 hm)⟩
    · rw [hA'] at hn ⊢
      have hwb : w ≠ b := fun e => hn (by simp [e])
      have lw : s.lowUp w = s.low w := L1 w hwb
      have top : ∀ c ∈ b :: R.map Prod.fst, s.num c ≤ s.num b := fun c hc => by
        rcases List.mem_cons.1 hc with rfl | hc
        · exact Nat.le_refl _
        · exact Nat.le_of_lt (hR c hc)
      by_cases hwa : w = a
      · subst hwa
        refine ⟨b, by simp, by show s.num b ≤ s.num w; omega, ?_, fun c hc _ => top c hc⟩
        show s.lowUp b ≤ s.lowUp w
        rw [lw, L2]; omega
      · obtain ⟨c, hc, q1, q2, q3⟩ := T.p8 w hw (by rw [hA]; simp only [List.mem_cons, hwa, false_or] at hn ⊢; exact hn)
        by_cases hca : c = a
        · subst hca
          refine ⟨b, by simp, by show s.num b ≤ s.num w; omega, ?_, fun c hc _ => top c hc⟩
          show s.lowUp b ≤ s.lowUp w
          rw [lw, L2]; omega
        · rw [hA] at hc
          refine ⟨c, (List.mem_cons.1 hc).resolve_left hca, q1, ?_, fun d hd hle => q3 d (sub d hd) hle⟩
          show s.lowUp c ≤ s.lowUp w
          rw [lw]; exact Nat.le_trans (Lle c) q2
theorem TInv.leave2 (T : TInv G n s) (hS : s.S = (a, k) :: R) (hk : ∀ (i u : Nat), (G a)[i]? = some u → i < k) (h : s.low a = s.num a) {X B : List Nat} (hW : s.W = X ++ a :: B) :
    TInv G n { s with S := R, low := s.lowUp, W := B, wt := fun x => if x ∈ X ++ [a] then false else s.wt x, part := fun x => if x ∈ X ++ [a] then s.parts else s.part x, parts := s.parts + 1 } := by
  rw [T.low_root hS h]
  have aA : a ∈ s.A := by simp [TS.A, hS]
  have aW := T.SW a aA
  have hA : s.A = a :: R.map Prod.fst := by simp [TS.A, hS]
  have hR := T.below hS
  have hWn := T.Wn
  rw [hW, List.pairwise_append, List.pairwise_cons] at hWn
  obtain ⟨w1, ⟨w2, w3⟩, w4⟩ := hWn
  have gX : ∀ x ∈ X, s.num a < s.num x := fun x hx => w4 x hx a (by simp)
  have gB : ∀ x ∈ B, s.num x < s.num a := w2
  have gP : ∀ x ∈ X ++ [a], s.num a ≤ s.num x := fun x hx => by
    rcases List.mem_append.1 hx with hx | hx
    · exact Nat.le_of_lt (gX x hx)
    · simp at hx; subst hx; exact Nat.le_refl _
  have PB : ∀ x ∈ X ++ [a], x ∉ B := fun x hx hb => by have := gP x hx; have := gB x hb; omega
  have PW : ∀ x ∈ X ++ [a], x ∈ s.W := fun x hx => by rw [hW]; simp at hx ⊢; rcases hx with h | h <;> simp [h]
  have BW : ∀ x ∈ B, x ∈ s.W := fun x hx => by rw [hW]; simp [hx]
  have Wor : ∀ x ∈ s.W, x ∈ X ++ [a] ∨ x ∈ B := fun x hx => by
    rw [hW] at hx; simp at hx ⊢; rcases hx with h | h | h <;> simp [h]
  have hi : ∀ x ∈ s.W, s.num a ≤ s.num x → x ∈ X ++ [a] := fun x hx hle => (Wor x hx).resolve_right fun hb => by have := gB x hb; omega
  have XA : ∀ x ∈ X, x ∉ s.A := fun x hx hxa => by
    rw [hA] at hxa
    rcases List.mem_cons.1 hxa with rfl | hxa
    · have := gX x hx; omega
    · have := gX x hx; have := hR x hxa; omega
  have own : ∀ x ∈ X, s.num a ≤ s.low x := fun x hx => by
    have hxW := PW x (by simp [hx])
    obtain ⟨c, hc, q1, q2, q3⟩ := T.p8 x hxW (XA x hx)
    have h1 := q3 a aA (Nat.le_of_lt (gX x hx))
    rw [hA] at hc
    rcases List.mem_cons.1 hc with rfl | hc
    · omega
    · have := hR c hc; omega
  have back : ∀ m x, s.num x < m → x ∈ X ++ [a] → Rch G x a := by
    intro m
    induction m with
    | zero => intro x hx; omega
    | succ m ih =>
      intro x hm hx
      rcases List.mem_append.1 hx with hx' | hx'
      · have hxW := PW x hx
        obtain ⟨h1, u, h2, h3, h4⟩ := T.p5 x hxW
        have h6 := T.p6 x hxW (XA x hx')
        have := own x hx'
        exact h4.trans (ih u (by omega) (hi u h2 (by omega)))
      · simp at hx'; subst hx'; exact .refl _
  have bk : ∀ x ∈ X ++ [a], Rch G x a := fun x hx => back _ x (Nat.lt_succ_self _) hx
  have fw : ∀ x ∈ X ++ [a], Rch G a x := fun x hx => T.p4 x (PW x hx) a aA (gP x hx)
  have cl : ∀ x ∈ X ++ [a], ∀ u ∈ G x, s.num u ≠ 0 ∧ (u ∈ s.W → u ∈ X ++ [a]) := fun x hx u hu => by
    rcases List.mem_append.1 hx with hx' | hx'
    · obtain ⟨h3, h4⟩ := T.p7 x (PW x hx) (XA x hx') u hu
      refine ⟨h3, fun hm => hi u hm ?_⟩
      have := h4 hm; have := own x hx'; omega
    · simp at hx'; subst hx'
      obtain ⟨i, hi'⟩ := List.mem_iff_getElem?.1 hu
      obtain ⟨h3, h4⟩ := T.p7t _ _ hS i u (hk i u hi') hi'
      refine ⟨h3, fun hm => hi u hm ?_⟩
      have := h4 hm; simp only at this; omega
  generalize hP : X ++ [a] = P at *
  have aP : a ∈ P := by rw [← hP]; simp
  have doneP : ∀ x ∈ P, ¬ s.done x := fun x hx hd => hd.2 (PW x hx)
  have dn : ∀ x, (TS.mk s.num s.low (fun x => if x ∈ P then false else s.wt x) (fun x => if x ∈ P then s.parts else s.part x) B R (s.parts + 1) s.met).done x ↔ s.done x ∨ x ∈ P := fun x => by
    simp only [TS.done]
    constructor
    · rintro ⟨h1, h2⟩
      by_cases hx : x ∈ P
      · exact .inr hx
      · exact .inl ⟨h1, fun hw => (Wor x hw).elim hx h2⟩
    · rintro (⟨h1, h2⟩ | hx)
      · exact ⟨h1, fun hb => h2 (BW x hb)⟩
      · exact ⟨T.vis x (PW x hx), PB x hx⟩
  have hA' : (TS.mk s.num s.low (fun x => if x ∈ P then false else s.wt x) (fun x => if x ∈ P then s.parts else s.part x) B R (s.parts + 1) s.met).A = R.map Prod.fst := rfl
  have sub : ∀ w ∈ R.map Prod.fst, w ∈ s.A := fun w hw => by rw [hA]; exact List.mem_cons_of_mem _ hw
  have BA : ∀ w ∈ B, w ∉ R.map Prod.fst → w ∉ s.A := fun w hw hn hm => by
    rw [hA] at hm
    rcases List.mem_cons.1 hm with rfl | hm
    · have := gB w hw; omega
    · exact hn hm
  refine ⟨fun x => ?_, w3, fun x hx => T.vis x (BW x hx), T.inj, T.met, T.dom, fun w hw => ?_, ?_, (hS ▸ T.ch : Chn G ((a, k) :: R)).tail, fun w hw c hc => T.p4 w (BW w hw) c (sub c hc), fun w hw => ?_, fun w hw hn => T.p6 w (BW w hw) (BA w hw hn), fun w hw hn u hu => ?_, fun p R' e => ?_, fun p R' e q hq => ?_, fun w hw hn => ?_, fun x hx u hu => ?_, fun x hx => ?_, fun x y hx hy => ?_, fun p hp => ?_⟩
  · show (if x ∈ P then false else s.wt x) = true ↔ x ∈ B
    by_cases hx : x ∈ P
    · simp [hx, PB x hx]
    · rw [if_neg hx, T.wtW x]
      exact ⟨fun hw => (Wor x hw).resolve_left hx, BW x⟩
  · have h1 := T.SW w (sub w hw)
    refine (Wor w h1).resolve_left fun hp => ?_
    have := gP w hp; have := hR w hw; omega
  · have := T.Sn
    rw [hA, List.pairwise_cons] at this
    exact this.2
  · obtain ⟨h1, u, h2, h3, h4⟩ := T.p5 w (BW w hw)
    refine ⟨h1, u, (Wor u h2).resolve_left fun hp => ?_, h3, h4⟩
    have := gP u hp; have := gB w hw; omega
  · obtain ⟨h3, h4⟩ := T.p7 w (BW w hw) (BA w hw hn) u hu
    exact ⟨h3, fun hm => h4 (BW u hm)⟩
  · have e' : R = p :: R' := e
    subst e'
    obtain ⟨b, j⟩ := p
    obtain ⟨k', hj, hkb⟩ : ∃ k', j = k' + 1 ∧ (G b)[k']? = some a := by have := T.ch; rw [hS] at this; exact this.1
    intro i u hi' hu
    by_cases hik : i < j - 1
    · obtain ⟨h3, h4⟩ := T.p7r _ _ hS (b, j) (by simp) i u hik hu
      exact ⟨h3, fun hm => h4 (BW u hm)⟩
    · have : i = k' := by simp at hi'; omega
      subst this
      simp only at hu
      rw [hkb] at hu; injection hu with hu; subst hu
      exact ⟨T.vis a aW, fun hb => absurd hb (PB a aP)⟩
  · have e' : R = p :: R' := e
    subst e'
    intro i u hi' hu
    obtain ⟨h3, h4⟩ := T.p7r _ _ hS q (by simp [hq]) i u hi' hu
    exact ⟨h3, fun hm => h4 (BW u hm)⟩
  · obtain ⟨c, hc, q1, q2, q3⟩ := T.p8 w (BW w hw) (BA w hw hn)
    rw [hA] at hc
    rcases List.mem_cons.1 hc with rfl | hc
    · have := gB w hw; omega
    · exact ⟨c, hc, q1, q2, fun d hd hle => q3 d (sub d hd) hle⟩
  · show _ ∧ (if u ∈ P then s.parts else s.part u) ≤ (if x ∈ P then s.parts else s.part x)
    rcases (dn x).1 hx with hx | hx
    · obtain ⟨h1, h2⟩ := T.p9 x hx u hu
      refine ⟨(dn u).2 (.inl h1), ?_⟩
      rw [if_neg fun hp => doneP u hp h1, if_neg fun hp => doneP x hp hx]; exact h2
    · obtain ⟨h3, h4⟩ := cl x hx u hu
      rw [if_pos hx]
      by_cases hu' : u ∈ P
      · rw [if_pos hu']; exact ⟨(dn u).2 (.inr hu'), Nat.le_refl _⟩
      · have hd : s.done u := ⟨h3, fun hm => hu' (h4 hm)⟩
        rw [if_neg hu']; exact ⟨(dn u).2 (.inl hd), Nat.le_of_lt (T.p10 u hd)⟩
  · show (if x ∈ P then s.parts else s.part x) < s.parts + 1
    rcases (dn x).1 hx with hx | hx
    · rw [if_neg fun hp => doneP x hp hx]; have := T.p10 x hx; omega
    · rw [if_pos hx]; omega
  · show (if x ∈ P then s.parts else s.part x) = (if y ∈ P then s.parts else s.part y) ↔ _
    have cld : ∀ {x y}, s.done x → Rch G x y → s.done y := fun hd hr => Rch.closed (fun x hx u hu => (T.p9 x hx u hu).1) hr hd
    rcases (dn x).1 hx with hx | hx
    · rw [if_neg fun hp => doneP x hp hx]
      rcases (dn y).1 hy with hy | hy
      · rw [if_neg fun hp => doneP y hp hy]; exact T.p10e x y hx hy
      · rw [if_pos hy]
        have := T.p10 x hx
        exact ⟨fun e => by omega, fun hr => absurd (cld hx hr.1) (doneP y hy)⟩
    · rw [if_pos hx]
      rcases (dn y).1 hy with hy | hy
      · rw [if_neg fun hp => doneP y hp hy]
        have := T.p10 y hy
        exact ⟨fun e => by omega, fun hr => absurd (cld hy hr.2) (doneP x hx)⟩
      · rw [if_pos hy]
        exact ⟨fun _ => ⟨(bk x hx).trans (fw y hy), (bk y hy).trans (fw x hx)⟩, fun _ => rfl⟩
  · show ∃ x, _ ∧ (if x ∈ P then s.parts else s.part x) = p
    by_cases hpp : p = s.parts
    · exact ⟨a, (dn a).2 (.inr aP), by rw [if_pos aP, hpp]⟩
    · have hp' : p < s.parts + 1 := hp
      obtain ⟨x, h1, h2⟩ := T.p10i p (by omega)
      exact ⟨x, (dn x).2 (.inl h1), by rw [if_neg fun hp => doneP x hp h1]; exact h2⟩
theorem TInv.empty (T : TInv G n s) (hS : s.S = []) : s.W = [] := by
  cases hW : s.W with
  | nil => rfl
  | cons w W =>
    obtain ⟨b, hb, _⟩ := T.p8 w (by simp [hW]) (by simp [TS.A, hS])
    simp [TS.A, hS] at hb
end
def cnt0 (n : Nat) (f : Nat → Nat) : Nat := (List.range n).countP fun x => f x == 0
theorem cnt0_upd (f : Nat → Nat) {a v : Nat} (hv : v ≠ 0) (hf : f a = 0) : ∀ n, a < n → cnt0 n (upd f a v) + 1 = cnt0 n f
  | 0, h => absurd h (Nat.not_lt_zero _)
  | n + 1, h => by
    simp only [cnt0, List.range_succ, List.countP_append, List.countP_singleton]
    by_cases e : a = n
    · subst e
      have h1 : ∀ m, m ≤ a → (List.range m).countP (fun x => upd f a v x == 0) = (List.range m).countP (fun x => f x == 0) := fun m hm => by
        refine List.countP_congr fun x hx => ?_
        have : x < m := by simpa using hx
        rw [upd_ne _ _ (by omega)]
      rw [h1 a (Nat.le_refl _)]
      simp [hf, hv]
    · have := cnt0_upd f hv hf n (by omega)
      simp only [cnt0] at this
      rw [upd_ne _ _ (Ne.symm e)]
      omega
theorem dec_len {α : Type} {f : α → Nat} : ∀ {l : List α}, l.Pairwise (fun a b => f b < f a) → (∀ x ∈ l, f x ≠ 0) → ∀ m, (∀ x ∈ l, f x ≤ m) → l.length ≤ m
  | [], _, _, m, _ => Nat.zero_le _
  | a :: l, h, hz, m, hm => by
    have h' := List.pairwise_cons.1 h
    have := dec_len h'.2 (fun x hx => hz x (by simp [hx])) (f a - 1) (fun x hx => by have := h'.1 x hx; omega)
    have h1 := hm a (by simp)
    have h2 := hz a (by simp)
    simp; omega
end Go.Proofs.YtggjaoibcfgofaaGreatDoor
