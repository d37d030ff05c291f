/- Part 25 of the proof of the laws of the queries: OrdM, QNum, QLL. -/
import Derived.Test.YtggjaoibcfgofaaGreatDoorW19
import Derived.Test.YtggjaoibcfgofaaGreatDoorW20
import Derived.Test.YtggjaoibcfgofaaGreatDoorW23
import Derived.Test.YtggjaoibcfgofaaGreatDoorW24
namespace Go.Proofs.YtggjaoibcfgofaaGreatDoor
set_option linter.unusedSimpArgs false
set_option linter.unusedVariables false
def adj (l : List (Nat × Nat)) (a : Nat) : List Nat := (l.filter fun e => e.1 == a).map (·.2)
theorem mem_adj {l : List (Nat × Nat)} {a b : Nat} : b ∈ adj l a ↔ (a, b) ∈ l := by
  simp only [adj, List.mem_map, List.mem_filter, beq_iff_eq]
  constructor
  · rintro ⟨⟨x, y⟩, ⟨h1, h2⟩, h3⟩; simp at h2 h3; subst h2 h3; exact h1
  · intro h; exact ⟨(a, b), ⟨h, rfl⟩, rfl⟩
def edgB (l : List (Nat × Nat)) (a b : Nat) : Bool := l.any fun e => e.1 == a && e.2 == b
theorem edgB_iff {l : List (Nat × Nat)} {a b : Nat} : edgB l a b = true ↔ b ∈ adj l a := by
  rw [mem_adj]
  simp only [edgB, List.any_eq_true, Bool.and_eq_true, beq_iff_eq]
  constructor
  · rintro ⟨⟨x, y⟩, h1, h2, h3⟩; simp at h2 h3; subst h2 h3; exact h1
  · intro h; exact ⟨(a, b), h, rfl, rfl⟩
def warS (l : List (Nat × Nat)) : Nat → Nat → Nat → Bool
  | 0 => fun a b => a == b || edgB l a b
  | k + 1 => fun a b => warS l k a b || (warS l k a k && warS l k k b)
theorem warS_sound (l : List (Nat × Nat)) : ∀ k a b, warS l k a b = true → Rch (adj l) a b
  | 0, a, b, h => by
    simp only [warS, Bool.or_eq_true, beq_iff_eq] at h
    rcases h with rfl | h
    · exact .refl _
    · exact .one (edgB_iff.1 h)
  | k + 1, a, b, h => by
    simp only [warS, Bool.or_eq_true, Bool.and_eq_true] at h
    rcases h with h | ⟨h1, h2⟩
    · exact warS_sound l k a b h
    · exact (warS_sound l k a k h1).trans (warS_sound l k k b h2)
theorem warS_refl (l : List (Nat × Nat)) : ∀ k a, warS l k a a = true
  | 0, a => by simp [warS]
  | k + 1, a => by simp [warS, warS_refl l k a]
theorem warS_edge (l : List (Nat × Nat)) {a b : Nat} (h : b ∈ adj l a) : ∀ k, warS l k a b = true
  | 0 => by simp [warS, edgB_iff.2 h]
  | k + 1 => by simp [warS, warS_edge l h k]
theorem warS_thru (l : List (Nat × Nat)) : ∀ k c a b, c < k → warS l k a c = true → warS l k c b = true → warS l k a b = true
  | k + 1, c, a, b, hc, h1, h2 => by
    have Q := warS_thru l k
    have kk := warS_refl l k k
    simp only [warS, Bool.or_eq_true, Bool.and_eq_true] at h1 h2 ⊢
    by_cases e : c = k
    · subst e
      have h1' : warS l c a c = true := h1.elim id fun h => h.1
      have h2' : warS l c c b = true := h2.elim id fun h => h.2
      exact .inr ⟨h1', h2'⟩
    · have hc' : c < k := by omega
      rcases h1 with h1 | ⟨h1, h3⟩ <;> rcases h2 with h2 | ⟨h2, h4⟩
      · exact .inl (Q c a b hc' h1 h2)
      · exact .inr ⟨Q c a k hc' h1 h2, h4⟩
      · exact .inr ⟨h1, Q c k b hc' h3 h2⟩
      · exact .inr ⟨h1, h4⟩
theorem warS_iff (l : List (Nat × Nat)) {n : Nat} (hl : ∀ e ∈ l, e.1 < n ∧ e.2 < n) {a b : Nat} : warS l n a b = true ↔ Rch (adj l) a b := by
  refine ⟨warS_sound l n a b, fun h => ?_⟩
  induction h with
  | refl => exact warS_refl l n _
  | @tail b c _ e ih =>
    exact warS_thru l n b a c (hl _ (mem_adj.1 e)).1 ih (warS_edge l e n)
def freeB (n : Nat) (M : Nat → Nat → Bool) (D : Nat → Bool) (i : Nat) : Bool := (List.range n).all fun j => !(M i j && !M j i && !D j)
def pickS (n : Nat) (M : Nat → Nat → Bool) (D : Nat → Bool) : Option Nat := (List.range n).find? fun i => !D i && freeB n M D i
def classS (n : Nat) (M : Nat → Nat → Bool) (i : Nat) : List Nat := (List.range n).filter fun j => M i j && M j i
def inB' (out : List (List Nat)) (j : Nat) : Bool := out.any fun p => p.contains j
def roundS (n : Nat) (M : Nat → Nat → Bool) (out : List (List Nat)) : List (List Nat) := match pickS n M (inB' out) with
  | some i => out ++ [classS n M i]
  | none => out
def rndS (n : Nat) (M : Nat → Nat → Bool) : Nat → List (List Nat)
  | 0 => []
  | k + 1 => roundS n M (rndS n M k)
def partsS (n : Nat) (M : Nat → Nat → Bool) : List (List Nat) := rndS n M n
theorem inB'_iff {out : List (List Nat)} {j : Nat} : inB' out j = true ↔ ∃ p ∈ out, j ∈ p := by simp [inB']
theorem mem_class {n : Nat} {M : Nat → Nat → Bool} {i j : Nat} : j ∈ classS n M i ↔ j < n ∧ M i j = true ∧ M j i = true := by simp [classS]
theorem freeB_iff {n : Nat} {M : Nat → Nat → Bool} {D : Nat → Bool} {i : Nat} : freeB n M D i = true ↔ ∀ j, j < n → M i j = true → M j i = false → D j = true := by
  simp only [freeB, List.all_eq_true, List.mem_range]
  refine forall_congr' fun j => forall_congr' fun _ => ?_
  cases M i j <;> cases M j i <;> cases D j <;> simp
structure Fin0 (G : Nat → List Nat) (n P : Nat) (part : Nat → Nat) : Prop where
  gn : ∀ x, x < n → ∀ y ∈ G x, y < n
  lt : ∀ x, x < n → part x < P
  inh : ∀ p, p < P → ∃ x, x < n ∧ part x = p
  eq : ∀ x y, x < n → y < n → (part x = part y ↔ Rch G x y ∧ Rch G y x)
  top : ∀ x, x < n → ∀ y ∈ G x, part y ≤ part x
theorem TInv.fin {G : Nat → List Nat} {n : Nat} {s : TS} (T : TInv G n s) (hS : s.S = []) (ha : ∀ x, x < n → s.num x ≠ 0) (hG : ∀ x, x < n → ∀ y ∈ G x, y < n) : Fin0 G n s.parts s.part := by
  have dn : ∀ x, x < n → s.done x := fun x hx => ⟨ha x hx, by rw [T.empty hS]; simp⟩
  exact ⟨hG, fun x hx => T.p10 x (dn x hx), fun p hp => let ⟨x, h1, h2⟩ := T.p10i p hp; ⟨x, T.dom x h1.1, h2⟩, fun x y hx hy => T.p10e x y (dn x hx) (dn y hy), fun x hx y hy => (T.p9 x (dn x hx) y hy).2⟩
def memP (n : Nat) (part : Nat → Nat) (p : Nat) : List Nat := (List.range n).filter fun x => part x == p
theorem mem_memP {n : Nat} {part : Nat → Nat} {p x : Nat} : x ∈ memP n part p ↔ x < n ∧ part x = p := by simp [memP]
def Led (G : Nat → List Nat) (n : Nat) (part : Nat → Nat) (p q : Nat) : Prop := p ≠ q ∧ ∃ x, x < n ∧ ∃ y ∈ G x, part x = p ∧ part y = q
theorem memP_first {n : Nat} {part : Nat → Nat} {p a : Nat} {r : List Nat} (h : memP n part p = a :: r) : ∀ x, x < n → part x = p → a ≤ x := fun x hx hp => by
  have hm : x ∈ memP n part p := mem_memP.2 ⟨hx, hp⟩
  have hs : (memP n part p).Pairwise (· < ·) := List.Pairwise.filter _ List.pairwise_lt_range
  rw [h] at hm hs
  rcases List.mem_cons.1 hm with rfl | hm
  · exact Nat.le_refl _
  · exact Nat.le_of_lt ((List.pairwise_cons.1 hs).1 x hm)
theorem Fin0.mem_ne {G : Nat → List Nat} {n P : Nat} {part : Nat → Nat} (F : Fin0 G n P part) {p : Nat} (hp : p < P) : ∃ a r, memP n part p = a :: r ∧ a < n ∧ part a = p := by
  obtain ⟨x, h1, h2⟩ := F.inh p hp
  have hm : x ∈ memP n part p := mem_memP.2 ⟨h1, h2⟩
  cases h : memP n part p with
  | nil => rw [h] at hm; cases hm
  | cons a r =>
    have := mem_memP.1 (show a ∈ memP n part p by rw [h]; simp)
    exact ⟨a, r, rfl, this.1, this.2⟩
theorem Fin0.round {G : Nat → List Nat} {n P : Nat} {part : Nat → Nat} (F : Fin0 G n P part) {M : Nat → Nat → Bool} (hM : ∀ a b, M a b = true ↔ Rch G a b) {out : List (List Nat)} {st : Nat → Prop}
    (ho : ∀ x, x < n → ((∃ p ∈ out, x ∈ p) ↔ st (part x))) (hst : ∀ p q, st p → Led G n part p q → st q) {best a : Nat} {r : List Nat} (hb : best < P) (hba : memP n part best = a :: r) (hbs : ¬ st best)
    (hbl : ∀ q, Led G n part best q → st q) (hmin : ∀ p, p < P → ¬ st p → (∀ q, Led G n part p q → st q) → ∀ b s, memP n part p = b :: s → a ≤ b) : roundS n M out = out ++ [memP n part best] := by
  have ha := mem_memP.1 (show a ∈ memP n part best by rw [hba]; simp)
  have hMf : ∀ {a b}, M a b = false ↔ ¬ Rch G a b := fun {a b} => by rw [← hM]; simp
  have hcl : classS n M a = memP n part best := by
    unfold classS memP
    refine List.filter_congr fun x hx => ?_
    have hx' : x < n := by simpa using hx
    rw [Bool.eq_iff_iff, Bool.and_eq_true, hM, hM, beq_iff_eq, ← F.eq a x ha.1 hx', ha.2]
    exact eq_comm
  have hpick : pickS n M (inB' out) = some a := by
    unfold pickS
    rw [List.find?_range_eq_some]
    refine ⟨?_, by simpa using ha.1, fun i hi => ?_⟩
    · rw [Bool.and_eq_true]
      constructor
      · have : inB' out a ≠ true := fun h => hbs (by have := (ho a ha.1).1 (inB'_iff.1 h); rwa [ha.2] at this)
        simpa using this
      · rw [freeB_iff]
        intro j hj h1 h2
        rw [inB'_iff]
        have hD : ∀ x, (x < n ∧ (part x = best ∨ st (part x))) → ∀ u ∈ G x, u < n ∧ (part u = best ∨ st (part u)) := fun x hx u hu => by
          refine ⟨F.gn x hx.1 u hu, ?_⟩
          rcases hx.2 with h | h
          · by_cases e : part u = best
            · exact .inl e
            · exact .inr (hbl _ ⟨fun h => e h.symm, x, hx.1, u, hu, h, rfl⟩)
          · by_cases e : part u = part x
            · exact .inr (e ▸ h)
            · exact .inr (hst _ _ h ⟨fun h => e h.symm, x, hx.1, u, hu, rfl, rfl⟩)
        have := Rch.closed hD ((hM _ _).1 h1) ⟨ha.1, .inl ha.2⟩
        rcases this.2 with h | h
        · exfalso
          have := (F.eq j a hj ha.1).1 (h.trans ha.2.symm)
          exact hMf.1 h2 this.1
        · exact (ho j hj).2 h
    · have hin : i < n := by omega
      cases hd : inB' out i with
      | true => rfl
      | false =>
        simp only [Bool.not_false, Bool.true_and]
        cases hf : freeB n M (inB' out) i with
        | false => rfl
        | true =>
          exfalso
          rw [freeB_iff] at hf
          have hns : ¬ st (part i) := fun h => by
            have := inB'_iff.2 ((ho i hin).2 h)
            rw [hd] at this; cases this
          obtain ⟨b, s, e1, e2, e3⟩ := F.mem_ne (F.lt i hin)
          have h1 := hmin _ (F.lt i hin) hns (fun q ⟨hne, x, hx, y, hy, q1, q2⟩ => ?_) b s e1
          · have := memP_first e1 i hin rfl; omega
          · have hix := (F.eq i x hin hx).1 q1.symm
            have hyn := F.gn x hx y hy
            have hiy : Rch G i y := hix.1.tail hy
            have hyi : ¬ Rch G y i := fun h => hne (by rw [← q2]; exact (F.eq i y hin hyn).2 ⟨hiy, h⟩)
            rw [← q2]
            exact (ho y hyn).1 (inB'_iff.1 (hf y hyn ((hM _ _).2 hiy) (hMf.2 hyi)))
  rw [roundS, hpick]
  simp only [hcl]
theorem roundS_full {n : Nat} {M : Nat → Nat → Bool} {out : List (List Nat)} (h : ∀ x, x < n → ∃ p ∈ out, x ∈ p) : roundS n M out = out := by
  have : pickS n M (inB' out) = none := by
    unfold pickS
    rw [List.find?_eq_none]
    intro x hx
    have := inB'_iff.2 (h x (by simpa using hx))
    simp [this]
  rw [roundS, this]
theorem rndS_full {n : Nat} {M : Nat → Nat → Bool} {k : Nat} (h : ∀ x, x < n → ∃ p ∈ rndS n M k, x ∈ p) : ∀ m, rndS n M (k + m) = rndS n M k
  | 0 => rfl
  | m + 1 => by
    show roundS n M (rndS n M (k + m)) = _
    rw [rndS_full h m, roundS_full h]
def cntB (n : Nat) (f : Nat → Bool) : Nat := (List.range n).countP f
theorem cntB_le (n : Nat) (f : Nat → Bool) : cntB n f ≤ n := by
  have := List.countP_le_length (p := f) (l := List.range n)
  simpa [cntB] using this
theorem cntB_congr {n : Nat} {f g : Nat → Bool} (h : ∀ x, x < n → f x = g x) : cntB n f = cntB n g := List.countP_congr fun x hx => by rw [h x (by simpa using hx)]
theorem cntB_set {f g : Nat → Bool} {a : Nat} (hf : f a = false) (hg : g a = true) (h : ∀ x, x ≠ a → g x = f x) : ∀ n, a < n → cntB n g = cntB n f + 1
  | 0, h => absurd h (Nat.not_lt_zero _)
  | n + 1, hn => by
    simp only [cntB, List.range_succ, List.countP_append, List.countP_singleton]
    by_cases e : a = n
    · subst e
      have h1 : cntB a g = cntB a f := cntB_congr fun x hx => h x (by omega)
      simp only [cntB] at h1
      rw [h1, hf, hg]; simp
    · have := cntB_set hf hg h n (by omega)
      simp only [cntB] at this
      rw [h n (Ne.symm e)]; omega
theorem cntB_zero {n : Nat} {f : Nat → Bool} : cntB n f = 0 ↔ ∀ x, x < n → f x = false := by
  simp only [cntB, List.countP_eq_zero, List.mem_range, Bool.not_eq_true]
theorem cntB_full {n : Nat} {f : Nat → Bool} (h : cntB n f = n) : ∀ x, x < n → f x = true := by
  have := (List.countP_eq_length (p := f) (l := List.range n)).1 (by simpa [cntB] using h)
  intro x hx; exact this x (by simpa using hx)
theorem nodup_len : ∀ (n : Nat) (l : List Nat), l.Nodup → (∀ x ∈ l, x < n) → l.length ≤ n
  | 0, [], _, _ => Nat.le_refl _
  | 0, a :: _, _, h => absurd (h a (by simp)) (Nat.not_lt_zero _)
  | n + 1, l, hd, h => by
    have h1 := nodup_len n (l.filter fun x => x != n) (hd.filter _) (fun x hx => by
      obtain ⟨h1, h2⟩ := List.mem_filter.1 hx
      have := h x h1
      simp at h2; omega)
    have h2 := List.nodup_iff_count.1 hd n
    have h3 := List.length_eq_countP_add_countP (l := l) (fun x => x == n)
    rw [← List.countP_eq_length_filter] at h1
    have h4 : List.countP (fun x => decide ¬(x == n) = true) l = List.countP (fun x => x != n) l := List.countP_congr fun x _ => by simp
    have h5 : List.countP (fun x => x == n) l = l.count n := rfl
    omega
theorem Fin0.le {G : Nat → List Nat} {n P : Nat} {part : Nat → Nat} (F : Fin0 G n P part) : P ≤ n := by
  have h1 : ((List.range P).map fun p => (memP n part p).headD 0).Nodup := by
    rw [List.nodup_iff_pairwise_ne, List.pairwise_map]
    refine (List.pairwise_lt_range (n := P)).imp_of_mem fun {p q} hp hq hlt e => ?_
    obtain ⟨a, r, e1, e2, e3⟩ := F.mem_ne (show p < P by simpa using hp)
    obtain ⟨b, s, f1, f2, f3⟩ := F.mem_ne (show q < P by simpa using hq)
    rw [e1, f1] at e
    simp only [List.headD_cons] at e
    rw [e, f3] at e3; omega
  have h2 : ∀ x ∈ ((List.range P).map fun p => (memP n part p).headD 0), x < n := fun x hx => by
    obtain ⟨p, hp, rfl⟩ := List.mem_map.1 hx
    obtain ⟨a, r, e1, e2, e3⟩ := F.mem_ne (show p < P by simpa using hp)
    rw [e1]; exact e2
  have := nodup_len n _ h1 h2
  simpa using this
end Go.Proofs.YtggjaoibcfgofaaGreatDoor
namespace Go.Proofs.YtggjaoibcfgofaaGreatDoor
open Am C
set_option linter.unusedSimpArgs false
set_option linter.unusedVariables false
section
open Go Go.RowKit
theorem Am.flat_inv {α : Type} {sz : Nat} : ∀ {es : List (List α)}, (∀ e ∈ es, e.length = sz) → ∀ {k : Nat} {v : α}, es.flatten[k]? = some v → ∃ i j e, es[i]? = some e ∧ e[j]? = some v ∧ k = i * sz + j
  | [], _, k, v, h => by simp at h
  | e :: es, hs, k, v, h => by
    have h0 := hs e (by simp)
    simp only [List.flatten_cons] at h
    by_cases hk : k < e.length
    · rw [List.getElem?_append_left hk] at h
      exact ⟨0, k, e, rfl, h, by omega⟩
    · rw [List.getElem?_append_right (by omega)] at h
      obtain ⟨i, j, e', h1, h2, h3⟩ := Am.flat_inv (fun x hx => hs x (by simp [hx])) h
      exact ⟨i + 1, j, e', by simpa using h1, h2, by rw [Nat.succ_mul]; omega⟩
theorem Am.AC.rowA {P : Program} {f : FuncId} {args : List V} {H : Hp} {es : List (List V)} {T sz : Nat} (hok : okFn P f = true) (hsz : 0 < sz) (hes : ∀ e ∈ es, e.length = sz)
    (h : ∀ (κ : K) (cs : List Value), Sim κ H → VRs κ args cs → ∃ cv : Nat → Nat → Value, (∀ (κ' : K) (i j : Nat) e v, es[i]? = some e → e[j]? = some v → VR κ' v (cv i j)) ∧
      Calls P f cs.toArray κ.w (fun e w' => ∃ v' xs, e = .returned v' ∧ w'.ownsRow κ.w.heap.size T sz v' es.length xs ∧ (∀ (i j : Nat) e v, es[i]? = some e → e[j]? = some v → xs[i * sz + j]? = some (cv i j)) ∧ RowKit.Below κ.w.heap.size κ.w w')) :
    AC P f args H (fun r H' => Acc H sz r H' es) := by
  refine ⟨hok, fun κ cs S r => ?_⟩
  obtain ⟨cv, hv, hc⟩ := h κ cs S r
  refine hc.mono fun e w' ⟨v', xs, he, ho, hx, hb⟩ => ?_
  obtain ⟨hlen, ⟨rfl, h0⟩ | ⟨g, cap, cur, rfl, hg, hgb, hcap, hmax, hcur, htake⟩⟩ := ho
  · have hnil : es = [] := List.length_eq_zero_iff.1 h0
    subst hnil
    exact ⟨{ κ with w := w' }, .sl none 0 0, .slice none 0 0, H, he, rfl, K.below_le S hb, S.below hb, .sl0 0 none, Acc.nil sz 0 (.refl _) S.lt⟩
  · have S' := S.below hb
    have le := K.below_le S hb
    have hfl := flat_len hes
    have hle : es.flatten.length ≤ cap * sz := by rw [hfl]; exact Nat.mul_le_mul_right _ hcap
    obtain ⟨κ', e1, le2, S3, e2, e3⟩ := Sim.adopt S' (b := g) (o := 0) (ds := es.flatten) hgb (by omega) (fun k v hk => by
      obtain ⟨i, j, e, h1, h2, rfl⟩ := flat_inv hes hk
      have h3 := hx i j e v h1 h2
      rw [← htake, List.getElem?_take] at h3
      split at h3
      · rw [Array.getD_eq_getD_getElem?, Nat.zero_add, ← Array.getElem?_toList, h3]
        exact hv _ i j e v h1 h2
      · cases h3) (.inl (Nat.le_refl _)) (fun hf => by have := S.fz _ hf; omega) (fun k cs m e hg' h1 h2 hp => by
        obtain ⟨⟨a0, t1, f1, q1, _⟩, _⟩ := S.cells k cs m hg' e h1 h2
        have := lt_of_some q1
        have hp' : (κ.pl k e).1 = g := hp
        omega)
    refine ⟨κ', .sl (some (H.next, 0, es.flatten.length)) es.length sz, _, _, he, e1, le.trans le2, S3, ?_, .add S.lt _, Hp.add_lt S.lt _, hes, .inr ⟨H.next, es.flatten.length, Nat.le_refl _, rfl, by simp, Nat.le_refl _⟩⟩
    refine .sl H.next 0 es.flatten.length es.length sz cap (cap * sz) _ e3 hsz ⟨hcap, hmax⟩ (by omega) (by omega) ?_ (by rw [e2]; simp) (fun _ => by rw [e2])
    rw [e2, e1]
    simp only [nCells, hgb, hcur]
theorem Am.AC.args {P : Program} {f : FuncId} {args args' : List V} {H : Hp} {R : V → Hp → Prop} (h : AC P f args' H R) (hv : ∀ κ cs, VRs κ args cs → VRs κ args' cs) : AC P f args H R :=
  ⟨h.1, fun κ cs S r => h.2 κ cs S (hv κ cs r)⟩
theorem Am.VR.nil_fs {κ : K} {z : Nat} {c : Value} (h : VR κ (.sl none 0 z) c) : VR κ (.fs []) c := by
  cases h with
  | sl0 _ a => exact .fs (κ := κ) [] 0 0 0 0 a (fun _ _ => undef) (Nat.le_refl _) (fun e h => by simp at h) (fun _ => rfl) (fun h => absurd rfl h) (fun i j e v h => by simp at h) (fun i j e v h => by simp at h)
theorem Am.Frz.tup2 {H : Hp} {S : Nat → Prop} {a b a' b' : V} (h1 : Frz H S a a') (h2 : Frz H S b b') : Frz H S (.tup [a, b]) (.tup [a', b']) :=
  .tup _ _ rfl fun j u v hu hv => by
    match j with
    | 0 => simp at hu hv; subst hu hv; exact h1
    | 1 => simp at hu hv; subst hu hv; exact h2
    | j + 2 => simp at hu
end
theorem CloneS_acc (l : List Str) (hl : l.length ≤ 8000000000000) (H : Hp) : AC Tryz.prog n_slices_Clone_string_string [ss l] H (fun v H' => Acc H 1 v H' (sc l)) := by
  refine AC.rowA (T := 9) (by kernel_rfl) (by omega) (fun e he => by obtain ⟨x, _, rfl⟩ := List.mem_map.1 he; rfl) fun κ cs S r => ?_
  obtain ⟨c, rfl, rc⟩ := r.one'
  refine ⟨fun i _ => .string ⟨((l[i]?).getD []).toArray⟩, fun κ' i j e v he hv => ?_, ?_⟩
  · simp only [sc, List.getElem?_map, Option.map_eq_some_iff] at he
    obtain ⟨x, hx, rfl⟩ := he
    cases j with
    | zero => simp at hv; subst hv; simp only [hx, Option.getD_some]; exact .s x
    | succ j => simp at hv
  obtain ⟨a, cap, rfl, h0, h1⟩ := vr_fs1 rc
  have hfin : ∀ (xs : List Go.Value), xs = l.map (fun x => Go.Value.string ⟨x.toArray⟩) → ∀ (i j : Nat) e v, (sc l)[i]? = some e → e[j]? = some v → xs[i * 1 + j]? = some (.string ⟨((l[i]?).getD []).toArray⟩) := by
    rintro _ rfl i j e v he hv
    simp only [sc, List.getElem?_map, Option.map_eq_some_iff] at he
    obtain ⟨x, hx, rfl⟩ := he
    cases j with
    | zero => simp [hx]
    | succ j => simp at hv
  by_cases hn : l = []
  · subst hn
    cases a with
    | none => exact (Tryz.slices_Clone_string_nil 0 cap κ.w).mono fun e w' ⟨he, hw⟩ => ⟨_, [], he, by rw [hw]; exact Go.World.ownsRow_nil _ _ _ _, fun i j e v he => by simp [sc] at he, by rw [hw]; exact .refl _ _⟩
    | some a => exact (Tryz.slices_Clone_string_zero a cap κ.w).mono fun e w' ⟨v', he, ho, _, hb⟩ => ⟨v', [], he, ho, fun i j e v he => by simp [sc] at he, hb⟩
  · obtain ⟨b, o, rfl, hc⟩ := h1 hn
    refine (Tryz.slices_Clone_string b o l.length cap (l.map fun x => ⟨x.toArray⟩) κ.w (by simp) (by omega) fun j hj => ?_).mono fun e w' ⟨v', he, ho, _, hb⟩ => ⟨v', _, he, by simpa [sc] using ho, hfin _ ?_, hb⟩
    · simp at hj
      obtain ⟨c, h1, h2⟩ := hc j _ (List.getElem?_eq_getElem hj)
      rw [h1, vr_s h2]
      simp [List.getD_eq_getElem?_getD, hj]
    · rfl
theorem Less_ok (x y : Str) (H : Hp) : AC Tryz.prog n_cmp_Less_string [.s x, .s y] H (fun v H' => v = .b (ltB x y) ∧ H' = H) := by
  refine AC.code cmp_Less_string.at cmp_Less_string.ok ?_
  simp only [cmp_Less_string]
  refine AX.seq (AX.reg ?_)
  simp [cmp_Less_string.r0]
  refine AX.stp [(4, .b (ltB x y))] ?_ ?_
  · simp [cmp_Less_string.r1]
    refine AC.fix (isNaN_ok _ _) ?_
    simp
  refine AX.ret ?_
  simp
theorem isNaN2_ok (x : Str) (H : Hp) : AC Tryz.prog n_slices_isNaN_string [.s x] H (fun v H' => v = .b false ∧ H' = H) := by
  refine AC.code slices_isNaN_string.at slices_isNaN_string.ok ?_
  simp only [slices_isNaN_string]
  refine AX.seq (AX.reg ?_)
  simp [slices_isNaN_string.r0]
  refine AX.seq (AX.reg ?_)
  simp [slices_isNaN_string.r1]
  refine AX.ret ?_
  simp
def BisInv (l : List Str) (x : Str) (H : Hp) (m : Nat) (F : Fr) (H' : Hp) : Prop :=
  ∃ i j, i ≤ posS l x ∧ posS l x ≤ j ∧ j ≤ l.length ∧ m = j - i ∧ H' = H ∧ F = [(0, ss l), (1, .s x), (6, .i .i64 l.length), (7, .i .i64 i), (8, .i .i64 j)]
theorem BinS_ok (l : List Str) (x : Str) (hr : Rising l) (hl : l.length ≤ 1000000000) (H : Hp) : AC Tryz.prog n_slices_BinarySearch_string_string [ss l, .s x] H (fun v H' => v = .tup [.i .i64 (posS l x : Nat), .b (decide (x ∈ l))] ∧ H' = H) := by
  refine AC.code slices_BinarySearch_string_string.at slices_BinarySearch_string_string.ok ?_
  simp only [slices_BinarySearch_string_string]
  have hp := posS_le l x
  refine AX.seq (AX.reg ?_)
  simp [slices_BinarySearch_string_string.r0]
  refine AX.seq (AX.reg ?_)
  simp [slices_BinarySearch_string_string.r1, ss]
  refine AX.seq (AX.reg ?_)
  simp [slices_BinarySearch_string_string.r2]
  refine AX.seq (AX.pblock (AX.loop (BisInv l x H) l.length ⟨_, _, .refl _ _, 0, l.length, by omega, hp, by omega, by omega, rfl, rfl⟩ ?_))
  rintro m' F H' ⟨i, j, hi, hj, hjl, rfl, rfl, rfl⟩
  simp only [slices_BinarySearch_string_string.l0]
  refine AX.seq (AX.seq (AX.reg ?_))
  simp [slices_BinarySearch_string_string.r3]
  refine AX.pcond rfl (fun hb => AX.skip ?_) (fun hb => AX.exit ?_)
  · simp at hb
    simp
    refine AX.pblock (AX.seq (AX.reg ?_))
    obtain ⟨e, he⟩ : ∃ e, e = (i + j) / 2 := ⟨_, rfl⟩
    have hh := half i j (by omega)
    rw [← he] at hh
    simp [slices_BinarySearch_string_string.r4, hh]
    have hel : e < l.length := by omega
    have hlt := posS_lt hr x e l[e] (List.getElem?_eq_getElem hel)
    refine AX.seq (AX.reg ?_)
    simp [slices_BinarySearch_string_string.r5, hel, ss]
    refine AC.fix (Less_ok _ _ _) ?_
    simp
    by_cases hlt' : e < posS l x
    · rw [decide_eq_true hlt'] at hlt
      refine AX.pcond (t := true) (by simp [hlt]) (fun h => AX.reg ?_) (fun h => by simp at h)
      simp [slices_BinarySearch_string_string.r6, i64_succ (show e ≤ 9223372036854775000 by omega)]
      exact ⟨j - (e + 1), by omega, _, _, .refl _ _, e + 1, j, by omega, hj, hjl, rfl, rfl, by simp [ss]⟩
    · rw [decide_eq_false hlt'] at hlt
      refine AX.pcond (t := false) (by simp [hlt]) (fun h => by simp at h) (fun h => AX.reg ?_)
      simp [slices_BinarySearch_string_string.r7]
      exact ⟨e - i, by omega, _, _, .refl _ _, i, e, hi, by omega, by omega, rfl, rfl, by simp [ss]⟩
  simp at hb
  have e1 : i = posS l x := by omega
  subst e1
  have hm := posS_mem hr x
  simp
  refine AX.stp [(4, .i .i64 (posS l x : Nat)), (5, .b (decide (x ∈ l)))] ?_ ?_
  · by_cases hlt : posS l x < l.length
    · have hg : l[posS l x]? = some l[posS l x] := List.getElem?_eq_getElem hlt
      rw [hg] at hm
      by_cases hxe : l[posS l x] = x
      · have hmm : x ∈ l := hm.2 (by rw [hxe])
        simp [slices_BinarySearch_string_string.r8, hlt, ss, hxe, hmm]
      · have hmm : x ∉ l := fun h => hxe (by simpa using hm.1 h)
        simp [slices_BinarySearch_string_string.r8, hlt, ss, hxe, hmm]
        refine AC.fix (isNaN2_ok _ _) ?_
        simp [hmm]
    · have hmm : x ∉ l := fun h => by
        have := hm.1 h
        rw [List.getElem?_eq_none (by omega)] at this; cases this
      simp [slices_BinarySearch_string_string.r8, hlt, ss, hmm]
  refine AX.ret ?_
  simp
end Go.Proofs.YtggjaoibcfgofaaGreatDoor
namespace Go.Proofs.YtggjaoibcfgofaaGreatDoor
open Am C
set_option linter.unusedSimpArgs false
set_option linter.unusedVariables false
def nI (f : Nat → Nat) (n : Nat) : List V := (List.range n).map fun i => V.i .i64 (f i : Nat)
def zI (f : Nat → Int) (n : Nat) : List V := (List.range n).map fun i => V.i .i64 (f i)
def bI (f : Nat → Bool) (n : Nat) : List V := (List.range n).map fun i => V.b (f i)
@[simp] theorem nI_len (f : Nat → Nat) (n : Nat) : (nI f n).length = n := by simp [nI]
@[simp] theorem bI_len (f : Nat → Bool) (n : Nat) : (bI f n).length = n := by simp [bI]
theorem set_rng {α : Type} (f : Nat → α) (n i : Nat) (v : α) : ((List.range n).map f).set i v = (List.range n).map (upd f i v) := by
  refine List.ext_getElem (by simp) fun k h1 h2 => ?_
  simp at h1 h2
  rw [List.getElem_set]
  simp only [List.getElem_map, List.getElem_range, upd]
  by_cases e : i = k
  · subst e; simp
  · rw [if_neg e, if_neg (Ne.symm e)]
theorem take1_rng {α : Type} (f : Nat → α) {n i : Nat} (h : i < n) : (((List.range n).map f).drop i).take 1 = [f i] := take1_at (by simp [h])
theorem nI_set (f : Nat → Nat) (n i v : Nat) : (nI f n).set i (.i .i64 (v : Nat)) = nI (upd f i v) n := by
  unfold nI; rw [set_rng]
  refine List.map_congr_left fun k _ => ?_
  simp only [upd]; split <;> rfl
theorem bI_set (f : Nat → Bool) (n i : Nat) (v : Bool) : (bI f n).set i (.b v) = bI (upd f i v) n := by
  unfold bI; rw [set_rng]
  refine List.map_congr_left fun k _ => ?_
  simp only [upd]; split <;> rfl
@[simp] theorem zI_len (f : Nat → Int) (n : Nat) : (zI f n).length = n := by simp [zI]
theorem zI_set (f : Nat → Int) (n i : Nat) (v : Int) : (zI f n).set i (.i .i64 v) = zI (upd f i v) n := by
  unfold zI; rw [set_rng]
  refine List.map_congr_left fun k _ => ?_
  simp only [upd]; split <;> rfl
theorem zI_at (f : Nat → Int) {n i : Nat} (h : i < n) : ((zI f n).drop i).take 1 = [.i .i64 (f i)] := take1_rng _ h
theorem zI_congr {f g : Nat → Int} {n : Nat} (h : ∀ i, i < n → f i = g i) : zI f n = zI g n := List.map_congr_left fun k hk => by rw [h k (by simpa using hk)]
theorem zI_zero (n : Nat) : List.replicate n (V.i .i64 0) = zI (fun _ => 0) n := by
  refine List.ext_getElem (by simp) fun k h1 h2 => ?_
  simp [zI]
theorem nI_at (f : Nat → Nat) {n i : Nat} (h : i < n) : ((nI f n).drop i).take 1 = [.i .i64 (f i : Nat)] := take1_rng _ h
theorem bI_at (f : Nat → Bool) {n i : Nat} (h : i < n) : ((bI f n).drop i).take 1 = [.b (f i)] := take1_rng _ h
theorem nI_zero (n : Nat) : List.replicate n (V.i .i64 0) = nI (fun _ => 0) n := by
  refine List.ext_getElem (by simp) fun k h1 h2 => ?_
  simp [nI]
theorem bI_false (n : Nat) : List.replicate n (V.b false) = bI (fun _ => false) n := by
  refine List.ext_getElem (by simp) fun k h1 h2 => ?_
  simp [bI]
theorem rep_rng (n : Nat) (v : V) : List.replicate n v = (List.range n).map fun _ => v := by
  refine List.ext_getElem (by simp) fun k h1 h2 => ?_
  simp
structure LL (H X : Hp) (id n : Nat) (f : Nat → List V) (K : Nat → Prop) : Prop where
  ext : H.Ext X
  lt : ∀ k blk, X.get k = some blk → k < X.next
  idH : H.next ≤ id
  idX : id < X.next
  K1 : ∀ k, K k → k < X.next ∧ k ≠ id
  ex : ∃ (vs : Nat → V) (a : Nat → Nat) (m : Nat), m ≤ n ∧ X.get id = some (.cells ((List.range n).map vs) m) ∧
    (∀ i, i < n → (f i = [] ∧ ∃ z, vs i = .sl none 0 z) ∨ (f i ≠ [] ∧ H.next ≤ a i ∧ a i ≠ id ∧ ¬ K (a i) ∧ vs i = .sl (some (a i, 0, (f i).length)) (f i).length 1 ∧ ∃ mi, mi ≤ (f i).length ∧ X.get (a i) = some (.cells (f i) mi))) ∧
    (∀ i j, i < n → j < n → f i ≠ [] → f j ≠ [] → a i = a j → i = j)
theorem LL.moreK {H X Y : Hp} {id n : Nat} {f : Nat → List V} {K K' : Nat → Prop} (L : LL H X id n f K) (h : X.Ext Y) (hl : ∀ k blk, Y.get k = some blk → k < Y.next) (hK : ∀ k, K' k → K k ∨ (X.next ≤ k ∧ k < Y.next)) : LL H Y id n f K' := by
  obtain ⟨vs, a, m, h1, h2, h3, h4⟩ := L.ex
  refine ⟨L.ext.trans h, hl, L.idH, Nat.lt_of_lt_of_le L.idX h.1, fun k hk => ?_, vs, a, m, h1, h.2 _ _ h2, fun i hi => ?_, h4⟩
  · rcases hK k hk with hk | hk
    · exact ⟨Nat.lt_of_lt_of_le (L.K1 k hk).1 h.1, (L.K1 k hk).2⟩
    · exact ⟨hk.2, by have := L.idX; omega⟩
  · rcases h3 i hi with q | ⟨q1, q2, q3, q4, q5, mi, q6, q7⟩
    · exact .inl q
    · refine .inr ⟨q1, q2, q3, fun hk => ?_, q5, mi, q6, h.2 _ _ q7⟩
      have := L.lt _ _ q7
      rcases hK _ hk with hk | hk
      · exact q4 hk
      · omega
theorem LL.wk {H X : Hp} {id n : Nat} {f : Nat → List V} {K K' : Nat → Prop} (L : LL H X id n f K) (hK : ∀ k, K' k → K k) : LL H X id n f K' := L.moreK (.refl X) L.lt fun k hk => .inl (hK k hk)
theorem LL.other {H X : Hp} {id n : Nat} {f : Nat → List V} {K : Nat → Prop} (L : LL H X id n f K) (hH : ∀ k blk, H.get k = some blk → k < H.next) {k : Nat} (hk : K k) (hkH : H.next ≤ k) (b : Blk) : LL H (X.upd k b) id n f K := by
  obtain ⟨vs, a, m, h1, h2, h3, h4⟩ := L.ex
  obtain ⟨k1, k2⟩ := L.K1 k hk
  refine ⟨L.ext.upd hH hkH b, Hp.upd_lt L.lt k1 b, L.idH, by simpa using L.idX, fun k hk => by simpa using L.K1 k hk, vs, a, m, h1, by simp [Ne.symm k2, h2], fun i hi => ?_, h4⟩
  rcases h3 i hi with q | ⟨q1, q2, q3, q4, q5, mi, q6, q7⟩
  · exact .inl q
  · exact .inr ⟨q1, q2, q3, q4, q5, mi, q6, by simp [show a i ≠ k from fun e => q4 (e ▸ hk), q7]⟩
theorem LL.app {H X : Hp} {id n : Nat} {f : Nat → List V} {K : Nat → Prop} (L : LL H X id n f K) (hH : ∀ k blk, H.get k = some blk → k < H.next) {i bytes : Nat} {t : V} (hi : i < n) (ht : isCell t = true) (hb : ((f i).length + 1) * bytes ≤ roomB) :
    ∃ vs m, m ≤ n ∧ X.get id = some (.cells ((List.range n).map vs) m) ∧ (∀ j, j < n → (f j = [] ∧ ∃ z, vs j = .sl none 0 z) ∨ ∃ k mi, k ≠ id ∧ mi ≤ (f j).length ∧ vs j = .sl (some (k, 0, (f j).length)) (f j).length 1 ∧ X.get k = some (.cells (f j) mi)) ∧
      ∃ k2 X2, sAppend X 1 bytes (vs i) (.fs [[t]]) = some (.sl (some (k2, 0, (f i).length + 1)) ((f i).length + 1) 1, X2) ∧ X2.get id = X.get id ∧ (∀ k, K k → X2.get k = X.get k) ∧
        LL H (X2.upd id (.cells (((List.range n).map vs).set i (.sl (some (k2, 0, (f i).length + 1)) ((f i).length + 1) 1)) n)) id n (upd f i (f i ++ [t])) K := by
  obtain ⟨vs, a, m, h1, h2, h3, h4⟩ := L.ex
  refine ⟨vs, m, h1, h2, fun j hj => ?_, ?_⟩
  · rcases h3 j hj with q | ⟨q1, q2, q3, q4, q5, mi, q6, q7⟩
    · exact .inl q
    · exact .inr ⟨a j, mi, q3, q6, q5, q7⟩
  rcases h3 i hi with ⟨q1, z, q2⟩ | ⟨q1, q2, q3, q4, q5, mi, q6, q7⟩
  · have hs : sAppend X 1 bytes (vs i) (.fs [[t]]) = some (.sl (some (X.next, 0, (f i).length + 1)) ((f i).length + 1) 1, X.add (.cells [t] 1)) := by
      rw [q1] at hb
      rw [q1, q2]
      simp [sAppend, slCells] at hb ⊢
      exact hb
    have hne : id ≠ X.next := by have := L.idX; omega
    have hX : X.Ext (X.add (.cells [t] 1)) := .add L.lt _
    have hl := Hp.add_lt L.lt (.cells [t] 1)
    refine ⟨_, _, hs, by simp [hne], fun k hk => by simp [show k ≠ X.next from by have := (L.K1 k hk).1; omega], (L.ext.trans hX).upd hH L.idH _, Hp.upd_lt hl (by have := L.idX; simp; omega) _, L.idH, by have := L.idX; simp; omega, fun k hk => by have := L.K1 k hk; simp; omega, upd vs i (.sl (some (X.next, 0, (f i).length + 1)) ((f i).length + 1) 1), upd a i X.next, n, Nat.le_refl _, by simp [set_rng], fun j hj => ?_, fun j k hj hk e1 e2 e3 => ?_⟩
    · by_cases e : j = i
      · subst e
        right
        simp only [upd_same, q1, List.nil_append, List.length_singleton]
        refine ⟨by simp, L.ext.1, Ne.symm hne, fun hk => by have := (L.K1 _ hk).1; omega, rfl, 1, Nat.le_refl _, by simp [Ne.symm hne]⟩
      · simp only [upd_ne _ _ e]
        rcases h3 j hj with q | ⟨r1, r2, r3, r4, r5, mj, r6, r7⟩
        · exact .inl q
        · refine .inr ⟨r1, r2, r3, r4, r5, mj, r6, ?_⟩
          have := L.lt _ _ r7
          simp [r3, show a j ≠ X.next by omega, r7]
    · have big : ∀ j, j < n → j ≠ i → upd f i (f i ++ [t]) j ≠ [] → a j < X.next := fun j hj e e1 => by
        rw [upd_ne _ _ e] at e1
        rcases h3 j hj with q | ⟨r1, r2, r3, r4, r5, mj, r6, r7⟩
        · exact absurd q.1 e1
        · exact L.lt _ _ r7
      by_cases ej : j = i <;> by_cases ek : k = i
      · rw [ej, ek]
      · have := big k hk ek e2
        subst ej; rw [upd_same, upd_ne _ _ ek] at e3; omega
      · have := big j hj ej e1
        subst ek; rw [upd_same, upd_ne _ _ ej] at e3; omega
      · rw [upd_ne _ _ ej] at e1 e3; rw [upd_ne _ _ ek] at e2 e3
        exact h4 j k hj hk e1 e2 e3
  · have hs : sAppend X 1 bytes (vs i) (.fs [[t]]) = some (.sl (some (a i, 0, (f i).length + 1)) ((f i).length + 1) 1, X.upd (a i) (.cells (f i ++ [t]) mi)) := by
      rw [q5]
      simp [sAppend, slCells, q7]
      exact ⟨hb, by simpa using ht⟩
    have hal := L.lt _ _ q7
    refine ⟨_, _, hs, by simp [Ne.symm q3], fun k hk => by simp [show k ≠ a i from fun e => q4 (e ▸ hk)], (L.ext.upd hH q2 _).upd hH L.idH _, Hp.upd_lt (Hp.upd_lt L.lt hal _) (by simpa using L.idX) _, L.idH, by simpa using L.idX, fun k hk => by simpa using L.K1 k hk, upd vs i (.sl (some (a i, 0, (f i).length + 1)) ((f i).length + 1) 1), a, n, Nat.le_refl _, by simp [set_rng], fun j hj => ?_, fun j k hj hk e1 e2 e3 => ?_⟩
    · by_cases e : j = i
      · subst e
        right
        simp only [upd_same, List.length_append, List.length_singleton]
        refine ⟨by simp, q2, q3, q4, trivial, mi, by omega, by simp [q3]⟩
      · simp only [upd_ne _ _ e]
        rcases h3 j hj with q | ⟨r1, r2, r3, r4, r5, mj, r6, r7⟩
        · exact .inl q
        · refine .inr ⟨r1, r2, r3, r4, r5, mj, r6, ?_⟩
          have : a j ≠ a i := fun e' => e (h4 j i hj hi r1 q1 e')
          simp [r3, this, r7]
    · have nz : ∀ j, j < n → upd f i (f i ++ [t]) j ≠ [] → f j ≠ [] := fun j hj e => by
        by_cases ej : j = i
        · subst ej; exact q1
        · rwa [upd_ne _ _ ej] at e
      exact h4 j k hj hk (nz j hj e1) (nz k hk e2) e3
theorem LL.rd {H X : Hp} {id n : Nat} {f : Nat → List V} {K : Nat → Prop} (L : LL H X id n f K) : ∃ vs m, m ≤ n ∧ X.get id = some (.cells ((List.range n).map vs) m) ∧ ∀ j, j < n → ∃ k, SlOf X (f j) (vs j) k := by
  obtain ⟨vs, a, m, h1, h2, h3, h4⟩ := L.ex
  refine ⟨vs, m, h1, h2, fun j hj => ⟨a j, ?_⟩⟩
  rcases h3 j hj with q | ⟨q1, q2, q3, q4, q5, mi, q6, q7⟩
  · exact .inl q
  · exact .inr ⟨q1, q5, mi, q7, q6⟩
theorem LL.start {H X : Hp} (hX : H.Ext X) (hl : ∀ k blk, X.get k = some blk → k < X.next) (n z : Nat) (K : Nat → Prop) (hK : ∀ k, K k → k < X.next) : LL H (X.add (.cells ((List.range n).map fun _ => .sl none 0 z) n)) X.next n (fun _ => []) K :=
  ⟨hX.trans (.add hl _), Hp.add_lt hl _, hX.1, by simp, fun k hk => by have := hK k hk; simp; omega, fun _ => .sl none 0 z, fun _ => 0, n, Nat.le_refl _, by simp, fun i hi => .inl ⟨rfl, z, rfl⟩, fun i j hi hj h => absurd rfl h⟩
theorem LL.frz {H X : Hp} {id n : Nat} {f : Nat → List V} {K : Nat → Prop} (L : LL H X id n f K) : Frz X (fun k => H.next ≤ k ∧ ¬ K k) (.sl (some (id, 0, n)) n 1) (.fs ((List.range n).map fun i => [.fs ((f i).map fun t => [t])])) := by
  obtain ⟨vs, a, m, h1, h2, h3, h4⟩ := L.ex
  refine .sl id 0 n n 1 m _ _ ⟨L.idH, fun hk => (L.K1 _ hk).2 rfl⟩ h2 h1 (by simp) (by simp) (fun e he => by obtain ⟨i, _, rfl⟩ := List.mem_map.1 he; rfl) (fun i j e v hi hj => ?_) (fun i j e v u hi hj hu => ?_)
  · simp only [List.getElem?_map, Option.map_eq_some_iff] at hi
    obtain ⟨x, hx, rfl⟩ := hi
    have hil := (List.getElem?_eq_some_iff.1 hx).1
    simp at hil
    cases j with
    | zero => omega
    | succ j => simp at hj
  · simp only [List.getElem?_map, Option.map_eq_some_iff] at hi
    obtain ⟨x, hx, rfl⟩ := hi
    have hil := (List.getElem?_eq_some_iff.1 hx).1
    simp at hil
    have hxi : x = i := by
      rw [List.getElem?_range hil] at hx; injection hx with hx; exact hx.symm
    subst hxi
    cases j with
    | succ j => simp at hj
    | zero =>
      simp at hj; subst hj
      simp [hil] at hu; subst hu
      rcases h3 x hil with ⟨q1, z, q2⟩ | ⟨q1, q2, q3, q4, q5, mi, q6, q7⟩
      · rw [q1, q2]; exact .sl0 z
      · rw [q5]
        refine .sl (a x) 0 _ _ 1 mi (f x) _ ⟨q2, q4⟩ q7 q6 (Nat.le_refl _) (by simp) (fun e he => by obtain ⟨i, _, rfl⟩ := List.mem_map.1 he; rfl) (fun i j e v hi hj => ?_) (fun i j e v u hi hj hu => ?_)
        · simp only [List.getElem?_map, Option.map_eq_some_iff] at hi
          obtain ⟨y, hy, rfl⟩ := hi
          have := (List.getElem?_eq_some_iff.1 hy).1
          cases j with
          | zero => omega
          | succ j => simp at hj
        · simp only [List.getElem?_map, Option.map_eq_some_iff] at hi
          obtain ⟨y, hy, rfl⟩ := hi
          cases j with
          | succ j => simp at hj
          | zero =>
            simp at hj; subst hj
            simp at hu
            rw [hy] at hu; injection hu with hu; subst hu; exact .refl _
def Stk (X : Hp) (sz : Nat) (v : V) (o : Option Nat) (es : List (List V)) : Prop := match o with
  | none => es = [] ∧ ∃ z, v = .sl none 0 z
  | some id => ∃ cs m, v = .sl (some (id, 0, cs.length)) es.length sz ∧ X.get id = some (.cells cs m) ∧ m ≤ cs.length ∧ es.flatten.length ≤ cs.length ∧ cs.take es.flatten.length = es.flatten ∧ ∃ q, cs.length = q * sz
theorem Stk.keep {X Y : Hp} {sz : Nat} {v : V} {o : Option Nat} {es : List (List V)} (h : Stk X sz v o es) (hk : ∀ k blk, o = some k → X.get k = some blk → Y.get k = some blk) : Stk Y sz v o es := by
  cases o with
  | none => exact h
  | some id =>
    obtain ⟨cs, m, a, b, c, d, e⟩ := h
    exact ⟨cs, m, a, hk id _ rfl b, c, d, e⟩
theorem setAll_take : ∀ (vs cs : List V) (o : Nat), o + vs.length ≤ cs.length → (setAll cs o vs).take (o + vs.length) = cs.take o ++ vs := fun vs cs o h => by
  refine List.ext_getElem? fun j => ?_
  rw [List.getElem?_take]
  by_cases hj : j < o + vs.length
  · rw [if_pos hj, setAll_get vs cs o j h]
    by_cases hjo : o ≤ j
    · rw [if_pos ⟨hjo, hj⟩, List.getElem?_append_right (by simp; omega)]
      simp; congr 1; omega
    · rw [if_neg (by omega), List.getElem?_append_left (by simp; omega), List.getElem?_take, if_pos (by omega)]
  · rw [if_neg hj, List.getElem?_eq_none (by simp; omega)]
theorem Stk.push {X : Hp} {sz bytes : Nat} {v : V} {o : Option Nat} {es : List (List V)} (h : Stk X sz v o es) (hl : ∀ k blk, X.get k = some blk → k < X.next) (he : ∀ e ∈ es, e.length = sz) (hsz : 0 < sz) {e : List V} (hes : e.length = sz)
    (hc : e.all isCell = true) (hb : (es.length + 1) * bytes ≤ roomB) : ∃ v2 X2 o2, sAppend X sz bytes v (.fs [e]) = some (v2, X2) ∧ Stk X2 sz v2 (some o2) (es ++ [e]) ∧ X.next ≤ X2.next ∧ (∀ k blk, X2.get k = some blk → k < X2.next) ∧
      (∀ k blk, o ≠ some k → X.get k = some blk → X2.get k = some blk) ∧ (o = some o2 ∨ o2 = X.next) := by
  have hfl : (es ++ [e]).flatten = es.flatten ++ e := by simp
  have hx : slCells X sz (.fs [e]) = some (1, e) := by
    simp [slCells, hsz, hes]
  cases o with
  | none =>
    obtain ⟨rfl, z, rfl⟩ := h
    refine ⟨_, _, X.next, by simp only [sAppend, hx]; rw [if_neg (by omega), if_pos (by simpa using hb)], ⟨e, e.length, by simp, by simp, Nat.le_refl _, by simp, by simp, 1, by omega⟩, by simp, Hp.add_lt hl _, fun k blk _ g => ?_, .inr rfl⟩
    have := hl k blk g
    simp [show k ≠ X.next by omega, g]
  | some id =>
    obtain ⟨cs, m, rfl, hg, hm, h1, h2, q, hq⟩ := h
    have hfe := flat_len he
    have hid := hl _ _ hg
    by_cases hfull : es.length * sz = cs.length
    · refine ⟨_, _, id, by simp only [sAppend, hx, hg]; rw [if_pos ⟨trivial, trivial, hb, hc⟩, if_neg (by omega), if_pos ⟨trivial, hfull⟩], ⟨cs ++ e, m, by simp, by simp, by simp; omega, by rw [hfl, List.length_append, List.length_append]; omega, ?_, q + 1, by simp [hq, hes, Nat.succ_mul]⟩, by simp, Hp.upd_lt hl hid _, fun k blk hk g => ?_, .inl rfl⟩
      · rw [hfl]
        have hcs : cs = es.flatten := by rw [← h2, List.take_of_length_le (by omega)]
        rw [hcs]
        exact List.take_of_length_le (Nat.le_refl _)
      · have : k ≠ id := fun e => hk (by rw [e])
        simp [this, g]
    · have hlt : es.length * sz < cs.length := by omega
      by_cases hroom : 0 + (es.length + 1) * sz ≤ cs.length
      · refine ⟨_, _, id, by simp only [sAppend, hx, hg]; rw [if_pos ⟨trivial, trivial, hb, hc⟩, if_neg (by omega), if_neg (fun h => hfull h.2), if_pos hroom], ⟨setAll cs (0 + es.length * sz) e, cs.length, by simp [setAll_length], by simp, by simp [setAll_length], ?_, ?_, q, by simp [setAll_length, hq]⟩, by simp, Hp.upd_lt hl hid _, fun k blk hk g => ?_, .inl rfl⟩
        · rw [hfl, setAll_length, List.length_append]; rw [Nat.succ_mul] at hroom; omega
        · rw [hfl, List.length_append, hfe, Nat.zero_add, setAll_take e cs _ (by rw [Nat.succ_mul] at hroom; omega), ← hfe, h2]
        · have : k ≠ id := fun e => hk (by rw [e])
          simp [this, g]
      · exfalso
        rw [hq] at hlt hroom
        have := Nat.lt_of_mul_lt_mul_right hlt
        have := Nat.mul_le_mul_right sz this
        simp only [Nat.succ_eq_add_one] at this
        omega
end Go.Proofs.YtggjaoibcfgofaaGreatDoor
