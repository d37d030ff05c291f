/- Forests of members in plain lists: what joining and finding do to them. -/
import Derived.Test.YtihipphpfbnknaaAm19
namespace Go.Proofs.Ytihipphpfbnknaa
set_option linter.unusedVariables false

def gt (l : List Nat) (i : Nat) : Nat := l.getD i 0
theorem gt_set (l : List Nat) (i j v : Nat) (hi : i < l.length) : gt (l.set i v) j = if j = i then v else gt l j := by
  unfold gt
  rw [List.getD_eq_getElem?_getD, List.getD_eq_getElem?_getD, List.getElem?_set]
  by_cases h : i = j
  · subst h; simp [hi]
  · simp [h, Ne.symm h]
theorem gt_get {l : List Nat} {i : Nat} (h : i < l.length) : l[i]? = some (gt l i) := by
  unfold gt; rw [List.getD_eq_getElem?_getD, List.getElem?_eq_getElem h]; rfl

/-- Round along the ring from a through l to b. -/
def Path (s : List Nat) : Nat → List Nat → Nat → Prop
  | a, [], b => gt s a = b
  | a, c :: l, b => gt s a = c ∧ Path s c l b
theorem Path.append {s : List Nat} : ∀ {a : Nat} {l : List Nat} {b : Nat} {m : List Nat} {c : Nat}, Path s a l b → Path s b m c → Path s a (l ++ b :: m) c
  | a, [], b, m, c, h, k => ⟨h, k⟩
  | a, d :: l, b, m, c, h, k => ⟨h.1, h.2.append k⟩
theorem Path.other {s t : List Nat} : ∀ {a : Nat} {l : List Nat} {b : Nat}, Path s a l b → gt t a = gt s a → (∀ x ∈ l, gt t x = gt s x) → Path t a l b
  | a, [], b, h, h1, _ => by show gt t a = b; rw [h1]; exact h
  | a, c :: l, b, h, h1, h2 => ⟨by rw [h1]; exact h.1, h.2.other (h2 c (by simp)) fun x hx => h2 x (by simp [hx])⟩
/-- The same way from another start. -/
theorem Path.start {s t : List Nat} {a a' : Nat} {l : List Nat} {b : Nat} (h : Path s a l b) (h1 : gt t a' = gt s a) (h2 : ∀ x ∈ l, gt t x = gt s x) : Path t a' l b := by
  cases l with
  | nil => show gt t a' = b; rw [h1]; exact h
  | cons c l => exact ⟨by rw [h1]; exact h.1, h.2.other (h2 c (by simp)) fun x hx => h2 x (by simp [hx])⟩
/-- The next one. -/
theorem Path.next {s : List Nat} : ∀ {a : Nat} {l : List Nat} {b : Nat} (v : List Nat) (i : Nat) (r : List Nat), Path s a l b → a :: l = v ++ i :: r → gt s i = (r ++ [b]).headD 0
  | a, [], b, [], i, r, h, e => by
    simp at e; obtain ⟨rfl, rfl⟩ := e; exact h
  | a, c :: l, b, [], i, r, h, e => by
    simp at e; obtain ⟨rfl, rfl⟩ := e; exact h.1
  | a, [], b, w :: v, i, r, h, e => by simp at e
  | a, c :: l, b, w :: v, i, r, h, e => by
    simp only [List.cons_append, List.cons.injEq] at e
    exact h.2.next v i r e.2

structure FInv (n : Nat) (up ring rep : List Nat) : Prop where
  lu : up.length = n
  lr : ring.length = n
  lp : rep.length = n
  up_le : ∀ i, i < n → gt up i ≤ i
  up_rep : ∀ i, i < n → gt rep (gt up i) = gt rep i
  up_fix : ∀ i, i < n → gt up i = i → gt rep i = i
  rep_le : ∀ i, i < n → gt rep i ≤ i
  rep_rep : ∀ i, i < n → gt rep (gt rep i) = gt rep i
  ring : ∀ r, r < n → gt rep r = r → ∃ A, Path ring r A r ∧ (r :: A).Nodup ∧ ∀ j, j ∈ r :: A ↔ (j < n ∧ gt rep j = r)

theorem gt_range {n i : Nat} (h : i < n) : gt (List.range n) i = i := by
  unfold gt; rw [List.getD_eq_getElem?_getD, List.getElem?_range h]; rfl
theorem FInv.new (n : Nat) : FInv n (List.range n) (List.range n) (List.range n) where
  lu := by simp
  lr := by simp
  lp := by simp
  up_le i hi := by rw [gt_range hi]; exact Nat.le_refl _
  up_rep i hi := by rw [gt_range hi, gt_range hi]
  up_fix i hi _ := gt_range hi
  rep_le i hi := by rw [gt_range hi]; exact Nat.le_refl _
  rep_rep i hi := by rw [gt_range hi, gt_range hi]
  ring r hr _ := ⟨[], gt_range hr, by simp, fun j => by
    constructor
    · intro h; simp at h; subst h; exact ⟨hr, gt_range hr⟩
    · rintro ⟨h1, h2⟩; rw [gt_range h1] at h2; simp [h2]⟩

theorem FInv.halve1 {n : Nat} {up ring rep : List Nat} (I : FInv n up ring rep) {i : Nat} (hi : i < n) (hne : gt up i ≠ i) :
    FInv n (up.set i (gt up (gt up i))) ring rep ∧ gt up (gt up i) < i ∧ gt rep (gt up (gt up i)) = gt rep i := by
  have h1 := I.up_le i hi
  have hlt : gt up i < i := by omega
  have h2 := I.up_le (gt up i) (by omega)
  have h3 := I.up_rep (gt up i) (by omega)
  have h4 := I.up_rep i hi
  have hu : i < up.length := by rw [I.lu]; exact hi
  refine ⟨⟨by simp [I.lu], I.lr, I.lp, fun j hj => ?_, fun j hj => ?_, fun j hj he => ?_, I.rep_le, I.rep_rep, I.ring⟩, by omega, by rw [h3, h4]⟩
  · rw [gt_set _ _ _ _ hu]; split
    · omega
    · exact I.up_le j hj
  · rw [gt_set _ _ _ _ hu]; split
    · rename_i e; subst e; rw [h3, h4]
    · exact I.up_rep j hj
  · rw [gt_set _ _ _ _ hu] at he; split at he
    · omega
    · exact I.up_fix j hj he

/-- Finding: the way is halved. -/
def halve : Nat → List Nat → Nat → List Nat × Nat
  | 0, up, i => (up, i)
  | k + 1, up, i => if gt up i = i then (up, i) else halve k (up.set i (gt up (gt up i))) (gt up (gt up i))
theorem halve_ok {n : Nat} {ring rep : List Nat} : ∀ (k : Nat) {up : List Nat} {i : Nat}, FInv n up ring rep → i < n → i ≤ k → FInv n (halve k up i).1 ring rep ∧ (halve k up i).2 = gt rep i ∧ gt (halve k up i).1 (halve k up i).2 = (halve k up i).2
  | 0, up, i, I, hi, hk => by
    have h1 := I.up_le i hi
    have : gt up i = i := by omega
    exact ⟨I, (I.up_fix i hi this).symm, this⟩
  | k + 1, up, i, I, hi, hk => by
    unfold halve
    split
    · rename_i h; exact ⟨I, (I.up_fix i hi h).symm, h⟩
    · rename_i h
      obtain ⟨I', h1, h2⟩ := I.halve1 hi h
      obtain ⟨a, b, c⟩ := halve_ok k (i := gt up (gt up i)) I' (by omega) (by omega)
      exact ⟨a, by rw [b, h2], c⟩

def joinR (x y : Nat) (rep : List Nat) : List Nat := rep.map fun v => if v = x ∨ v = y then min x y else v
theorem gt_joinR {x y : Nat} {rep : List Nat} {i : Nat} (hi : i < rep.length) : gt (joinR x y rep) i = if gt rep i = x ∨ gt rep i = y then min x y else gt rep i := by
  unfold gt joinR
  simp [List.getD_eq_getElem?_getD, List.getElem?_map, List.getElem?_eq_getElem hi]

theorem FInv.join {n : Nat} {up ring rep : List Nat} (I : FInv n up ring rep) {x y : Nat} (hx : x < n) (hy : y < n) (rx : gt rep x = x) (ry : gt rep y = y) (hne : x ≠ y) :
    FInv n (up.set (max x y) (min x y)) ((ring.set x (gt ring y)).set y (gt ring x)) (joinR x y rep) := by
  have gj : ∀ i, i < n → gt (joinR x y rep) i = if gt rep i = x ∨ gt rep i = y then min x y else gt rep i := fun i hi => gt_joinR (by rw [I.lp]; exact hi)
  have hm : max x y < up.length := by rw [I.lu]; omega
  have gu : ∀ j, gt (up.set (max x y) (min x y)) j = if j = max x y then min x y else gt up j := fun j => gt_set _ _ _ _ hm
  have gr : ∀ j, gt ((ring.set x (gt ring y)).set y (gt ring x)) j = if j = y then gt ring x else if j = x then gt ring y else gt ring j := fun j => by
    rw [gt_set _ _ _ _ (by simp [I.lr]; exact hy), gt_set _ _ _ _ (by rw [I.lr]; exact hx)]
  have rmm : gt rep (max x y) = max x y := by
    rcases Nat.le_total x y with h | h
    · rw [show max x y = y by omega, ry]
    · rw [show max x y = x by omega, rx]
  have rmn : gt rep (min x y) = min x y := by
    rcases Nat.le_total x y with h | h
    · rw [show min x y = x by omega, rx]
    · rw [show min x y = y by omega, ry]
  have jmn : gt (joinR x y rep) (min x y) = min x y := by
    rw [gj _ (by omega), rmn, if_pos (by omega)]
  refine ⟨by simp [I.lu], by simp [I.lr], by simp [joinR, I.lp], fun i hi => ?_, fun i hi => ?_, fun i hi he => ?_, fun i hi => ?_, fun i hi => ?_, fun r hr he => ?_⟩
  · rw [gu]; split
    · omega
    · exact I.up_le i hi
  · rw [gu]; split
    · rename_i e; rw [jmn, gj i hi, e, rmm, if_pos (by omega)]
    · rw [gj i hi, gj _ (by have := I.up_le i hi; omega), I.up_rep i hi]
  · rw [gu] at he; split at he
    · omega
    · rename_i hn
      have := I.up_fix i hi he
      rw [gj i hi, this]
      split
      · omega
      · rfl
  · rw [gj i hi]
    have := I.rep_le i hi
    split
    · omega
    · exact this
  · rw [gj i hi]; split
    · exact jmn
    · rename_i h
      have h1 := I.rep_le i hi
      rw [gj _ (by omega), I.rep_rep i hi, if_neg h]
  · rw [gj r hr] at he
    by_cases hxy : gt rep r = x ∨ gt rep r = y
    · rw [if_pos hxy] at he
      obtain ⟨A, pA, nA, mA⟩ := I.ring x hx rx
      obtain ⟨B, pB, nB, mB⟩ := I.ring y hy ry
      have xB : x ∉ B := fun h => by have := (mB x).1 (by simp [h]); omega
      have yA : y ∉ A := fun h => by have := (mA y).1 (by simp [h]); omega
      have xA : x ∉ A := (List.nodup_cons.1 nA).1
      have yB : y ∉ B := (List.nodup_cons.1 nB).1
      have sA : ∀ z ∈ A, gt ((ring.set x (gt ring y)).set y (gt ring x)) z = gt ring z := fun z hz => by
        rw [gr, if_neg (show ¬ z = y from fun e => yA (e ▸ hz)), if_neg (show ¬ z = x from fun e => xA (e ▸ hz))]
      have sB : ∀ z ∈ B, gt ((ring.set x (gt ring y)).set y (gt ring x)) z = gt ring z := fun z hz => by
        rw [gr, if_neg (show ¬ z = y from fun e => yB (e ▸ hz)), if_neg (show ¬ z = x from fun e => xB (e ▸ hz))]
      have p1 : Path ((ring.set x (gt ring y)).set y (gt ring x)) x B y := pB.start (by rw [gr, if_neg hne, if_pos rfl]) sB
      have p2 : Path ((ring.set x (gt ring y)).set y (gt ring x)) y A x := pA.start (by rw [gr, if_pos rfl]) sA
      have mem : ∀ j, (j < n ∧ gt (joinR x y rep) j = r) ↔ (j ∈ x :: A ∨ j ∈ y :: B) := fun j => by
        rw [mA, mB]
        constructor
        · rintro ⟨h1, h2⟩
          rw [gj j h1] at h2
          split at h2
          · rename_i h; rcases h with h | h
            · exact .inl ⟨h1, h⟩
            · exact .inr ⟨h1, h⟩
          · exfalso
            rename_i h
            have := I.rep_rep j h1
            rw [h2] at this
            omega
        · rintro (⟨h1, h2⟩ | ⟨h1, h2⟩) <;> exact ⟨h1, by rw [gj j h1, if_pos (by simp [h2]), he]⟩
      have nd : ∀ z ∈ A, z ∉ B := fun z h1 h2 => by
        have a := (mA z).1 (by simp [h1]); have b := (mB z).1 (by simp [h2]); omega
      rcases Nat.lt_or_ge x y with hlt | hge
      · have : r = x := by omega
        subst this
        refine ⟨B ++ y :: A, p1.append p2, ?_, fun j => ?_⟩
        · simp only [List.nodup_cons, List.mem_append, List.mem_cons, List.nodup_append]
          refine ⟨by simp [xB, xA, hne], (List.nodup_cons.1 nB).2, ⟨yA, (List.nodup_cons.1 nA).2⟩, fun a ha b hb e => ?_⟩
          subst e
          rcases hb with rfl | hb
          · exact yB ha
          · exact nd _ hb ha
        · rw [mem]; simp only [List.mem_cons, List.mem_append]
          constructor
          · rintro (h | h | h | h) <;> simp [h]
          · rintro ((h | h) | (h | h)) <;> simp [h]
      · have : r = y := by omega
        subst this
        refine ⟨A ++ x :: B, p2.append p1, ?_, fun j => ?_⟩
        · simp only [List.nodup_cons, List.mem_append, List.mem_cons, List.nodup_append]
          refine ⟨by simp [yB, yA, Ne.symm hne], (List.nodup_cons.1 nA).2, ⟨xB, (List.nodup_cons.1 nB).2⟩, fun a ha b hb e => ?_⟩
          subst e
          rcases hb with rfl | hb
          · exact xA ha
          · exact nd _ ha hb
        · rw [mem]; simp only [List.mem_cons, List.mem_append]
          constructor
          · rintro (h | h | h | h) <;> simp [h]
          · rintro ((h | h) | (h | h)) <;> simp [h]
    · rw [if_neg hxy] at he
      obtain ⟨A, pA, nA, mA⟩ := I.ring r hr he
      have hz : ∀ z ∈ r :: A, z ≠ x ∧ z ≠ y := fun z hz => by
        have := (mA z).1 hz
        constructor
        · rintro rfl; omega
        · rintro rfl; omega
      have s1 : ∀ z ∈ r :: A, gt ((ring.set x (gt ring y)).set y (gt ring x)) z = gt ring z := fun z h => by
        rw [gr, if_neg (hz z h).2, if_neg (hz z h).1]
      refine ⟨A, pA.other (s1 r (by simp)) (fun z h => s1 z (by simp [h])), nA, fun j => ?_⟩
      rw [mA]
      constructor
      · rintro ⟨h1, h2⟩; exact ⟨h1, by rw [gj j h1, if_neg (by omega), h2]⟩
      · rintro ⟨h1, h2⟩
        rw [gj j h1] at h2
        split at h2
        · exfalso; have h3 := rmn; have h4 := hz r (by simp); omega
        · exact ⟨h1, h2⟩

def cnt (rep : List Nat) : Nat := ((List.range rep.length).filter fun i => gt rep i == i).length
theorem cnt_join {n : Nat} {up ring rep : List Nat} (I : FInv n up ring rep) {x y : Nat} (hx : x < n) (hy : y < n) (rx : gt rep x = x) (ry : gt rep y = y) (hne : x ≠ y) : cnt (joinR x y rep) + 1 = cnt rep := by
  have gj : ∀ i, i < n → gt (joinR x y rep) i = if gt rep i = x ∨ gt rep i = y then min x y else gt rep i := fun i hi => gt_joinR (by rw [I.lp]; exact hi)
  have rmm : gt rep (max x y) = max x y := by
    rcases Nat.le_total x y with h | h
    · rw [show max x y = y by omega, ry]
    · rw [show max x y = x by omega, rx]
  have e : ((List.range (joinR x y rep).length).filter fun i => gt (joinR x y rep) i == i) = ((List.range rep.length).filter fun i => gt rep i == i).erase (max x y) := by
    rw [List.Nodup.erase_eq_filter (List.Pairwise.filter _ List.nodup_range), List.filter_filter]
    rw [show (joinR x y rep).length = rep.length by simp [joinR]]
    apply List.filter_congr
    intro i hi
    have hi' : i < n := by rw [← I.lp]; simpa using hi
    rw [gj i hi']
    have h1 := I.rep_rep i hi'
    have key : ((if gt rep i = x ∨ gt rep i = y then min x y else gt rep i) = i) ↔ (i ≠ max x y ∧ gt rep i = i) := by
      split
      · rename_i h
        constructor
        · intro e; subst e
          refine ⟨by omega, ?_⟩
          rcases Nat.le_total x y with h | h
          · rw [show min x y = x by omega, rx]
          · rw [show min x y = y by omega, ry]
        · rintro ⟨h2, h3⟩; omega
      · rename_i h
        constructor
        · intro e; exact ⟨fun e' => by rw [e', rmm] at h; omega, e⟩
        · exact fun e => e.2
    rw [Bool.eq_iff_iff]
    simp only [beq_iff_eq, Bool.and_eq_true, bne_iff_ne]
    exact key
  unfold cnt
  rw [e, List.length_erase_of_mem]
  · have : max x y ∈ (List.range rep.length).filter fun i => gt rep i == i := by
      simp [rmm, I.lp]; omega
    have := List.length_pos_of_mem this
    omega
  · simp [rmm, I.lp]; omega
theorem cnt_new (n : Nat) : cnt (List.range n) = n := by
  unfold cnt
  have : (List.range (List.range n).length).filter (fun i => gt (List.range n) i == i) = List.range n := by
    rw [List.length_range, List.filter_eq_self]
    intro i hi
    rw [gt_range (by simpa using hi)]; simp
  rw [this]; simp

end Go.Proofs.Ytihipphpfbnknaa
