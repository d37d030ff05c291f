/- AM, part 5: operations: what each does, and that the model does it. -/
import Derived.Test.YtihipphpfbnknaaAm4
namespace Go.Proofs.Ytihipphpfbnknaa.Am
open Go Go.RowKit
set_option linter.unusedSimpArgs false
set_option linter.unusedVariables false

inductive AO where
  | t (n : Nat)
  | c (v : V)
def ev (F : Fr) : AO → V
  | .t n => fget F n
  | .c v => v
def evs (F : Fr) : List AO → List V
  | [] => []
  | x :: r => ev F x :: evs F r

/-! ### constants -/
def isV0 : Value → V → Bool
  | _, .junk => true
  | .bool a, .b x => a == x
  | .int k n, .i k' m => decide (k = k') && n == m
  | .string s, .s x => s.data.toList == x
  | .pointer none, .p none => true
  | .slice none 0 0, .sl none 0 _ => true
  | .map none, .mp none => true
  | .nilFunc, .nf => true
  | .nilIface, .nifc => true
  | _, _ => false
def isVs : List Value → List V → Bool
  | [], [] => true
  | c :: cs, v :: vs => isV0 c v && isVs cs vs
  | _, _ => false
def isV : Value → V → Bool
  | .agg cs, .agg vs => isVs cs.toList vs
  | c, v => isV0 c v

theorem isV0_ok {c : Value} {v : V} (h : isV0 c v = true) (κ : K) : VR κ v c := by
  unfold isV0 at h
  split at h
  · exact .junk _
  · simp at h; subst h; exact .b _
  · simp at h; obtain ⟨rfl, rfl⟩ := h; exact .i _ _
  · rename_i s x
    have : s = ⟨x.toArray⟩ := by
      apply ByteArray.ext; apply Array.ext'
      simpa using h
    rw [this]; exact .s _
  · exact .p0
  · exact .sl0 _ _
  · exact .mp0
  · exact .nf
  · exact .nifc
  · cases h
theorem isVs_ok : ∀ {cs : List Value} {vs : List V}, isVs cs vs = true → ∀ κ, VRs κ vs cs
  | [], [], _, κ => ⟨rfl, fun j v h => by simp at h⟩
  | c :: cs, v :: vs, h, κ => by
    simp only [isVs, Bool.and_eq_true] at h
    obtain ⟨h1, h2⟩ := isVs_ok h.2 κ
    refine ⟨by simp [h1], fun j u hj => ?_⟩
    cases j with
    | zero => simp at hj; subst hj; exact isV0_ok h.1 κ
    | succ j => simpa using h2 j u (by simpa using hj)
  | [], _ :: _, h, _ => by cases h
  | _ :: _, [], h, _ => by cases h
theorem VR.agg' {κ : K} {vs : List V} {cs : Array Value} (h : VRs κ vs cs.toList) : VR κ (.agg vs) (.agg cs) := by
  have := VR.agg (κ := κ) vs cs.toList h.1 h.2
  simpa using this
theorem VR.tup' {κ : K} {vs : List V} {cs : Array Value} (h : VRs κ vs cs.toList) : VR κ (.tup vs) (.tuple cs) := by
  have := VR.tup (κ := κ) vs cs.toList h.1 h.2
  simpa using this
theorem isV_ok {c : Value} {v : V} (h : isV c v = true) (κ : K) : VR κ v c := by
  unfold isV at h
  split at h
  · exact VR.agg' (isVs_ok h κ)
  · exact isV0_ok h κ

def okAO : Operand → AO → Bool
  | .tmp t, .t n => t == n
  | .const c, .c v => isV c v
  | .func f, .c (.fn g []) => f == g
  | _, _ => false
theorem okAO_ok {o : Operand} {x : AO} (h : okAO o x = true) {κ : K} {F : Fr} {a : Act} (r : FR κ F a.tmps) : VR κ (ev F x) (a.eval o) := by
  unfold okAO at h
  split at h
  · simp at h; subst h; exact r _
  · exact isV_ok h κ
  · simp at h; subst h; exact .fn _ [] [] rfl (fun j v h => by simp at h)
  · cases h
def okAOs : List Operand → List AO → Bool
  | [], [] => true
  | o :: os, x :: xs => okAO o x && okAOs os xs
  | _, _ => false
theorem okAOs_ok : ∀ {os : List Operand} {xs : List AO}, okAOs os xs = true → ∀ {κ : K} {F : Fr} {a : Act}, FR κ F a.tmps → VRs κ (evs F xs) (os.map a.eval)
  | [], [], _, κ, F, a, r => ⟨rfl, fun j v h => by simp [evs] at h⟩
  | o :: os, x :: xs, h, κ, F, a, r => by
    simp only [okAOs, Bool.and_eq_true] at h
    obtain ⟨h1, h2⟩ := okAOs_ok h.2 r
    refine ⟨by simp [evs, h1], fun j u hj => ?_⟩
    cases j with
    | zero => simp [evs] at hj; subst hj; exact okAO_ok h.1 r
    | succ j => simpa using h2 j u (by simpa [evs] using hj)
  | [], _ :: _, h, _, _, _, _ => by cases h
  | _ :: _, [], h, _, _, _, _ => by cases h

/-! ### parts -/
def cellsV : V → Option (List V)
  | .agg cs => if cs.all isCell then some cs else none
  | v => if isCell v then some [v] else none
theorem cellsV_ok {κ : K} {v : V} {vs : List V} (h : cellsV v = some vs) {c : Value} (r : VR κ v c) : VRs κ vs c.cells.toList ∧ vs.all isCell = true := by
  unfold cellsV at h
  split at h
  · split at h
    · rename_i hc
      injection h with h; subst h
      cases r with
      | agg _ cs h1 h2 => exact ⟨by simp [Value.cells]; exact ⟨h1, h2⟩, hc⟩
    · cases h
  · split at h
    · rename_i hc
      injection h with h; subst h
      have : c.cells = #[c] := by cases r <;> first | rfl | (simp [isCell] at hc)
      rw [this]
      exact ⟨⟨rfl, fun j u hj => by
        cases j with
        | zero => simp at hj; subst hj; exact r
        | succ j => simp at hj⟩, by simp [hc]⟩
    · cases h

def fillV : List V → List (Nat × Nat × V) → Option (List V)
  | cells, [] => some cells
  | cells, (off, n, v) :: r =>
    match cellsV v with
    | some vs => if vs.length = n ∧ off + n ≤ cells.length then fillV (setAll cells off vs) r else none
    | none => none

theorem setAll_get : ∀ (vs cs : List V) (o j : Nat), o + vs.length ≤ cs.length → (setAll cs o vs)[j]? = if o ≤ j ∧ j < o + vs.length then vs[j - o]? else cs[j]?
  | [], cs, o, j, h => by simp [setAll]; intro h1 h2; omega
  | v :: r, cs, o, j, h => by
    simp only [List.length_cons] at h
    rw [setAll, setAll_get r (cs.set o v) (o + 1) j (by simp; omega)]
    simp only [List.length_cons]
    by_cases h1 : o + 1 ≤ j ∧ j < o + 1 + r.length
    · rw [if_pos h1, if_pos (by omega), show j - o = (j - (o + 1)) + 1 by omega]; simp
    · rw [if_neg h1]
      by_cases h2 : j = o
      · subst h2; rw [if_pos (by omega), List.getElem?_set_self (by omega)]; simp
      · rw [if_neg (by omega), List.getElem?_set_ne (Ne.symm h2)]

theorem foldl_set : ∀ (l : List Value) (k off : Nat) (cells : Array Value),
    ((l.zipIdx k).foldl (fun cs (p : Value × Nat) => cs.setIfInBounds (off + p.2) p.1) cells).size = cells.size ∧
    ∀ j, ((l.zipIdx k).foldl (fun cs (p : Value × Nat) => cs.setIfInBounds (off + p.2) p.1) cells)[j]? = if off + k ≤ j ∧ j < off + k + l.length ∧ j < cells.size then l[j - (off + k)]? else cells[j]?
  | [], k, off, cells => ⟨rfl, fun j => by simp; intro h1 h2; omega⟩
  | v :: r, k, off, cells => by
    obtain ⟨h1, h2⟩ := foldl_set r (k + 1) off (cells.setIfInBounds (off + k) v)
    simp only [List.zipIdx_cons, List.foldl_cons]
    refine ⟨by rw [h1]; simp, fun j => ?_⟩
    rw [h2 j]
    simp only [Array.size_setIfInBounds, List.length_cons]
    by_cases c1 : off + (k + 1) ≤ j ∧ j < off + (k + 1) + r.length ∧ j < cells.size
    · rw [if_pos c1, if_pos (by omega), show j - (off + k) = (j - (off + (k + 1))) + 1 by omega]; simp
    · rw [if_neg c1]
      by_cases c2 : j = off + k
      · subst c2
        by_cases c3 : off + k < cells.size
        · rw [if_pos (by omega)]; simp [c3]
        · rw [if_neg (by omega)]; simp [c3]
      · rw [if_neg (by omega), Array.getElem?_setIfInBounds_ne (Ne.symm c2)]

theorem VRs.of_get {κ : K} {vs : List V} {cs : List Value} (hl : vs.length = cs.length) (h : ∀ (j : Nat) v, vs[j]? = some v → ∃ c, cs[j]? = some c ∧ VR κ v c) : VRs κ vs cs :=
  ⟨hl, fun j v hj => by obtain ⟨c, h1, h2⟩ := h j v hj; simpa [List.getD, h1] using h2⟩

theorem fillV_ok {κ : K} (place : Nat → Option (Nat × Nat)) : ∀ (ps : List (Nat × Value)) (qs : List (Nat × Nat × V)) (cells : Array Value) (vs vs' : List V),
    VRs κ vs cells.toList → ps.length = qs.length → (∀ (j : Nat) p q, ps[j]? = some p → qs[j]? = some q → place p.1 = some (q.1, q.2.1) ∧ VR κ q.2.2 p.2) → fillV vs qs = some vs' →
    ∃ cells', Instr.fill place cells ps = some cells' ∧ VRs κ vs' cells'.toList
  | [], [], cells, vs, vs', hv, _, _, h => by
    simp only [fillV] at h; injection h with h; subst h
    exact ⟨cells, rfl, hv⟩
  | (i, c) :: ps, (off, n, v) :: qs, cells, vs, vs', hv, hl, hp, h => by
    obtain ⟨hp0, hv0⟩ := hp 0 _ _ rfl rfl
    simp only [fillV] at h
    split at h
    · rename_i us hus
      split at h
      · rename_i hb
        obtain ⟨hu1, hu2⟩ := cellsV_ok hus hv0
        simp only at hp0
        have hcs : c.cells.size = n := by have := hu1.1; simp at this; omega
        have hvl := hv.1
        simp only [Array.length_toList] at hvl
        obtain ⟨z1, z2⟩ := foldl_set c.cells.toList 0 off cells
        have hv' : VRs κ (setAll vs off us) ((c.cells.toList.zipIdx.foldl (fun cs (p : Value × Nat) => cs.setIfInBounds (off + p.2) p.1) cells)).toList := by
          refine .of_get (by simp only [setAll_length, Array.length_toList]; omega) fun j u hj => ?_
          rw [setAll_get us vs off j (by omega)] at hj
          rw [Array.getElem?_toList, z2 j]
          simp only [Nat.add_zero, Array.length_toList]
          split at hj
          · rename_i hr
            rw [if_pos (by omega)]
            exact hu1.get hj
          · rename_i hr
            rw [if_neg (by omega), ← Array.getElem?_toList]
            exact hv.get hj
        obtain ⟨cells', e1, e2⟩ := fillV_ok place ps qs _ _ _ hv' (by simpa using hl) (fun j p q h1 h2 => hp (j + 1) p q (by simpa using h1) (by simpa using h2)) h
        refine ⟨cells', ?_, e2⟩
        simp only [Instr.fill, hp0]
        rw [if_neg (by simp; omega)]
        rw [← e1, ← Array.foldl_toList, Array.toList_zipIdx]
      · cases h
    · cases h
  | [], _ :: _, _, _, _, _, hl, _, _ => by simp at hl
  | _ :: _, [], _, _, _, _, hl, _, _ => by simp at hl

end Go.Proofs.Ytihipphpfbnknaa.Am
