/- AM, part G: steps that make a block and look at nothing else. -/
import Derived.Test.YtihipphpfbnknaaAm13
namespace Go.Proofs.Ytihipphpfbnknaa.Am
open Go Go.RowKit
set_option linter.unusedSimpArgs false
set_option linter.unusedVariables false

/-- What such a step makes: a pointer to it, or a slice of so many elements of such a size. -/
structure AlR where
  sl : Option (Nat × Nat)
  cs : List V
  m : Nat
def AlR.val (r : AlR) (id : Nat) : V := match r.sl with
  | none => .p (some (id, 0, r.cs.length))
  | some (n, sz) => .sl (some (id, 0, r.cs.length)) n sz
/-- A value that leads nowhere, at a glance. -/
def bare : V → Bool
  | .b _ | .i _ _ | .s _ | .p none | .sl none _ _ | .mp none | .nf | .nifc => true
  | _ => false
theorem bare_ok {v : V} (h : bare v = true) (ok : Nat → Nat → Prop) : Okv ok v := by
  cases v with
  | b x => exact .b x
  | i k n => exact .i k n
  | s x => exact .s x
  | p a => cases a with
    | none => exact .p0
    | some a => simp [bare] at h
  | sl a n sz => cases a with
    | none => exact .sl0 n sz
    | some a => simp [bare] at h
  | mp a => cases a with
    | none => exact .mp0
    | some a => simp [bare] at h
  | nf => exact .nf
  | nifc => exact .nifc
  | _ => simp [bare] at h

def alO (o : AOp) (F : Fr) : Option AlR := match o with
  | .new zs => if zs.all bare then some ⟨none, zs, zs.length⟩ else none
  | .box (.t x) => match cellsV (fget F x) with
    | some cs => some ⟨none, cs, cs.length⟩
    | none => none
  | .mksl sz bytes zero l c => match ev F l, ev F c with
    | .i _ n, .i _ m => if (0 ≤ n ∧ n ≤ m ∧ m * bytes ≤ roomB ∧ 0 < bytes ∧ 0 < sz ∧ zero.length = sz) ∧ (repl n.toNat zero).length = n.toNat * sz ∧ (repl n.toNat zero).all bare = true then
        some ⟨some (n.toNat, sz), repl n.toNat zero, n.toNat * sz⟩ else none
    | _, _ => none
  | _ => none

theorem alO_step {o : AOp} {F : Fr} {r : AlR} (h : alO o F = some r) (H : Hp) : astep o F H = some (r.val H.next, H.add (.cells r.cs r.m)) := by
  cases o <;> simp only [alO, reduceCtorEq] at h
  case new zs =>
    split at h
    · injection h with h; subst h; rfl
    · cases h
  case box x =>
    cases x with
    | c v => simp at h
    | t x =>
      simp only [astep, ev]
      simp only at h
      split at h
      · rename_i cs hc; injection h with h; subst h; rw [hc]; rfl
      · cases h
  case mksl sz bytes zero l c =>
    simp only [astep]
    split at h
    · rename_i k1 n k2 m h1 h2
      split at h
      · rename_i hc
        injection h with h; subst h
        rw [h1, h2]
        simp only [if_pos hc.1, AlR.val, hc.2.1]
      · cases h
    · cases h
theorem cellsV_okv {ok : Nat → Nat → Prop} {v : V} {cs : List V} (h : cellsV v = some cs) (hv : Okv ok v) : ∀ u ∈ cs, Okv ok u := by
  unfold cellsV at h
  split at h
  · split at h
    · injection h with h; subst h
      cases hv with
      | agg _ k => exact fun u hu => let ⟨i, hi⟩ := List.mem_iff_getElem?.1 hu; k i u hi
    · cases h
  · split at h
    · injection h with h; subst h
      intro u hu
      simp at hu; subst hu; exact hv
    · cases h
theorem alO_cells {o : AOp} {F : Fr} {r : AlR} (h : alO o F = some r) {ok : Nat → Nat → Prop} (hF : ∀ x ∈ otOp o, Okv ok (fget F x)) : ∀ v ∈ r.cs, Okv ok v := by
  cases o <;> simp only [alO, reduceCtorEq] at h
  case new zs =>
    split at h
    · rename_i hc; injection h with h; subst h
      exact fun v hv => bare_ok (List.all_eq_true.1 hc v hv) ok
    · cases h
  case box x =>
    cases x with
    | c v => simp at h
    | t x =>
      simp only at h
      split at h
      · rename_i cs hc; injection h with h; subst h
        exact cellsV_okv hc (hF x (by simp [otOp, otA]))
      · cases h
  case mksl sz bytes zero l c =>
    split at h
    · split at h
      · rename_i hc; injection h with h; subst h
        exact fun v hv => bare_ok (List.all_eq_true.1 hc.2.2 v hv) ok
      · cases h
    · cases h
theorem alO_congr {o : AOp} {F2 F : Fr} (h : Agree (otOp o) F2 F) : alO o F2 = alO o F := by
  cases o <;> simp only [alO]
  case box x =>
    cases x with
    | c v => rfl
    | t x => simp only [alO]; rw [h x (by simp [otOp, otA])]
  case mksl => simp only [otOp] at h; simp only [h.left.ev, h.right.ev]

end Go.Proofs.Ytihipphpfbnknaa.Am
