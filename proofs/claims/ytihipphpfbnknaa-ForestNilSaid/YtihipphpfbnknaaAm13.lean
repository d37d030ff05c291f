/- AM, part 13: a statement whose order is open: the text's order stands for all, where what touches the heap is chained. -/
import Derived.Test.YtihipphpfbnknaaAmF
namespace Go.Proofs.Ytihipphpfbnknaa.Am
open Go Go.RowKit
set_option linter.unusedSimpArgs false
set_option linter.unusedVariables false

/-! ### what a step looks at -/
def otA : AO → List Nat
  | .t n => [n]
  | .c _ => []
def otAs : List AO → List Nat
  | [] => []
  | x :: r => otA x ++ otAs r
def otO : Option AO → List Nat
  | some x => otA x
  | none => []
def otP (ps : List (Nat × Nat × AO)) : List Nat := otAs (ps.map fun p => p.2.2)
def otOp : AOp → List Nat
  | .mov x | .box x | .boxf x | .slc0 _ x | .b2s x | .s2b x | .load _ _ x | .nilc x | .un _ x | .conv _ x | .fadr _ x | .fld _ _ _ x | .ext _ x | .len _ x => otA x
  | .pick c a b => otA c ++ otA a ++ otA b
  | .new _ | .bz _ => []
  | .build _ ps | .bsl _ _ ps | .bfz _ _ _ ps => otP ps
  | .store _ a x | .bin _ a x | .eqk _ _ a x | .mksl _ _ _ a x | .iad _ a x | .iadA _ _ a x | .idx a x | .app _ _ a x => otA a ++ otA x
  | .mkfn _ xs | .mx xs | .mn xs => otAs xs
  | .slc _ x lo hi | .sls x lo hi => otA x ++ otO lo ++ otO hi
def otDo : ADo → List Nat
  | .op o => otOp o
  | .call _ xs => otAs xs
  | .callv f xs => otA f ++ otAs xs
def otS (s : AStep) : List Nat := otDo s.d ++ (match s.g with | some (t, _) => [t] | none => [])

def Agree (l : List Nat) (F2 F : Fr) : Prop := ∀ t, t ∈ l → fget F2 t = fget F t
theorem Agree.left {a b : List Nat} {F2 F : Fr} (h : Agree (a ++ b) F2 F) : Agree a F2 F := fun t ht => h t (by simp [ht])
theorem Agree.right {a b : List Nat} {F2 F : Fr} (h : Agree (a ++ b) F2 F) : Agree b F2 F := fun t ht => h t (by simp [ht])
theorem Agree.ev {x : AO} {F2 F : Fr} (h : Agree (otA x) F2 F) : ev F2 x = ev F x := by
  cases x with
  | t n => exact h n (by simp [otA])
  | c v => rfl
theorem Agree.evs : ∀ {xs : List AO} {F2 F : Fr}, Agree (otAs xs) F2 F → evs F2 xs = evs F xs
  | [], _, _, _ => rfl
  | x :: r, F2, F, h => by simp only [Am.evs, (Agree.left h).ev, Agree.evs (Agree.right h)]
theorem Agree.evp {ps : List (Nat × Nat × AO)} {F2 F : Fr} (h : Agree (otP ps) F2 F) : evp F2 ps = evp F ps := by
  induction ps with
  | nil => rfl
  | cons p r ih =>
    have h' : Agree (otA p.2.2 ++ otP r) F2 F := h
    simp only [Am.evp, List.map_cons, h'.left.ev]
    have := ih h'.right
    simp only [Am.evp] at this
    rw [this]
theorem Agree.bound {d : Int} {o : Option AO} {F2 F : Fr} (h : Agree (otO o) F2 F) : bound F2 d o = bound F d o := by
  cases o with
  | none => rfl
  | some x => simp only [Am.bound, (show Agree (otA x) F2 F from h).ev]

theorem astep_congr {op : AOp} {F2 F : Fr} (h : Agree (otOp op) F2 F) (H : Hp) : astep op F2 H = astep op F H := by
  cases op <;> simp only [otOp] at h
  case new => rfl
  case bz => rfl
  case boxf => simp only [astep, h.ev]
  case slc0 => simp only [astep, h.ev]
  case b2s => simp only [astep, h.ev]
  case s2b => simp only [astep, h.ev]
  case iadA => simp only [astep, h.left.ev, h.right.ev]
  case mov => simp only [astep, h.ev]
  case box => simp only [astep, h.ev]
  case load => simp only [astep, h.ev]
  case nilc => simp only [astep, h.ev]
  case un => simp only [astep, h.ev]
  case conv => simp only [astep, h.ev]
  case fadr => simp only [astep, h.ev]
  case fld => simp only [astep, h.ev]
  case ext => simp only [astep, h.ev]
  case len => simp only [astep, h.ev]
  case pick => simp only [astep, h.left.left.ev, h.left.right.ev, h.right.ev]
  case build => simp only [astep, h.evp]
  case bsl => simp only [astep, h.evp]
  case bfz => simp only [astep, h.evp]
  case store => simp only [astep, h.left.ev, h.right.ev]
  case bin => simp only [astep, h.left.ev, h.right.ev]
  case eqk => simp only [astep, h.left.ev, h.right.ev]
  case mksl => simp only [astep, h.left.ev, h.right.ev]
  case iad => simp only [astep, h.left.ev, h.right.ev]
  case idx => simp only [astep, h.left.ev, h.right.ev]
  case app => simp only [astep, h.left.ev, h.right.ev]
  case mkfn => simp only [astep, h.evs]
  case mx => simp only [astep, h.evs]
  case mn => simp only [astep, h.evs]
  case slc => simp only [astep, h.left.left.ev, h.left.right.bound, h.right.bound]
  case sls => simp only [astep, h.left.left.ev, h.left.right.bound, h.right.bound]

/-! ### what a step does to the heap -/
inductive Cls where
  | pure | rd | eff
  deriving DecidableEq

def clsO (op : AOp) (F : Fr) : Cls :=
  match op with
  | .load _ _ a => match ev F a with
    | .fp _ _ => .pure
    | _ => .rd
  | .store _ _ _ | .new _ | .box _ | .bsl _ _ _ | .mksl _ _ _ _ _ | .app _ _ _ _ | .s2b _ => .eff
  | .b2s _ => .rd
  | _ => .pure

theorem cls_pure {op : AOp} {F : Fr} {H H' : Hp} {v : V} (hc : clsO op F = .pure) (h : astep op F H = some (v, H')) : H' = H ∧ ∀ H2, astep op F H2 = some (v, H2) := by
  cases op <;> simp only [clsO] at hc <;> first | (cases hc; done) | skip
  case load agg n a =>
    simp only [astep] at h ⊢
    cases hv : ev F a <;> simp only [hv] at hc <;> first | (cases hc; done) | skip
    simp only [hv, rd] at h ⊢
    split at h
    · rename_i vs hvs
      cases ho : one agg vs with
      | none => simp [ho] at h
      | some u =>
        simp [ho] at h
        obtain ⟨h1, h2⟩ := h; subst h1; subst h2
        exact ⟨rfl, fun H2 => by simp [ho, hvs]⟩
    · cases h
  all_goals simp only [astep] at h ⊢
  all_goals repeat' (split at h <;> first | (cases h; done) | skip)
  all_goals first
    | (injection h with h; injection h with h1 h2; subst h1; subst h2; exact ⟨rfl, fun H2 => by first | rfl | simp_all⟩)
    | (rw [Option.map_eq_some_iff] at h; obtain ⟨x, hx, h⟩ := h; injection h with h1 h2; subst h1; subst h2; exact ⟨rfl, fun H2 => by simp_all⟩)

theorem cls_rd {op : AOp} {F : Fr} {H H' : Hp} {v : V} (hc : clsO op F = .rd) (h : astep op F H = some (v, H')) : H' = H := by
  cases op <;> simp only [clsO] at hc <;> first | (cases hc; done) | skip
  case load =>
    simp only [astep] at h
    split at h
    · rename_i vs hvs
      rw [Option.map_eq_some_iff] at h; obtain ⟨x, hx, h⟩ := h; injection h with h1 h2; exact h2.symm
    · cases h
  case b2s =>
    simp only [astep] at h
    split at h
    · split at h
      · cases h
      · rw [Option.map_eq_some_iff] at h; obtain ⟨x, hx, h⟩ := h; injection h with h1 h2; exact h2.symm
    · cases h

end Go.Proofs.Ytihipphpfbnknaa.Am
