/- AM, part 22: all arguments of a law at once, and the way back. -/
import Derived.Test.YtihipphpfbnknaaAm21
import Derived.WalkKit
import Derived.ProofKit
import Derived.OpenShut
import Derived.ChangeOld
import Derived.SizedLaws
namespace Go.Proofs.Ytihipphpfbnknaa.Am
open Go Go.RowKit Go.ChangeShapes Go.WideShapes Go.ChangeAt
set_option linter.unusedSimpArgs false
set_option linter.unusedVariables false

def tysOf (P : Program) (k : Nat) : List TypeId → Option (List Ty)
  | [] => some []
  | t :: ts => match tyOf P k t, tysOf P k ts with
    | some T, some Ts => some (T :: Ts)
    | _, _ => none

def Args : List Ty → List V → Prop
  | [], us => us = []
  | T :: Ts, us => ∃ u us', us = u :: us' ∧ asV T u ∧ Args Ts us'

theorem args_VR {H : Type} {enc : TypeId × Value → H} {P : Program} {w : World} (k : Nat) : ∀ {ts : List TypeId} {Ts : List Ty} {vs : List Value} {ds : List (DataW H)} {ps : List MemPlace} {base : Nat},
    tysOf P k ts = some Ts → (∀ (j : Nat) t v, ts[j]? = some t → vs[j]? = some v → Value.okWide P w .any base t v) →
    DataW.TrodAll enc P w 0 (fun _ => true) true ts vs ds ps → ∃ us, VRs (K.start w) us vs ∧ Args Ts us
  | [], Ts, vs, ds, ps, base, hT, hv, h => by
    obtain ⟨rfl, rfl, rfl⟩ := trodAll_nil h
    simp [tysOf] at hT; subst hT
    exact ⟨[], ⟨rfl, fun j v h => by simp at h⟩, rfl⟩
  | t :: ts, Ts, vs, ds, ps, base, hT, hv, h => by
    obtain ⟨v, vs', d, ds', p, q, rfl, rfl, rfl, h1, h2⟩ := trodAll_cons h
    unfold tysOf at hT
    cases e1 : tyOf P k t with
    | none => simp [e1] at hT
    | some T =>
      cases e2 : tysOf P k ts with
      | none => simp [e1, e2] at hT
      | some Ts' =>
        simp [e1, e2] at hT; subst hT
        obtain ⟨u, r1, a1⟩ := arg_VR k e1 (hv 0 t v rfl rfl) h1
        obtain ⟨us, r2, a2⟩ := args_VR k e2 (fun j t' v' g1 g2 => hv (j + 1) t' v' (by simpa using g1) (by simpa using g2)) h2
        exact ⟨u :: us, (VRs.single r1).append r2, u, us, rfl, a1, a2⟩

theorem args_lt {H : Type} {enc : TypeId × Value → H} {P : Program} {w : World} : ∀ {ts : List TypeId} {vs : List Value} {ds : List (DataW H)} {ps : List MemPlace},
    DataW.TrodAll enc P w 0 (fun _ => true) true ts vs ds ps → ∀ x ∈ ps, x.block < w.heap.size
  | [], vs, ds, ps, h => by
    obtain ⟨rfl, rfl, rfl⟩ := trodAll_nil h
    simp
  | t :: ts, vs, ds, ps, h => by
    obtain ⟨v, vs', d, ds', p, q, rfl, rfl, rfl, h1, h2⟩ := trodAll_cons h
    intro x hx
    rcases List.mem_append.1 hx with hx | hx
    · obtain ⟨m, hm⟩ := h1
      exact DataW.trod_lt m _ _ _ hm x hx
    · exact args_lt h2 x hx

def readableAll (P : Program) (ts : List TypeId) : Bool := ts.all fun t => P.readableRec t && decide (t < P.types.size)

theorem args_back {H : Type} {enc : TypeId × Value → H} {P : Program} (hl : laidOutB P = true) {w w' : World} (hb : Below w.heap.size w w') : ∀ {ts : List TypeId} {vs : List Value} {ds : List (DataW H)} {ps : List MemPlace},
    readableAll P ts = true → DataW.TrodAll enc P w 0 (fun _ => true) true ts vs ds ps → DataW.TrodAll enc P w' 0 (fun b => decide (b < w.heap.size)) true ts vs ds ps
  | [], vs, ds, ps, hr, h => by
    obtain ⟨rfl, rfl, rfl⟩ := trodAll_nil h
    rfl
  | t :: ts, vs, ds, ps, hr, h => by
    have hlt := args_lt h
    obtain ⟨v, vs', d, ds', p, q, rfl, rfl, rfl, h1, h2⟩ := trodAll_cons h
    simp only [readableAll, List.all_cons, Bool.and_eq_true, decide_eq_true_eq] at hr
    refine trodAll_cons_mk (Below.trod hl hr.1.1 hr.1.2 h1 hb (fun x hx => hlt x (by simp [hx]))) (args_back hl hb ?_ h2)
    unfold readableAll
    exact hr.2

end Go.Proofs.Ytihipphpfbnknaa.Am
