/- The row of the law ForestOrder: the given statement, out of the walk of its AM code. -/
import Derived.Test.YtihipphpfbnknaaRows
import Derived.Test.YtihipphpfbnknaaForW8
import Derived.Test.YtihipphpfbnknaaAm22
namespace Go.Proofs.Ytihipphpfbnknaa.forestOrder
open Go Go.RowKit Go.ChangeShapes Go.WideShapes Go.ChangeAt Go.Proofs.Ytihipphpfbnknaa.Am
set_option linter.unusedVariables false
theorem own : ownKnob Try.prog.godebug = none := by kernel_rfl
theorem laidOut : laidOutB Try.prog = true := by kernel_rfl
set_option maxRecDepth 100000 in
theorem lifted (os : Os) (started : os.Started) (H : Type) (enc : TypeId × Value → H) :
    ReturnsInHanded {} Try.checked os 9 .any (Rows.forestOrderSpec.pre6 enc Try.prog Try.f9 Rows.forestOrderRow.domain false) (Rows.forestOrderSpec.post enc Try.prog Try.f9 false true false false) := by
  refine returnsInHanded_of_change_sized (C := Try.checked) own started (by kernel_rfl) Try.func9
    (ChangeSpec.witness6 (enc := enc) (C := Try.checked) false ⟨#[], #[.int .i64 0, .slice none 0 0], []⟩ 8 (by kernel_rfl) (by kernel_rfl) (by kernel_rfl) (by kernel_rfl)) ?_
  intro W base args ds gs before hval0 hW hcnd hsz0 _
  have hval : ∀ (j : Nat) t v, Try.f9.params[j]? = some t → args[j]? = some v → Value.okWide Try.prog W .any base t v := hval0
  have hW' := hW
  obtain ⟨p, q, hA0, hV, rfl, hfz, hnd⟩ := hW
  have hA : DataW.TrodAll enc Try.prog W 0 (fun _ => true) true Try.f9.params.toList args.toList ds p := hA0
  rw [Try.params9] at hA hval
  obtain ⟨rfl, rfl⟩ := trodVars_none hV
  obtain ⟨us, ru, au⟩ := args_VR 12 (ts := [3, 39]) (Ts := [(.int .i64), (.sl (.st (List.replicate 2 (.int .i64))))]) (by kernel_rfl) (fun j t v h1 h2 => hval j t v (by simpa using h1) (by simpa using h2)) hA
  have hlt := args_lt hA
  have key := walk_of_AC (ForestOrder_all us au) ru
  rw [Array.toArray_toList] at key
  refine key.mono fun e W' ⟨he, bel⟩ => ?_
  subst he
  have hB := args_back laidOut bel (ts := [3, 39]) (by kernel_rfl) hA
  obtain ⟨v0, vs0, d0, ds0, p0, q0, hargs, rfl, rfl, h0, r0⟩ := trodAll_cons hA
  obtain ⟨v1, vs1, d1, ds1, p1, q1, rfl, rfl, rfl, h1, r1⟩ := trodAll_cons r0
  obtain ⟨rfl, rfl, rfl⟩ := trodAll_nil r1
  exact ⟨_, rfl, _, _, _, [], _, [], hW', trodAll_mk1 (shut_bool Try.underlying4 _), hB, rfl, bel.frame _, fun h => by cases h⟩
theorem over : Rows.forestOrderRow.holds Try.pinned (OpenSpec.ofChange Rows.forestOrderSpec) :=
  OpenClaim.holds_of_wide 9 Try.f9 rfl rfl rfl rfl rfl rfl rfl ⟨rfl, rfl, rfl, rfl, rfl⟩ rfl rfl rfl rfl rfl (by kernel_rfl) Try.func9 (by kernel_rfl)
    (of_decide_eq_true (by kernel_rfl)) (by unfold Func.isWrapper; first | (rw [if_pos (by decide +kernel)]; kernel_rfl) | (rw [if_neg (by decide +kernel)]; exact ⟨rfl, rfl⟩))
    (fun os started H enc _ => lifted os started H enc)
theorem proved : Rows.ForestOrderSaid := over
#print axioms proved
end Go.Proofs.Ytihipphpfbnknaa.forestOrder
namespace Go.Proofs.Ytihipphpfbnknaa
/-- The row, under a short name, for the claim. -/
theorem forestOrder_holds : Rows.ForestOrderSaid := forestOrder.proved
end Go.Proofs.Ytihipphpfbnknaa
