/- The law SymbolsResolve: its row, and its card: the statement SymbolsResolveCardSaid, without any condition. -/
import Derived.Test.YtjajpilacdfnbaaGreatDoorZ7
namespace Go.Proofs.YtjajpilacdfnbaaGreatDoor.symbolsResolve
open Go Go.RowKit Go.ChangeShapes Go.WideShapes Go.ChangeAt Go.Proofs.YtjajpilacdfnbaaGreatDoor.Am
set_option linter.unusedVariables false
def ykf : Array Value := #[.slice none 0 0]
theorem yha (os : Os) {H : Type} (enc : TypeId × Value → H) :
    (OpenSpec.ofChange Rows.symbolsResolveSpec).preRow enc Tryz.prog Tryz.f3 Rows.symbolsResolveRow.domain false Rows.symbolsResolveRow.laid ((rw.laidWorld os).forCall (fun _ _ => 0) ⟨#[], ykf, []⟩).memory ykf := by
  have hw : (DataW.whole enc Tryz.prog ((rw.laidWorld os).forCall (fun _ _ => 0) ⟨#[], ykf, []⟩).memory Tryz.f3.params.toList (OpenSpec.ofChange Rows.symbolsResolveSpec).vars false ykf.toList 8).map (fun x => (x.1, x.2.1)) =
      some ([.nil], []) := by kernel_rfl
  obtain ⟨⟨x1, x2, x3⟩, hx, hx1⟩ := Option.map_eq_some_iff.1 hw
  simp only [Prod.mk.injEq] at hx1
  obtain ⟨rfl, rfl⟩ := hx1
  exact OpenSpec.preRow_of_cond 8 hx (by kernel_rfl) (fun k hk => by cases hk) (by kernel_rfl) (rw.laid_met os _)
set_option maxRecDepth 100000 in
theorem lifted (os : Os) (started : os.Started) (H : Type) (enc : TypeId × Value → H) (F : Stop.Interp) :
    ReturnsInHanded {} Tryz.checked os 3 .any ((OpenSpec.ofChange Rows.symbolsResolveSpec).preRow enc Tryz.prog Tryz.f3 Rows.symbolsResolveRow.domain false Rows.symbolsResolveRow.laid) (((OpenSpec.ofChange Rows.symbolsResolveSpec).at F).post enc Tryz.prog Tryz.f3 false true false false) := by
  refine returnsInHanded_of_row (C := Tryz.checked) (s := OpenSpec.ofChange Rows.symbolsResolveSpec) rw.own started (by kernel_rfl) Tryz.func3
    (witness_row_atRef (enc := enc) (C := Tryz.checked) false (rw.laidWorld os) ykf rfl (by kernel_rfl) (by kernel_rfl) (by kernel_rfl) (yha os enc)) ?_
  intro W base args ds gs y44 hval0 hW hcnd _ hsz hL _ _
  have hval : ∀ (j : Nat) t v, Tryz.f3.params[j]? = some t → args[j]? = some v → Value.okWide Tryz.prog W .any base t v := hval0
  have hW' := hW
  obtain ⟨p, q, hA0, hV, rfl, hfz, hnd⟩ := hW
  have hA : DataW.TrodAll enc Tryz.prog W 0 (fun _ => true) true Tryz.f3.params.toList args.toList ds p := hA0
  rw [Tryz.params3] at hA hval
  obtain ⟨rfl, rfl⟩ := trodVars_none hV
  have hsz1 : (DataW.weightsEach Tryz.prog Tryz.f3.params.toList ds).all (· ≤ reachBytes) = true := by
    have h : (DataW.weightsEach Tryz.prog (Tryz.f3.params.toList ++ []) (ds ++ [])).all (· ≤ reachBytes) = true := hsz
    rwa [List.append_nil, List.append_nil] at h
  rw [Tryz.params3] at hsz1
  obtain ⟨us, ru, au⟩ := yjc 12 (ts := [22]) (Ts := [.sl TSu]) (by kernel_rfl) (fun j t v h1 h2 => hval j t v (by simpa using h1) (by simpa using h2)) hA
    (fun m hm => by
      have := List.all_eq_true.1 hsz1 m hm
      have h2 : m ≤ reachBytes := by simpa using this
      exact h2)
  have hlt := yi1 hA
  have key := yjg (yby us au) ru (rw.tb_of hL)
  rw [Array.toArray_toList] at key
  refine key.mono fun e W' ⟨he, bel⟩ => ?_
  subst he
  have hB := yh2 rw.laidOut bel (ts := [22]) (by kernel_rfl) hA
  obtain ⟨v0, vs0, d0, ds0, p0, q0, hargs, rfl, rfl, h0, r0⟩ := trodAll_cons hA
  obtain ⟨rfl, rfl, rfl⟩ := trodAll_nil r0
  exact ⟨_, rfl, _, _, _, [], _, [], hW', trodAll_mk1 (shut_bool Tryz.underlying4 _), hB, rfl, bel.frame _, fun h => by cases h⟩
theorem said : Rows.SymbolsResolveSaid :=
  OpenClaim.holds_of_cond 3 Tryz.f3 rfl rfl rfl rfl rfl rfl rfl ⟨rfl, rfl, rfl, rfl, rfl⟩ rfl rfl rfl rfl rfl (by kernel_rfl) Tryz.func3 (by kernel_rfl)
    (of_decide_eq_true (by kernel_rfl)) (by unfold Func.isWrapper; first | (rw [if_pos (by decide +kernel)]; kernel_rfl) | (rw [if_neg (by decide +kernel)]; exact ⟨rfl, rfl⟩))
    (fun os started H enc _ F => by rw [OpenClaim.pre_eq_preRow]; exact lifted os started H enc F)
theorem plain (f : FuncId) (fn : Func) (hf : Tryz.pinned.checked.prog.funcNamed "weft/weftlaw28.SymbolsResolve" = some f) (hfn : Tryz.pinned.checked.prog.funcs[f]? = some fn) :
    true = Tryz.pinned.checked.prog.looks [] ∧ ∀ (j : Nat) t, fn.params[j]? = some t → Tryz.pinned.checked.prog.wantsStandIn t = false := by
  obtain rfl : f = 3 := Option.some.inj ((show Tryz.prog.funcNamed "weft/weftlaw28.SymbolsResolve" = some 3 by kernel_rfl).symm.trans hf) |>.symm
  obtain rfl : fn = Tryz.f3 := (Option.some.inj (Tryz.func3.symm.trans hfn)).symm
  refine ⟨by kernel_rfl, fun j t ht => ?_⟩
  rw [Tryz.params3] at ht
  obtain rfl : t = 22 := by simpa using Array.mem_of_getElem? ht
  exact (show Tryz.prog.wantsStandIn 22 = false by kernel_rfl)
theorem card : Rows.SymbolsResolveCardSaid :=
  Claim7.holds_tied_plain_at .later [] _ _ _ _ said (fun _ h => by cases h) (by kernel_rfl) (fun _ h => by cases h) symbolsResolve_row_tie rfl ⟨rfl, rfl⟩ (by kernel_rfl) rfl plain (by kernel_rfl)
end Go.Proofs.YtjajpilacdfnbaaGreatDoor.symbolsResolve
namespace Go.Proofs.YtjajpilacdfnbaaGreatDoor
theorem symbolsResolve_holds : Rows.SymbolsResolveCardSaid := symbolsResolve.card
end Go.Proofs.YtjajpilacdfnbaaGreatDoor
