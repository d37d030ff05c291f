/- Part 28 of the proof of the laws of the queries: S20f, Sum1, Sum2, Sum3. -/
import Derived.Test.YtjajpilacdfnbaaGreatDoorW25
import Derived.Test.YtjajpilacdfnbaaGreatDoorW26
import Derived.Test.YtjajpilacdfnbaaGreatDoorW27
namespace Go.Proofs.YtjajpilacdfnbaaGreatDoor
open Am C
set_option linter.unusedSimpArgs false
set_option linter.unusedVariables false
def EaInv {α : Type} (ask : α → Int) (cmp : α → α → Int) (enc : α → List V) (l : List α) (f g : Go.FuncId) (H : Hp) (m : Nat) (F : Fr) (X : Hp) : Prop :=
  ∃ i, i ≤ l.length ∧ m = l.length - i ∧ chk ask cmp none l = chk ask cmp (pv l i) (l.drop i) ∧ H.Ext X ∧ (∀ id blk, X.get id = some blk → id < X.next) ∧
    F = [(0, .fs (l.map enc)), (1, .fn f []), (2, .fn g []), (10, .fs (l.map enc)), (11, .i .i64 l.length), (12, .i .i64 i)]
theorem EachObj_ok (l : List Ob) (hl : l.length ≤ 9223372036854775807) (hs : ∀ x ∈ l, obS x) (H : Hp) : AC Tryz.prog n_system_each_api_Obj [.fs (l.map obcs), .fn n_system_object [], .fn n_system_byObj []] H (fun v H' => v = .i .i64 (chk obE cmpO none l) ∧ H' = H) := by
  refine AC.codeP system_each_api_Obj.at system_each_api_Obj.ok (by simp) fun hlt => ?_
  simp only [system_each_api_Obj]
  refine AX.seq (AX.reg ?_)
  simp [system_each_api_Obj.r0]
  refine AX.seq (AX.seq (AX.reg ?_))
  simp [system_each_api_Obj.r1]
  refine AX.pblock (AX.loop (EaInv obE cmpO obcs l n_system_object n_system_byObj H) l.length ⟨_, _, .refl _ _, 0, by omega, by omega, rfl, .refl _, hlt, by simp⟩ ?_)
  rintro m F X ⟨i, hi, rfl, hch, X1, L1, rfl⟩
  simp only [system_each_api_Obj.l0]
  refine AX.seq (AX.reg ?_)
  simp [system_each_api_Obj.r2]
  refine AX.seq (AX.pcond rfl (fun hd => AX.skip ?_) (fun hd => AX.exit ?_))
  case refine_2 =>
    simp at hd
    rw [chk_end hd] at hch
    simp
    refine AX.seq (AX.reg ?_)
    simp [system_each_api_Obj.r10]
    refine AX.ret ?_
    simp [hch]
    exact ⟨X1, .refl _⟩
  simp at hd
  have hx := hs _ (List.getElem_mem hd)
  rw [chk_step hd] at hch
  have hg : l[i]? = some l[i] := List.getElem?_eq_getElem hd
  simp
  generalize l[i] = x at *
  refine AX.seq (AX.pblock (AX.seq (AX.reg ?_)))
  simp [system_each_api_Obj.r3, hg, obcs, mkcs, ss]
  have X4 := X1.trans (ext2 L1 (.cells [.s [], .s [], .sl none 0 0] 3) (.cells [.s x.name, .s x.kinds, .fs (x.marks.map mkcs)] 3))
  have L4 := lt2 L1 (.cells [.s [], .s [], .sl none 0 0] 3) (.cells [.s x.name, .s x.kinds, .fs (x.marks.map mkcs)] 3)
  have G4 : ((X.add (.cells [.s [], .s [], .sl none 0 0] 3)).upd X.next (.cells [.s x.name, .s x.kinds, .fs (x.marks.map mkcs)] 3)).get X.next = some (.cells [.s x.name, .s x.kinds, .fs (x.marks.map mkcs)] 3) := by simp
  generalize (X.add (.cells [.s [], .s [], .sl none 0 0] 3)).upd X.next (.cells [.s x.name, .s x.kinds, .fs (x.marks.map mkcs)] 3) = Z at *
  generalize X.next = id at *
  refine AX.seq (AX.seq (AX.reg ?_))
  simp [system_each_api_Obj.r4, G4]
  refine AC.fix (Sobject_ok x (by have := hx.1; omega) (by have := hx.2.1; omega) (by have := hx.2.2.1; omega) (fun m hm => by have := hx.2.2.2 m hm; omega) _) ?_
  simp
  refine AX.seq (AX.reg ?_)
  simp [system_each_api_Obj.r5]
  refine AX.pcond rfl (fun he => ?_) (fun he => AX.skip ?_)
  · simp at he
    rw [if_pos he] at hch
    refine AX.seq (AX.reg ?_)
    simp [system_each_api_Obj.r6]
    refine AX.ret ?_
    simp [hch]
    exact ⟨X4, .refl _⟩
  simp at he
  rw [if_neg (by simp [he])] at hch
  simp
  refine AX.testD (ordB cmpO (pv l i) x) [(0, .fs (l.map obcs)), (1, .fn n_system_object []), (2, .fn n_system_byObj []), (10, .fs (l.map obcs)), (11, .i .i64 l.length), (12, .i .i64 i), (35, .b (ordB cmpO (pv l i) x))] ?_ rfl (fun hf => ?_) (fun hf => AX.skip ?_)
  · cases i with
    | zero => simp [system_each_api_Obj.r7, pv, ordB]
    | succ j =>
      have hj : l[j]? = some l[j] := List.getElem?_eq_getElem (by omega)
      have hwj : IntKind.i64.wrap (j : Int) = (j : Int) := wrap_i64 (by omega) (by omega)
      have e1 : ordB cmpO (pv l (j + 1)) x = decide (0 ≤ cmpO l[j] x) := by simp [pv, ordB, hj]
      have hy := hs _ (List.getElem_mem (show j < l.length by omega))
      generalize l[j] = y at *
      rw [e1]
      simp [system_each_api_Obj.r7, hwj, hj, hg, G4, obcs, mkcs, ss]
      refine callD_pure _ (fun H2 => byObj_ok y x H2) ?_
      simp [cmpO, obcs]
      all_goals rfl
  · refine AX.seq (AX.reg ?_)
    simp [system_each_api_Obj.r8]
    refine AX.ret ?_
    rw [if_pos hf] at hch
    simp [hch]
    exact ⟨X4, .refl _⟩
  rw [if_neg (by simp [hf])] at hch
  simp
  refine AX.reg ?_
  simp [system_each_api_Obj.r9, succ_of_lt hd hl]
  exact ⟨l.length - (i + 1), by omega, _, _, .refl _ _, i + 1, by omega, rfl, hch, X4, L4, by simp⟩
theorem EachFn_ok (l : List Fu) (hl : l.length ≤ 9223372036854775807) (hs : ∀ x ∈ l, fuS x) (H : Hp) : AC Tryz.prog n_system_each_api_Fn [.fs (l.map fucs), .fn n_system_function [], .fn n_system_byFn []] H (fun v H' => v = .i .i64 (chk fuE cmpF none l) ∧ H' = H) := by
  refine AC.codeP system_each_api_Fn.at system_each_api_Fn.ok (by simp) fun hlt => ?_
  simp only [system_each_api_Fn]
  refine AX.seq (AX.reg ?_)
  simp [system_each_api_Fn.r0]
  refine AX.seq (AX.seq (AX.reg ?_))
  simp [system_each_api_Fn.r1]
  refine AX.pblock (AX.loop (EaInv fuE cmpF fucs l n_system_function n_system_byFn H) l.length ⟨_, _, .refl _ _, 0, by omega, by omega, rfl, .refl _, hlt, by simp⟩ ?_)
  rintro m F X ⟨i, hi, rfl, hch, X1, L1, rfl⟩
  simp only [system_each_api_Fn.l0]
  refine AX.seq (AX.reg ?_)
  simp [system_each_api_Fn.r2]
  refine AX.seq (AX.pcond rfl (fun hd => AX.skip ?_) (fun hd => AX.exit ?_))
  case refine_2 =>
    simp at hd
    rw [chk_end hd] at hch
    simp
    refine AX.seq (AX.reg ?_)
    simp [system_each_api_Fn.r10]
    refine AX.ret ?_
    simp [hch]
    exact ⟨X1, .refl _⟩
  simp at hd
  have hx := hs _ (List.getElem_mem hd)
  rw [chk_step hd] at hch
  have hg : l[i]? = some l[i] := List.getElem?_eq_getElem hd
  simp
  generalize l[i] = x at *
  refine AX.seq (AX.pblock (AX.seq (AX.reg ?_)))
  simp [system_each_api_Fn.r3, hg, fucs, mkcs, ss]
  have X4 := X1.trans (ext2 L1 (.cells [.s [], .s [], .s []] 3) (.cells [.s x.name, .s x.kinds, .s x.ret] 3))
  have L4 := lt2 L1 (.cells [.s [], .s [], .s []] 3) (.cells [.s x.name, .s x.kinds, .s x.ret] 3)
  have G4 : ((X.add (.cells [.s [], .s [], .s []] 3)).upd X.next (.cells [.s x.name, .s x.kinds, .s x.ret] 3)).get X.next = some (.cells [.s x.name, .s x.kinds, .s x.ret] 3) := by simp
  generalize (X.add (.cells [.s [], .s [], .s []] 3)).upd X.next (.cells [.s x.name, .s x.kinds, .s x.ret] 3) = Z at *
  generalize X.next = id at *
  refine AX.seq (AX.seq (AX.reg ?_))
  simp [system_each_api_Fn.r4, G4]
  refine AC.fix (Sfunction_ok x (by have := hx.1; omega) (by have := hx.2; omega) _) ?_
  simp
  refine AX.seq (AX.reg ?_)
  simp [system_each_api_Fn.r5]
  refine AX.pcond rfl (fun he => ?_) (fun he => AX.skip ?_)
  · simp at he
    rw [if_pos he] at hch
    refine AX.seq (AX.reg ?_)
    simp [system_each_api_Fn.r6]
    refine AX.ret ?_
    simp [hch]
    exact ⟨X4, .refl _⟩
  simp at he
  rw [if_neg (by simp [he])] at hch
  simp
  refine AX.testD (ordB cmpF (pv l i) x) [(0, .fs (l.map fucs)), (1, .fn n_system_function []), (2, .fn n_system_byFn []), (10, .fs (l.map fucs)), (11, .i .i64 l.length), (12, .i .i64 i), (35, .b (ordB cmpF (pv l i) x))] ?_ rfl (fun hf => ?_) (fun hf => AX.skip ?_)
  · cases i with
    | zero => simp [system_each_api_Fn.r7, pv, ordB]
    | succ j =>
      have hj : l[j]? = some l[j] := List.getElem?_eq_getElem (by omega)
      have hwj : IntKind.i64.wrap (j : Int) = (j : Int) := wrap_i64 (by omega) (by omega)
      have e1 : ordB cmpF (pv l (j + 1)) x = decide (0 ≤ cmpF l[j] x) := by simp [pv, ordB, hj]
      have hy := hs _ (List.getElem_mem (show j < l.length by omega))
      generalize l[j] = y at *
      rw [e1]
      simp [system_each_api_Fn.r7, hwj, hj, hg, G4, fucs, mkcs, ss]
      refine callD_pure _ (fun H2 => byFn_ok y x H2) ?_
      simp [cmpF, fucs]
      all_goals rfl
  · refine AX.seq (AX.reg ?_)
    simp [system_each_api_Fn.r8]
    refine AX.ret ?_
    rw [if_pos hf] at hch
    simp [hch]
    exact ⟨X4, .refl _⟩
  rw [if_neg (by simp [hf])] at hch
  simp
  refine AX.reg ?_
  simp [system_each_api_Fn.r9, succ_of_lt hd hl]
  exact ⟨l.length - (i + 1), by omega, _, _, .refl _ _, i + 1, by omega, rfl, hch, X4, L4, by simp⟩
theorem EachCon_ok (l : List Cn) (hl : l.length ≤ 9223372036854775807) (hs : ∀ x ∈ l, cnS x) (H : Hp) : AC Tryz.prog n_system_each_api_Con [.fs (l.map cncs), .fn n_system_con [], .fn n_system_Compare []] H (fun v H' => v = .i .i64 (chk cnE cmpC none l) ∧ H' = H) := by
  refine AC.codeP system_each_api_Con.at system_each_api_Con.ok (by simp) fun hlt => ?_
  simp only [system_each_api_Con]
  refine AX.seq (AX.reg ?_)
  simp [system_each_api_Con.r0]
  refine AX.seq (AX.seq (AX.reg ?_))
  simp [system_each_api_Con.r1]
  refine AX.pblock (AX.loop (EaInv cnE cmpC cncs l n_system_con n_system_Compare H) l.length ⟨_, _, .refl _ _, 0, by omega, by omega, rfl, .refl _, hlt, by simp⟩ ?_)
  rintro m F X ⟨i, hi, rfl, hch, X1, L1, rfl⟩
  simp only [system_each_api_Con.l0]
  refine AX.seq (AX.reg ?_)
  simp [system_each_api_Con.r2]
  refine AX.seq (AX.pcond rfl (fun hd => AX.skip ?_) (fun hd => AX.exit ?_))
  case refine_2 =>
    simp at hd
    rw [chk_end hd] at hch
    simp
    refine AX.seq (AX.reg ?_)
    simp [system_each_api_Con.r10]
    refine AX.ret ?_
    simp [hch]
    exact ⟨X1, .refl _⟩
  simp at hd
  have hx := hs _ (List.getElem_mem hd)
  rw [chk_step hd] at hch
  have hg : l[i]? = some l[i] := List.getElem?_eq_getElem hd
  simp
  generalize l[i] = x at *
  refine AX.seq (AX.pblock (AX.seq (AX.reg ?_)))
  simp [system_each_api_Con.r3, hg, cncs, mkcs, ss]
  have X4 := X1.trans (ext2 L1 (.cells [.i .i64 0, .s [], .s [], .i .i64 0, .s [], .sl none 0 0] 6) (.cells [.i .i64 x.op, .s x.a, .s x.b, .i .i64 x.k, .s x.tag, .fs (x.args.map fun a => [.s a])] 6))
  have L4 := lt2 L1 (.cells [.i .i64 0, .s [], .s [], .i .i64 0, .s [], .sl none 0 0] 6) (.cells [.i .i64 x.op, .s x.a, .s x.b, .i .i64 x.k, .s x.tag, .fs (x.args.map fun a => [.s a])] 6)
  have G4 : ((X.add (.cells [.i .i64 0, .s [], .s [], .i .i64 0, .s [], .sl none 0 0] 6)).upd X.next (.cells [.i .i64 x.op, .s x.a, .s x.b, .i .i64 x.k, .s x.tag, .fs (x.args.map fun a => [.s a])] 6)).get X.next = some (.cells [.i .i64 x.op, .s x.a, .s x.b, .i .i64 x.k, .s x.tag, .fs (x.args.map fun a => [.s a])] 6) := by simp
  generalize (X.add (.cells [.i .i64 0, .s [], .s [], .i .i64 0, .s [], .sl none 0 0] 6)).upd X.next (.cells [.i .i64 x.op, .s x.a, .s x.b, .i .i64 x.k, .s x.tag, .fs (x.args.map fun a => [.s a])] 6) = Z at *
  generalize X.next = id at *
  refine AX.seq (AX.seq (AX.reg ?_))
  simp [system_each_api_Con.r4, G4]
  refine AC.fix (con_ok x (by have := hx.1; omega) (by have := hx.2.1; omega) (by have := hx.2.2.1; omega) (by have := hx.2.2.2.1; omega) (fun a ha => by have := hx.2.2.2.2 a ha; omega) _) ?_
  simp
  refine AX.seq (AX.reg ?_)
  simp [system_each_api_Con.r5]
  refine AX.pcond rfl (fun he => ?_) (fun he => AX.skip ?_)
  · simp at he
    rw [if_pos he] at hch
    refine AX.seq (AX.reg ?_)
    simp [system_each_api_Con.r6]
    refine AX.ret ?_
    simp [hch]
    exact ⟨X4, .refl _⟩
  simp at he
  rw [if_neg (by simp [he])] at hch
  simp
  refine AX.testD (ordB cmpC (pv l i) x) [(0, .fs (l.map cncs)), (1, .fn n_system_con []), (2, .fn n_system_Compare []), (10, .fs (l.map cncs)), (11, .i .i64 l.length), (12, .i .i64 i), (35, .b (ordB cmpC (pv l i) x))] ?_ rfl (fun hf => ?_) (fun hf => AX.skip ?_)
  · cases i with
    | zero => simp [system_each_api_Con.r7, pv, ordB]
    | succ j =>
      have hj : l[j]? = some l[j] := List.getElem?_eq_getElem (by omega)
      have hwj : IntKind.i64.wrap (j : Int) = (j : Int) := wrap_i64 (by omega) (by omega)
      have e1 : ordB cmpC (pv l (j + 1)) x = decide (0 ≤ cmpC l[j] x) := by simp [pv, ordB, hj]
      have hy := hs _ (List.getElem_mem (show j < l.length by omega))
      generalize l[j] = y at *
      rw [e1]
      simp [system_each_api_Con.r7, hwj, hj, hg, G4, cncs, mkcs, ss]
      refine callD_pure _ (fun H2 => SCompare_ok y x (by have := hy.2.2.2.1; omega) (by have := hx.2.2.2.1; omega) H2) ?_
      simp [cmpC, cncs]
      all_goals rfl
  · refine AX.seq (AX.reg ?_)
    simp [system_each_api_Con.r8]
    refine AX.ret ?_
    rw [if_pos hf] at hch
    simp [hch]
    exact ⟨X4, .refl _⟩
  rw [if_neg (by simp [hf])] at hch
  simp
  refine AX.reg ?_
  simp [system_each_api_Con.r9, succ_of_lt hd hl]
  exact ⟨l.length - (i + 1), by omega, _, _, .refl _ _, i + 1, by omega, rfl, hch, X4, L4, by simp⟩
theorem SCheck_ok (s : Sy) (hs : syS s) (H : Hp) : AC Tryz.prog n_system_Check [.agg (sycs s)] H (fun v H' => v = .i .i64 (sysE s) ∧ H' = H) := by
  obtain ⟨lo, lf, lc, ho, hf, hcn⟩ := hs
  refine AC.code system_Check.at system_Check.ok ?_
  simp only [system_Check]
  refine AX.seq (AX.reg ?_)
  simp [system_Check.r0, sycs]
  refine AX.seq ?_
  refine AX.test (decide (600 < s.objs.length) || decide (600 < s.fns.length) || decide (6000 < s.cons.length)) [(1, .fp (sycs s) 0), (20, .b (decide (600 < s.objs.length) || decide (600 < s.fns.length) || decide (6000 < s.cons.length)))] ?_ rfl (fun hb => ?_) (fun hb => AX.skip ?_)
  · by_cases h1 : 600 < s.objs.length
    · simp [system_Check.r1, sycs, h1]
    by_cases h2 : 600 < s.fns.length
    · simp [system_Check.r1, sycs, h1, h2]
    · simp [system_Check.r1, sycs, h1, h2]
  · refine AX.seq (AX.reg ?_)
    simp [system_Check.r2]
    refine AX.ret ?_
    simp at hb
    have : 600 < s.objs.length ∨ 600 < s.fns.length ∨ 6000 < s.cons.length := by omega
    simp [sysE, this]
  simp at hb
  have hn : ¬ (600 < s.objs.length ∨ 600 < s.fns.length ∨ 6000 < s.cons.length) := by omega
  have eS : sysE s = orI [chk obE cmpO none s.objs, chk fuE cmpF none s.fns, chk cnE cmpC none s.cons] := by unfold sysE; rw [if_neg hn]
  rw [eS]
  simp
  refine AX.seq (AX.seq (AX.reg ?_))
  simp [system_Check.r3, sycs]
  refine AC.fix (EachObj_ok s.objs (by omega) ho _) ?_
  generalize chk obE cmpO none s.objs = a
  simp
  refine AX.seq (AX.reg ?_)
  simp [system_Check.r4]
  refine AX.pcond rfl (fun hd => ?_) (fun hd => AX.skip ?_)
  · simp at hd
    refine AX.seq (AX.reg ?_)
    simp [system_Check.r5]
    refine AX.ret ?_
    simp [or1 _ _ hd]
  simp at hd
  rw [or0 _ _ hd]
  simp
  refine AX.seq (AX.seq (AX.reg ?_))
  simp [system_Check.r6]
  refine AC.fix (EachFn_ok s.fns (by omega) hf _) ?_
  generalize chk fuE cmpF none s.fns = b
  simp
  refine AX.seq (AX.reg ?_)
  simp [system_Check.r7]
  refine AX.pcond rfl (fun he => ?_) (fun he => AX.skip ?_)
  · simp at he
    refine AX.seq (AX.reg ?_)
    simp [system_Check.r8]
    refine AX.ret ?_
    simp [or1 _ _ he]
  simp at he
  rw [or0 _ _ he]
  simp
  refine AX.seq (AX.reg ?_)
  simp [system_Check.r9]
  refine AC.fix (EachCon_ok s.cons (by omega) hcn _) ?_
  generalize chk cnE cmpC none s.cons = c
  simp
  refine AX.ret ?_
  by_cases h : c = 0 <;> simp [orI, h]
end Go.Proofs.YtjajpilacdfnbaaGreatDoor
namespace Go.Proofs.YtjajpilacdfnbaaGreatDoor
open Am C
set_option linter.unusedSimpArgs false
set_option linter.unusedVariables false
theorem leS_not (a b : Str) : (ltB a b || a == b) = !ltB b a := by
  rcases ltB_tri a b with h | h | h
  · rw [h, ltB_asym h]; rfl
  · subst h
    have : ltB a a = false := by cases hh : ltB a a with | false => rfl | true => exact absurd hh (ltB_irr a)
    rw [this]; simp
  · rw [h, ltB_asym h]
    have : a ≠ b := fun e => by subst e; exact ltB_irr _ h
    simp [this]
def RsInv (l : List Str) (H : Hp) (m : Nat) (F : Fr) (X : Hp) : Prop :=
  ∃ i, 1 ≤ i ∧ (i ≤ l.length ∨ i = 1) ∧ m = l.length + 1 - i ∧ (∀ j, j + 1 < i → ltB (l.getD j []) (l.getD (j + 1) []) = true) ∧ X = H ∧ F = [(0, ss l), (3, .i .i64 i)]
theorem rises_any {fid : Go.FuncId} {fn : Go.Func} (hf : Tryz.prog.funcs[fid]? = some fn) (hok : okFunc Tryz.prog fn summary_rises = true) (l : List Str) (hl : l.length ≤ 9223372036854775000) (H : Hp) : AC Tryz.prog fid [ss l] H (fun v H' => v = .b (risB l) ∧ H' = H) := by
  refine AC.code hf hok ?_
  simp only [summary_rises]
  refine AX.seq (AX.reg ?_)
  simp [summary_rises.r0]
  refine AX.seq (AX.seq (AX.reg ?_))
  simp [summary_rises.r1]
  refine AX.pblock (AX.loop (RsInv l H) l.length ⟨_, _, .refl _ _, 1, by omega, .inr rfl, by omega, by omega, rfl, rfl⟩ ?_)
  rintro m F X ⟨i, h1, hi, rfl, hx, rfl, rfl⟩
  simp only [summary_rises.l0]
  refine AX.seq (AX.seq (AX.reg ?_))
  simp [summary_rises.r2, ss]
  refine AX.pcond rfl (fun hd => AX.skip ?_) (fun hd => AX.exit ?_)
  case refine_2 =>
    simp at hd
    simp
    refine AX.seq (AX.reg ?_)
    simp [summary_rises.r6]
    refine AX.ret ?_
    have : risB l = true := decide_eq_true fun j hj => hx j (by omega)
    simp [this]
  simp at hd
  simp
  have w1 : Go.IntKind.i64.wrap ((i : Int) - 1) = ((i - 1 : Nat) : Int) := by rw [wrap_i64 (by omega) (by omega)]; omega
  have hd1 : i - 1 < l.length := by omega
  refine AX.seq (AX.pblock (AX.seq (AX.drw ?_)))
  simp [summary_rises.r3, hd, w1, hd1]
  refine AX.pcond rfl (fun hb => ?_) (fun hb => AX.skip ?_)
  · refine AX.seq (AX.reg ?_)
    simp [summary_rises.r4]
    refine AX.ret ?_
    have hb' : ltB l[i - 1] l[i] = false := by
      have := leS_not l[i] l[i - 1]
      cases hh : ltB l[i - 1] l[i] with
      | false => rfl
      | true => rw [hh] at this; simp at this hb; simp [this] at hb
    have : risB l = false := decide_eq_false fun hh => by
      have := hh (i - 1) (by omega)
      simp [show i - 1 + 1 = i by omega, hd, hd1, hb'] at this
    simp [this]
  simp
  have hb' : ltB l[i - 1] l[i] = true := by
    have := leS_not l[i] l[i - 1]
    cases hh : ltB l[i - 1] l[i] with
    | true => rfl
    | false => rw [hh] at this; simp at this hb; simp [hb] at this
  refine AX.reg ?_
  simp [summary_rises.r5, i64_succ (i := i) (by omega)]
  refine ⟨l.length + 1 - (i + 1), by omega, _, _, .refl _ _, i + 1, by omega, by omega, rfl, fun j hj => ?_, rfl, by simp [ss]⟩
  by_cases e : j + 1 < i
  · exact hx j e
  · have : j = i - 1 := by omega
    subst this
    simpa [show i - 1 + 1 = i by omega, hd, hd1] using hb'
theorem rises_ok (l : List Str) (hl : l.length ≤ 9223372036854775000) (H : Hp) : AC Tryz.prog n_summary_rises [ss l] H (fun v H' => v = .b (risB l) ∧ H' = H) := rises_any summary_rises.at summary_rises.ok l hl H
theorem idxOb.ok : okFunc Tryz.prog Tryz.f66 (idxF 3 true) = true := by kernel_rfl
theorem conOb.ok : okFunc Tryz.prog Tryz.f29 (conF n_slices_IndexFunc_api_Obj_api_Obj) = true := by kernel_rfl
theorem idxFu.ok : okFunc Tryz.prog Tryz.f67 (idxF 3 true) = true := by kernel_rfl
theorem conFu.ok : okFunc Tryz.prog Tryz.f31 (conF n_slices_IndexFunc_api_Fn_api_Fn) = true := by kernel_rfl
theorem conOb_ok (l : List Ob) (f : Go.FuncId) (caps : List V) (p : Ob → Bool) (hl : l.length ≤ 9223372036854775807) (H : Hp) (hc : ∀ x ∈ l, AC Tryz.prog f (.agg (obcs x) :: caps) H (fun v H' => v = .b (p x) ∧ H' = H)) :
    AC Tryz.prog n_slices_ContainsFunc_api_Obj_api_Obj [.fs (l.map obcs), .fn f caps] H (fun v H' => v = .b (l.any p) ∧ H' = H) :=
  conF_ok slices_ContainsFunc_api_Obj_api_Obj.at conOb.ok (idxF_ok slices_IndexFunc_api_Obj_api_Obj.at idxOb.ok l obcs (fun x _ => rfl) (fun h => by cases h) f caps p hl H hc)
theorem conFu_ok (l : List Fu) (f : Go.FuncId) (caps : List V) (p : Fu → Bool) (hl : l.length ≤ 9223372036854775807) (H : Hp) (hc : ∀ x ∈ l, AC Tryz.prog f (.agg (fucs x) :: caps) H (fun v H' => v = .b (p x) ∧ H' = H)) :
    AC Tryz.prog n_slices_ContainsFunc_api_Fn_api_Fn [.fs (l.map fucs), .fn f caps] H (fun v H' => v = .b (l.any p) ∧ H' = H) :=
  conF_ok slices_ContainsFunc_api_Fn_api_Fn.at conFu.ok (idxF_ok slices_IndexFunc_api_Fn_api_Fn.at idxFu.ok l fucs (fun x _ => rfl) (fun h => by cases h) f caps p hl H hc)
theorem ck11_ok (o : Ob) (id : Nat) (n : Str) (H : Hp) (hb : H.get id = some (.cells [.s n] 1)) : AC Tryz.prog n_summary_Check_1_1 [.agg (obcs o), .p (some (id, 0, 1))] H (fun v H' => v = .b (decide (o.name = n)) ∧ H' = H) := by
  refine AC.code summary_Check_1_1.at summary_Check_1_1.ok ?_
  simp only [summary_Check_1_1]
  refine AX.seq (AX.reg ?_)
  simp [summary_Check_1_1.r0, obcs]
  refine AX.seq (AX.reg ?_)
  simp [summary_Check_1_1.r1, hb]
  refine AX.ret ?_
  simp
theorem ck12_ok (o : Fu) (id : Nat) (n : Str) (H : Hp) (hb : H.get id = some (.cells [.s n] 1)) : AC Tryz.prog n_summary_Check_1_2 [.agg (fucs o), .p (some (id, 0, 1))] H (fun v H' => v = .b (decide (o.name = n)) ∧ H' = H) := by
  refine AC.code summary_Check_1_2.at summary_Check_1_2.ok ?_
  simp only [summary_Check_1_2]
  refine AX.seq (AX.reg ?_)
  simp [summary_Check_1_2.r0, fucs]
  refine AX.seq (AX.reg ?_)
  simp [summary_Check_1_2.r1, hb]
  refine AX.ret ?_
  simp
def suS (s : Su) : Prop := s.name.length ≤ 140737488355328 ∧ s.gives.length ≤ 140737488355328 ∧ s.wants.length ≤ 140737488355328 ∧ s.keeps.length ≤ 140737488355328 ∧ (∀ k ∈ s.keeps, k.length ≤ 140737488355328) ∧ syS s.sys
theorem ck1_ok (s : Su) (hs : suS s) (n : Str) (id : Nat) (H : Hp) (hb : H.get id = some (.cells (sucs s) 7)) : AC Tryz.prog n_summary_Check_1 [.s n, .p (some (id, 0, 7))] H (fun v H' => v = .b (therB s.sys n) ∧ H' = H) := by
  obtain ⟨_, _, _, _, _, q1, q2, _⟩ := hs
  refine AC.codeP summary_Check_1.at summary_Check_1.ok (free_b _) fun hlt => ?_
  simp only [summary_Check_1]
  refine AX.seq (AX.reg ?_)
  simp [summary_Check_1.r0]
  have hne : id ≠ H.next := by have := hlt _ _ hb; omega
  have hb' : (H.add (.cells [.s n] 1)).get id = some (.cells (sucs s) 7) := by simp [hne, hb]
  have hb2 : (H.add (.cells [.s n] 1)).get H.next = some (.cells [.s n] 1) := by simp
  have hE := Hp.Ext.add hlt (.cells [.s n] 1)
  generalize H.add (.cells [.s n] 1) = X at *
  generalize H.next = k at *
  refine AX.seq (AX.join (F1 := [(3, .b (therB s.sys n))]) (H1 := X) (AX.reg ?_) ?_)
  · have h1 := conOb_ok s.sys.objs n_summary_Check_1_1 [.p (some (k, 0, 1))] (fun o => decide (o.name = n)) (by omega) X (fun o _ => ck11_ok o k n X hb2)
    have h2 := conFu_ok s.sys.fns n_summary_Check_1_2 [.p (some (k, 0, 1))] (fun o => decide (o.name = n)) (by omega) X (fun o _ => ck12_ok o k n X hb2)
    simp [summary_Check_1.r1, hb', sucs]
    refine AC.fix h1 ?_
    by_cases ha : s.sys.objs.any (fun o => decide (o.name = n)) = true
    · simp [ha, therB]
    · simp only [Bool.not_eq_true] at ha
      simp [ha, hb', sucs]
      refine AC.fix h2 ?_
      simp [therB, ha]
  refine AX.ret ?_
  simp
  exact ⟨hE, .refl _⟩
theorem ck2_ok (s : Su) (hs : suS s) (n : Str) (id k : Nat) (H : Hp) (hb : H.get id = some (.cells (sucs s) 7)) (hk : H.get k = some (.cells [.fn n_summary_Check_1 [.p (some (id, 0, 7))]] 1)) :
    AC Tryz.prog n_summary_Check_2 [.s n, .p (some (k, 0, 1))] H (fun v H' => v = .b (!therB s.sys n) ∧ H' = H) := by
  refine AC.code summary_Check_2.at summary_Check_2.ok ?_
  simp only [summary_Check_2]
  refine AX.seq (AX.reg ?_)
  simp [summary_Check_2.r0]
  refine AX.seq (AX.reg ?_)
  simp [summary_Check_2.r1, hk]
  refine AC.fix (ck1_ok s hs n id H hb) ?_
  simp
  refine AX.ret ?_
  simp
theorem ck3_ok (s : Su) (hs : suS s) (n : Str) (id : Nat) (H : Hp) (hb : H.get id = some (.cells (sucs s) 7)) : AC Tryz.prog n_summary_Check_3 [.s n, .p (some (id, 0, 7))] H (fun v H' => v = .b (decide (n ∈ s.wants)) ∧ H' = H) := by
  obtain ⟨_, _, q, _⟩ := hs
  refine AC.code summary_Check_3.at summary_Check_3.ok ?_
  simp only [summary_Check_3]
  refine AX.seq (AX.reg ?_)
  simp [summary_Check_3.r0]
  refine AX.seq (AX.reg ?_)
  simp [summary_Check_3.r1, hb, sucs]
  refine AC.fix (Contains_ok s.wants n (by omega) _) ?_
  simp
  refine AX.ret ?_
  simp
theorem ck4_ok (n : Str) (hn : n.length ≤ 140737488355328) (H : Hp) : AC Tryz.prog n_summary_Check_4 [.s n] H (fun v H' => v = .b (!nodeB n) ∧ H' = H) := by
  refine AC.code summary_Check_4.at summary_Check_4.ok ?_
  simp only [summary_Check_4]
  refine AX.seq (AX.reg ?_)
  simp [summary_Check_4.r0]
  refine AX.seq (AX.reg ?_)
  simp [summary_Check_4.r1]
  refine AC.fix (SNode_ok n (by omega) _) ?_
  simp
  refine AX.ret ?_
  simp
end Go.Proofs.YtjajpilacdfnbaaGreatDoor
namespace Go.Proofs.YtjajpilacdfnbaaGreatDoor
open Am C
set_option linter.unusedSimpArgs false
set_option linter.unusedVariables false
theorem any_not {α : Type} (p : α → Bool) (l : List α) : (l.any fun x => !p x) = !l.all p := by
  induction l with
  | nil => rfl
  | cons x r ih => simp [ih, Bool.not_and]
def SckInv (s : Su) (id k : Nat) (X : Hp) (m : Nat) (F : Fr) (Y : Hp) : Prop :=
  ∃ i, i ≤ 2 ∧ m = 2 - i ∧ (0 < i → lstE s.sys s.gives = 0) ∧ (1 < i → lstE s.sys s.wants = 0) ∧ Y = X ∧ F = [(1, .p (some (id, 0, 7))), (4, .p (some (k, 0, 1))), (22, .fs [[ss s.gives], [ss s.wants]]), (23, .i .i64 2), (24, .i .i64 i)]
theorem SumCheck_ok (s : Su) (hs : suS s) (H : Hp) : AC Tryz.prog n_summary_Check [.agg (sucs s)] H (fun v H' => v = .i .i64 (suE s) ∧ H' = H) := by
  have hs' := hs
  obtain ⟨q1, q2, q3, q4, q5, q6⟩ := hs'
  refine AC.codeP summary_Check.at summary_Check.ok (free_i _ _) fun hlt => ?_
  simp only [summary_Check]
  refine AX.seq (AX.reg ?_)
  simp [summary_Check.r0, sucs]
  have hb : (H.add (.cells [.s s.name, ss s.gives, ss s.wants, ss s.keeps, .fs (s.sys.objs.map obcs), .fs (s.sys.fns.map fucs), .fs (s.sys.cons.map cncs)] 7)).get H.next = some (.cells (sucs s) 7) := by simp [sucs]
  have hE := Hp.Ext.add hlt (.cells [.s s.name, ss s.gives, ss s.wants, ss s.keeps, .fs (s.sys.objs.map obcs), .fs (s.sys.fns.map fucs), .fs (s.sys.cons.map cncs)] 7)
  have hL := Hp.add_lt hlt (.cells [.s s.name, ss s.gives, ss s.wants, ss s.keeps, .fs (s.sys.objs.map obcs), .fs (s.sys.fns.map fucs), .fs (s.sys.cons.map cncs)] 7)
  generalize H.add (.cells [.s s.name, ss s.gives, ss s.wants, ss s.keeps, .fs (s.sys.objs.map obcs), .fs (s.sys.fns.map fucs), .fs (s.sys.cons.map cncs)] 7) = X at *
  generalize H.next = id at *
  refine AX.seq (AX.seq (AX.reg ?_))
  simp [summary_Check.r1, hb, sucs]
  refine AC.fix (DName_ok s.name (by omega) _) ?_
  simp
  refine AX.pcond rfl (fun h1 => ?_) (fun h1 => AX.skip ?_)
  · simp at h1
    refine AX.seq (AX.reg ?_)
    simp [summary_Check.r2]
    refine AX.ret ?_
    simp [suE, h1]
    exact ⟨hE, .refl _⟩
  simp at h1
  simp
  refine AX.seq (AX.seq (AX.reg ?_))
  simp [summary_Check.r3, hb, sucs]
  refine AC.fix (SCheck_ok s.sys q6 _) ?_
  simp
  refine AX.seq (AX.reg ?_)
  simp [summary_Check.r4]
  refine AX.pcond rfl (fun h2 => ?_) (fun h2 => AX.skip ?_)
  · simp at h2
    refine AX.seq (AX.reg ?_)
    simp [summary_Check.r5]
    refine AX.ret ?_
    simp [suE, h1, orI, h2]
    exact ⟨hE, .refl _⟩
  simp at h2
  simp
  refine AX.seq (AX.reg ?_)
  simp [summary_Check.r6]
  have hE2 := hE.trans (ext2 hL (.cells [.nf] 1) (.cells [.fn n_summary_Check_1 [.p (some (id, 0, 7))]] 1))
  have hL2 := lt2 hL (.cells [.nf] 1) (.cells [.fn n_summary_Check_1 [.p (some (id, 0, 7))]] 1)
  have hk : ((X.add (.cells [.nf] 1)).upd X.next (.cells [.fn n_summary_Check_1 [.p (some (id, 0, 7))]] 1)).get X.next = some (.cells [.fn n_summary_Check_1 [.p (some (id, 0, 7))]] 1) := by simp
  have hb2 : ((X.add (.cells [.nf] 1)).upd X.next (.cells [.fn n_summary_Check_1 [.p (some (id, 0, 7))]] 1)).get id = some (.cells (sucs s) 7) := by
    have := hL _ _ hb
    simp [show id ≠ X.next by omega, hb]
  generalize (X.add (.cells [.nf] 1)).upd X.next (.cells [.fn n_summary_Check_1 [.p (some (id, 0, 7))]] 1) = Y at *
  generalize X.next = k at *
  refine AX.seq (AX.seq (AX.reg ?_))
  simp [summary_Check.r7, hb2, sucs, repl, show List.range 2 = [0, 1] from rfl]
  refine AX.pblock (AX.loop (SckInv s id k Y) 2 ⟨_, _, .refl _ _, 0, by omega, by omega, by simp, by simp, rfl, rfl⟩ ?_)
  rintro m F Z ⟨i, hi, rfl, hg, hw, rfl, rfl⟩
  simp only [summary_Check.l0]
  refine AX.seq (AX.reg ?_)
  simp [summary_Check.r8]
  refine AX.seq (AX.pcond rfl (fun hd => AX.skip ?_) (fun hd => AX.exit ?_))
  · simp at hd
    obtain ⟨l, hl, hll, hle⟩ : ∃ l : List Str, [[ss s.gives], [ss s.wants]][i]? = some [ss l] ∧ l.length ≤ 140737488355328 ∧ (lstE s.sys l ≠ 0 → suE s = lstE s.sys l) ∧ (lstE s.sys l = 0 → (0 < i + 1 → lstE s.sys s.gives = 0) ∧ (1 < i + 1 → lstE s.sys s.wants = 0)) := by
      match i, hd with
      | 0, _ => exact ⟨s.gives, rfl, q2, fun h => by simp [suE, h1, orI, h2, h], fun h => ⟨fun _ => h, fun h => by omega⟩⟩
      | 1, _ => exact ⟨s.wants, rfl, q3, fun h => by simp [suE, h1, orI, h2, h, hg (by omega)], fun h => ⟨fun _ => hg (by omega), fun _ => h⟩⟩
    simp
    refine AX.seq (AX.pblock (AX.seq (AX.reg ?_)))
    simp [summary_Check.r9, hl]
    refine AX.pblock (AX.seq (AX.reg ?_))
    simp [summary_Check.r10]
    refine AC.fix (rises_ok l (by omega) _) ?_
    simp
    refine AX.pcond rfl (fun h3 => ?_) (fun h3 => ?_)
    · simp at h3
      refine AX.seq (AX.reg ?_)
      simp [summary_Check.r11]
      refine AX.ret ?_
      have : lstE s.sys l = 13 := by simp [lstE, h3]
      simp [hle.1 (by rw [this]; decide), this]
      exact ⟨hE2, .refl _⟩
    simp at h3
    have hcon := ContainsFunc_ok l n_summary_Check_2 [.p (some (k, 0, 1))] (fun n => !therB s.sys n) (by omega) Z fun n _ => ck2_ok s hs n id k Z hb2 hk
    rw [any_not] at hcon
    refine AX.seq (AX.reg ?_)
    simp [summary_Check.r12]
    refine AC.fix hcon ?_
    simp
    refine AX.pcond rfl (fun h4 => ?_) (fun h4 => AX.skip ?_)
    · simp only [Bool.not_eq_true'] at h4
      refine AX.seq (AX.reg ?_)
      simp [summary_Check.r13]
      refine AX.ret ?_
      have : lstE s.sys l = 7 := by simp only [lstE, h3, h4]; rfl
      simp [hle.1 (by rw [this]; decide), this]
      exact ⟨hE2, .refl _⟩
    simp only [Bool.not_eq_false'] at h4
    have h0 : lstE s.sys l = 0 := by simp only [lstE, h3, h4]; rfl
    obtain ⟨n1, n2⟩ := hle.2 h0
    simp
    refine AX.reg ?_
    simp [summary_Check.r14, i64_succ (i := i) (by omega)]
    exact ⟨2 - (i + 1), by omega, _, _, .refl _ _, i + 1, by omega, rfl, n1, n2, rfl, by simp⟩
  simp at hd
  have hg := hg (by omega)
  have hw := hw (by omega)
  simp
  refine AX.seq (AX.pblock (AX.seq (AX.reg ?_)))
  have hcon := ContainsFunc_ok s.gives n_summary_Check_3 [.p (some (id, 0, 7))] (fun n => decide (n ∈ s.wants)) (by omega) Z fun n _ => ck3_ok s hs n id Z hb2
  simp [summary_Check.r15, hb2, sucs]
  refine AC.fix hcon ?_
  generalize hx : (s.gives.any fun n => decide (n ∈ s.wants)) = x
  simp
  refine AX.pcond rfl (fun h5 => ?_) (fun h5 => ?_)
  · subst h5
    refine AX.seq (AX.reg ?_)
    simp [summary_Check.r16]
    refine AX.ret ?_
    simp only [suE, hx]
    simp [h1, orI, h2, hg, hw]
    exact ⟨hE2, .refl _⟩
  subst h5
  refine AX.seq (AX.reg ?_)
  simp [summary_Check.r17, hb2, sucs, ss]
  refine AX.pcond rfl (fun h6 => ?_) (fun h6 => ?_)
  · simp at h6
    refine AX.seq (AX.reg ?_)
    simp [summary_Check.r18]
    refine AX.ret ?_
    simp only [suE, hx]
    simp [h1, orI, h2, hg, hw, h6]
    exact ⟨hE2, .refl _⟩
  simp at h6
  refine AX.seq (AX.reg ?_)
  simp [summary_Check.r19, hb2, sucs]
  refine AC.fix (rises_ok s.keeps (by omega) _) ?_
  simp
  refine AX.pcond rfl (fun h7 => ?_) (fun h7 => ?_)
  · simp at h7
    refine AX.seq (AX.reg ?_)
    simp [summary_Check.r20]
    refine AX.ret ?_
    simp only [suE, hx]
    simp [h1, orI, h2, hg, hw, h7, show ¬ 6000 < s.keeps.length by omega]
    exact ⟨hE2, .refl _⟩
  simp at h7
  have hcon2 := ContainsFunc_ok s.keeps n_summary_Check_4 [] (fun n => !nodeB n) (by omega) Z fun n hn => ck4_ok n (by have := q5 n hn; omega) Z
  rw [any_not] at hcon2
  refine AX.seq (AX.reg ?_)
  simp [summary_Check.r21, hb2, sucs]
  refine AC.fix hcon2 ?_
  generalize hy : s.keeps.all nodeB = y
  simp
  refine AX.pcond rfl (fun h8 => ?_) (fun h8 => AX.skip ?_)
  · simp at h8
    subst h8
    refine AX.seq (AX.reg ?_)
    simp [summary_Check.r22]
    refine AX.ret ?_
    simp only [suE, hx, hy]
    simp [h1, orI, h2, hg, hw, h7, show ¬ 6000 < s.keeps.length by omega]
    exact ⟨hE2, .refl _⟩
  simp at h8
  subst h8
  simp
  refine AX.seq (AX.reg ?_)
  simp [summary_Check.r23]
  refine AX.ret ?_
  simp only [suE, hx, hy]
  simp [h1, orI, h2, hg, hw, h7, show ¬ 6000 < s.keeps.length by omega]
  exact ⟨hE2, .refl _⟩
end Go.Proofs.YtjajpilacdfnbaaGreatDoor
namespace Go.Proofs.YtjajpilacdfnbaaGreatDoor
open Am C
set_option linter.unusedSimpArgs false
set_option linter.unusedVariables false
theorem num_mem (l : List Str) (x : Str) : decide (0 ≤ numV l x) = decide (x ∈ l) := by
  have := @numV_neg l x
  by_cases h : x ∈ l
  · have h2 : ¬ numV l x < 0 := fun e => this.1 e h
    simp [h]; omega
  · have h2 := this.2 h
    simp [h]; omega
end Go.Proofs.YtjajpilacdfnbaaGreatDoor
