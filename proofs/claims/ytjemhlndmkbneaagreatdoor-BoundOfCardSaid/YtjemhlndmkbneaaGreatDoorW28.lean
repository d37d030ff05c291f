/- Part 28 of the proof of the laws of the queries: S15g, S15h, S20f, S20g. -/
import Derived.Test.YtjemhlndmkbneaaGreatDoorW25
import Derived.Test.YtjemhlndmkbneaaGreatDoorW26
import Derived.Test.YtjemhlndmkbneaaGreatDoorW27
namespace Go.Proofs.YtjemhlndmkbneaaGreatDoor
open Am C
set_option linter.unusedSimpArgs false
set_option linter.unusedVariables false
def obS (o : Ob) : Prop := o.name.length ≤ 140737488355328 ∧ o.kinds.length ≤ 140737488355328 ∧ o.marks.length ≤ 140737488355328 ∧ ∀ m ∈ o.marks, m.tag.length ≤ 140737488355328
def fuS (f : Fu) : Prop := f.name.length ≤ 140737488355328 ∧ f.kinds.length ≤ 140737488355328
def cnS (c : Cn) : Prop := c.a.length ≤ 140737488355328 ∧ c.b.length ≤ 140737488355328 ∧ c.tag.length ≤ 140737488355328 ∧ c.args.length ≤ 1000000 ∧ ∀ a ∈ c.args, a.length ≤ 140737488355328
def syS (s : Sy) : Prop := s.objs.length ≤ 1000000 ∧ s.fns.length ≤ 1000000 ∧ s.cons.length ≤ 1000000 ∧ (∀ o ∈ s.objs, obS o) ∧ (∀ f ∈ s.fns, fuS f) ∧ ∀ c ∈ s.cons, cnS c
def pv {α : Type} (l : List α) (i : Nat) : Option α := if i = 0 then none else l[i - 1]?
def ordB {α : Type} (cmp : α → α → Int) (p : Option α) (x : α) : Bool := match p with
  | some y => decide (0 ≤ cmp y x)
  | none => false
theorem chk_step {α : Type} {ask : α → Int} {cmp : α → α → Int} {l : List α} {i : Nat} (h : i < l.length) :
    chk ask cmp (pv l i) (l.drop i) = if ask l[i] ≠ 0 then ask l[i] else if ordB cmp (pv l i) l[i] then 13 else chk ask cmp (pv l (i + 1)) (l.drop (i + 1)) := by
  rw [List.drop_eq_getElem_cons h]
  have : pv l (i + 1) = some l[i] := by simp [pv, h]
  rw [this]
  rfl
theorem chk_end {α : Type} {ask : α → Int} {cmp : α → α → Int} {l : List α} {i : Nat} (h : l.length ≤ i) : chk ask cmp (pv l i) (l.drop i) = 0 := by
  rw [List.drop_eq_nil_of_le h]
  cases pv l i <;> rfl
theorem ge_cmp (a b : Str) : decide (0 ≤ cmpS a b) = !ltB a b := by
  unfold cmpS
  cases h : ltB a b
  · by_cases e : a = b <;> simp [e]
  · simp
def ChInv {α : Type} (ask : α → Int) (cmp : α → α → Int) (l : List α) (s : Sy) (t : Nat) (H : Hp) (m : Nat) (F : Fr) (X : Hp) : Prop :=
  ∃ i, i ≤ l.length ∧ m = l.length - i ∧ chk ask cmp none l = chk ask cmp (pv l i) (l.drop i) ∧ X = H ∧ F = [(1, .fp (sycs s) 0), (t, .i .i64 i)]
theorem or0 (x : Int) (r : List Int) (h : x = 0) : orI (x :: r) = orI r := by simp [orI, h]
theorem or1 (x : Int) (r : List Int) (h : ¬ x = 0) : orI (x :: r) = x := by simp [orI, h]
theorem RCheck_ok (s : Sy) (hs : syS s) (H : Hp) : AC Tryz.prog n_weftref15_Check [.agg (sycs s)] H (fun v H' => v = .i .i64 (sysE s) ∧ H' = H) := by
  obtain ⟨lo, lf, lc, ho, hf, hcn⟩ := hs
  refine AC.code weftref15_Check.at weftref15_Check.ok ?_
  simp only [weftref15_Check]
  refine AX.seq (AX.reg ?_)
  simp [weftref15_Check.r0, sycs]
  refine AX.seq ?_
  refine AX.test (decide (600 < s.objs.length) || decide (600 < s.fns.length) || decide (6000 < s.cons.length)) [(1, .fp (sycs s) 0), (24, .b (decide (600 < s.objs.length) || decide (600 < s.fns.length) || decide (6000 < s.cons.length)))] ?_ rfl (fun hb => ?_) (fun hb => AX.skip ?_)
  · by_cases h1 : 600 < s.objs.length
    · simp [weftref15_Check.r1, sycs, h1]
    by_cases h2 : 600 < s.fns.length
    · simp [weftref15_Check.r1, sycs, h1, h2]
    · simp [weftref15_Check.r1, sycs, h1, h2]
  · refine AX.seq (AX.reg ?_)
    simp [weftref15_Check.r2]
    refine AX.ret ?_
    simp at hb
    have : 600 < s.objs.length ∨ 600 < s.fns.length ∨ 6000 < s.cons.length := by omega
    simp [sysE, this]
  simp at hb
  have hn : ¬ (600 < s.objs.length ∨ 600 < s.fns.length ∨ 6000 < s.cons.length) := by omega
  have eS : sysE s = orI [chk obE cmpO none s.objs, chk fuE cmpF none s.fns, chk cnE cmpC none s.cons] := by unfold sysE; rw [if_neg hn]
  rw [eS]
  simp
  refine AX.seq (AX.seq (AX.reg ?_))
  simp [weftref15_Check.r3]
  refine AX.pblock (AX.loop (ChInv obE cmpO s.objs s 3 H) s.objs.length ⟨_, _, .refl _ _, 0, by omega, by omega, rfl, rfl, by simp [sycs]⟩ ?_)
  rintro m F X ⟨i, hi, rfl, hch, hX, rfl⟩
  obtain rfl := hX.symm
  simp only [weftref15_Check.l0]
  refine AX.seq (AX.seq (AX.reg ?_))
  simp [weftref15_Check.r4, sycs]
  refine AX.pcond rfl (fun hc => AX.skip ?_) (fun hc => AX.exit ?_)
  · simp at hc
    have hx := ho _ (List.getElem_mem hc)
    rw [chk_step hc] at hch
    have hg : s.objs[i]? = some s.objs[i] := List.getElem?_eq_getElem hc
    simp
    refine AX.seq (AX.pblock (AX.seq (AX.reg ?_)))
    generalize hxx : s.objs[i] = x at *
    simp [weftref15_Check.r5, hg, obcs]
    refine AC.fix (Robject_ok x (by have := hx.1; omega) (by have := hx.2.1; omega) (by have := hx.2.2.1; omega) (fun m hm => by have := hx.2.2.2 m hm; omega) _) ?_
    simp
    refine AX.seq (AX.seq (AX.reg ?_))
    simp [weftref15_Check.r6]
    refine AX.pcond rfl (fun hd => ?_) (fun hd => AX.skip ?_)
    · simp at hd
      rw [if_pos hd] at hch
      refine AX.seq (AX.reg ?_)
      simp [weftref15_Check.r7]
      refine AX.ret ?_
      simp
      simp [hch, or1 _ _ hd]
    simp at hd
    rw [if_neg (by simp [hd])] at hch
    simp
    refine AX.testD (ordB cmpO (pv s.objs i) x) [(1, .fp (sycs s) 0), (3, .i .i64 i), (58, .b (ordB cmpO (pv s.objs i) x))] ?_ rfl (fun he => ?_) (fun he => AX.skip ?_)
    · cases i with
      | zero => simp [weftref15_Check.r8, sycs, pv, ordB]
      | succ j =>
        have hj : s.objs[j]? = some s.objs[j] := List.getElem?_eq_getElem (by omega)
        have hwj : IntKind.i64.wrap (j : Int) = (j : Int) := wrap_i64 (by omega) (by omega)
        have e1 : ordB cmpO (pv s.objs (j + 1)) x = decide (0 ≤ cmpO s.objs[j] x) := by simp [pv, ordB, hj]
        have hy := ho _ (List.getElem_mem (show j < s.objs.length by omega))
        generalize s.objs[j] = y at *
        rw [e1, show cmpO y x = cmpS y.name x.name from rfl, ge_cmp]
        simp [weftref15_Check.r8, sycs, obcs, hwj, hj, hg, show (0 : Int) ≤ (j : Int) + 1 by omega]
    · refine AX.seq (AX.reg ?_)
      simp [weftref15_Check.r9]
      refine AX.ret ?_
      rw [if_pos he] at hch
      simp
      simp [hch, orI]
    rw [if_neg (by simp [he])] at hch
    simp
    refine AX.reg ?_
    simp [weftref15_Check.r10, succ_of_lt hc (show s.objs.length ≤ 9223372036854775807 by omega)]
    exact ⟨s.objs.length - (i + 1), by omega, _, _, .refl _ _, i + 1, by omega, rfl, hch, rfl, by simp [sycs]⟩
  simp at hc
  rw [chk_end hc] at hch
  simp
  have h0 := hch
  clear hch
  refine AX.seq (AX.seq (AX.reg ?_))
  simp [weftref15_Check.r11]
  refine AX.pblock (AX.loop (ChInv fuE cmpF s.fns s 5 H) s.fns.length ⟨_, _, .refl _ _, 0, by omega, by omega, rfl, rfl, by simp [sycs]⟩ ?_)
  rintro m F X ⟨i, hi, rfl, hch, hX, rfl⟩
  obtain rfl := hX.symm
  simp only [weftref15_Check.l1]
  refine AX.seq (AX.seq (AX.reg ?_))
  simp [weftref15_Check.r12, sycs]
  refine AX.pcond rfl (fun hc => AX.skip ?_) (fun hc => AX.exit ?_)
  · simp at hc
    have hx := hf _ (List.getElem_mem hc)
    rw [chk_step hc] at hch
    have hg : s.fns[i]? = some s.fns[i] := List.getElem?_eq_getElem hc
    simp
    refine AX.seq (AX.pblock (AX.seq (AX.reg ?_)))
    generalize hxx : s.fns[i] = x at *
    simp [weftref15_Check.r13, hg, fucs]
    refine AC.fix (Rfunction_ok x (by have := hx.1; omega) (by have := hx.2; omega) _) ?_
    simp
    refine AX.seq (AX.seq (AX.reg ?_))
    simp [weftref15_Check.r14]
    refine AX.pcond rfl (fun hd => ?_) (fun hd => AX.skip ?_)
    · simp at hd
      rw [if_pos hd] at hch
      refine AX.seq (AX.reg ?_)
      simp [weftref15_Check.r15]
      refine AX.ret ?_
      simp
      rw [or0 _ _ h0]
      simp [hch, or1 _ _ hd]
    simp at hd
    rw [if_neg (by simp [hd])] at hch
    simp
    refine AX.testD (ordB cmpF (pv s.fns i) x) [(1, .fp (sycs s) 0), (5, .i .i64 i), (92, .b (ordB cmpF (pv s.fns i) x))] ?_ rfl (fun he => ?_) (fun he => AX.skip ?_)
    · cases i with
      | zero => simp [weftref15_Check.r16, sycs, pv, ordB]
      | succ j =>
        have hj : s.fns[j]? = some s.fns[j] := List.getElem?_eq_getElem (by omega)
        have hwj : IntKind.i64.wrap (j : Int) = (j : Int) := wrap_i64 (by omega) (by omega)
        have e1 : ordB cmpF (pv s.fns (j + 1)) x = decide (0 ≤ cmpF s.fns[j] x) := by simp [pv, ordB, hj]
        have hy := hf _ (List.getElem_mem (show j < s.fns.length by omega))
        generalize s.fns[j] = y at *
        rw [e1, show cmpF y x = cmpS y.name x.name from rfl, ge_cmp]
        simp [weftref15_Check.r16, sycs, fucs, hwj, hj, hg, show (0 : Int) ≤ (j : Int) + 1 by omega]
    · refine AX.seq (AX.reg ?_)
      simp [weftref15_Check.r17]
      refine AX.ret ?_
      rw [if_pos he] at hch
      simp
      rw [or0 _ _ h0]
      simp [hch, orI]
    rw [if_neg (by simp [he])] at hch
    simp
    refine AX.reg ?_
    simp [weftref15_Check.r18, succ_of_lt hc (show s.fns.length ≤ 9223372036854775807 by omega)]
    exact ⟨s.fns.length - (i + 1), by omega, _, _, .refl _ _, i + 1, by omega, rfl, hch, rfl, by simp [sycs]⟩
  simp at hc
  rw [chk_end hc] at hch
  simp
  have h1 := hch
  clear hch
  refine AX.seq (AX.seq (AX.reg ?_))
  simp [weftref15_Check.r19]
  refine AX.pblock (AX.loop (ChInv cnE cmpC s.cons s 7 H) s.cons.length ⟨_, _, .refl _ _, 0, by omega, by omega, rfl, rfl, by simp [sycs]⟩ ?_)
  rintro m F X ⟨i, hi, rfl, hch, hX, rfl⟩
  obtain rfl := hX.symm
  simp only [weftref15_Check.l2]
  refine AX.seq (AX.seq (AX.reg ?_))
  simp [weftref15_Check.r20, sycs]
  refine AX.pcond rfl (fun hc => AX.skip ?_) (fun hc => AX.exit ?_)
  · simp at hc
    have hx := hcn _ (List.getElem_mem hc)
    rw [chk_step hc] at hch
    have hg : s.cons[i]? = some s.cons[i] := List.getElem?_eq_getElem hc
    simp
    refine AX.seq (AX.pblock (AX.seq (AX.reg ?_)))
    generalize hxx : s.cons[i] = x at *
    simp [weftref15_Check.r21, hg, cncs]
    refine AC.fix (RCon_ok x (by have := hx.1; omega) (by have := hx.2.1; omega) (by have := hx.2.2.1; omega) (by have := hx.2.2.2.1; omega) (fun a ha => by have := hx.2.2.2.2 a ha; omega) _) ?_
    simp
    refine AX.seq (AX.seq (AX.reg ?_))
    simp [weftref15_Check.r22]
    refine AX.pcond rfl (fun hd => ?_) (fun hd => AX.skip ?_)
    · simp at hd
      rw [if_pos hd] at hch
      refine AX.seq (AX.reg ?_)
      simp [weftref15_Check.r23]
      refine AX.ret ?_
      simp
      rw [or0 _ _ h0, or0 _ _ h1]
      simp [hch, or1 _ _ hd]
    simp at hd
    rw [if_neg (by simp [hd])] at hch
    simp
    refine AX.testD (ordB cmpC (pv s.cons i) x) [(1, .fp (sycs s) 0), (7, .i .i64 i), (125, .b (ordB cmpC (pv s.cons i) x))] ?_ rfl (fun he => ?_) (fun he => AX.skip ?_)
    · cases i with
      | zero => simp [weftref15_Check.r24, sycs, pv, ordB]
      | succ j =>
        have hj : s.cons[j]? = some s.cons[j] := List.getElem?_eq_getElem (by omega)
        have hwj : IntKind.i64.wrap (j : Int) = (j : Int) := wrap_i64 (by omega) (by omega)
        have e1 : ordB cmpC (pv s.cons (j + 1)) x = decide (0 ≤ cmpC s.cons[j] x) := by simp [pv, ordB, hj]
        have hy := hcn _ (List.getElem_mem (show j < s.cons.length by omega))
        generalize s.cons[j] = y at *
        rw [e1]
        simp [weftref15_Check.r24, sycs, cncs, hwj, hj, hg, show (0 : Int) ≤ (j : Int) + 1 by omega]
        refine callD_pure _ (fun H2 => RCompare_ok y x (by have := hy.2.2.2.1; omega) (by have := hx.2.2.2.1; omega) H2) ?_
        simp [sycs, cncs]
    · refine AX.seq (AX.reg ?_)
      simp [weftref15_Check.r25]
      refine AX.ret ?_
      rw [if_pos he] at hch
      simp
      rw [or0 _ _ h0, or0 _ _ h1]
      simp [hch, orI]
    rw [if_neg (by simp [he])] at hch
    simp
    refine AX.reg ?_
    simp [weftref15_Check.r26, succ_of_lt hc (show s.cons.length ≤ 9223372036854775807 by omega)]
    exact ⟨s.cons.length - (i + 1), by omega, _, _, .refl _ _, i + 1, by omega, rfl, hch, rfl, by simp [sycs]⟩
  simp at hc
  rw [chk_end hc] at hch
  simp
  refine AX.seq (AX.reg ?_)
  simp [weftref15_Check.r27]
  refine AX.ret ?_
  simp [h0, h1, hch, orI]
end Go.Proofs.YtjemhlndmkbneaaGreatDoor
namespace Go.Proofs.YtjemhlndmkbneaaGreatDoor
open Am C
set_option linter.unusedSimpArgs false
set_option linter.unusedVariables false
theorem chk_all {α : Type} {ask : α → Int} {cmp : α → α → Int} : ∀ {l : List α} {p : Option α}, chk ask cmp p l = 0 → ∀ x ∈ l, ask x = 0
  | [], _, _, x, hx => by cases hx
  | a :: r, p, h, x, hx => by
    rw [show chk ask cmp p (a :: r) = if ask a ≠ 0 then ask a else if ordB cmp p a then 13 else chk ask cmp (some a) r from rfl] at h
    split at h
    · rename_i h1; exact absurd h h1
    rename_i h1
    split at h
    · exact absurd h (by decide)
    rcases List.mem_cons.1 hx with rfl | hx
    · exact Classical.not_not.1 h1
    · exact chk_all h x hx
theorem or_zero {x : Int} {r : List Int} (h : orI (x :: r) = 0) : x = 0 ∧ orI r = 0 := by
  by_cases e : x = 0
  · rw [or0 _ _ e] at h; exact ⟨e, h⟩
  · rw [or1 _ _ e] at h; exact absurd h e
theorem sys_ok {s : Sy} (h : sysE s = 0) : s.objs.length ≤ 600 ∧ s.fns.length ≤ 600 ∧ s.cons.length ≤ 6000 ∧ (∀ o ∈ s.objs, obE o = 0) ∧ (∀ f ∈ s.fns, fuE f = 0) ∧ ∀ c ∈ s.cons, cnE c = 0 := by
  unfold sysE at h
  split at h
  · cases h
  rename_i hn
  obtain ⟨h1, h⟩ := or_zero h
  obtain ⟨h2, h⟩ := or_zero h
  obtain ⟨h3, h⟩ := or_zero h
  exact ⟨by omega, by omega, by omega, chk_all h1, chk_all h2, chk_all h3⟩
theorem ob_kinds {o : Ob} (h : obE o = 0) : o.kinds.length ≤ 64 := by
  unfold obE at h
  cases hr : readN o.name with
  | none => rw [hr] at h; cases h
  | some d =>
    rw [hr] at h
    simp only at h
    split at h
    · cases h
    split at h
    · cases h
    rename_i _ h2
    exact (Classical.not_not.1 h2).2.2
theorem cn_args {c : Cn} (h : cnE c = 0) : c.args.length ≤ 7 := by
  rw [cnE_eq] at h
  split at h
  · cases h
  split at h
  · cases h
  split at h
  · split at h
    · rename_i hc
      rw [calledB_eq] at hc
      cases hs : sigS c.tag with
      | none => rw [hs] at hc; cases hc
      | some x =>
        obtain ⟨l, r⟩ := x
        rw [hs] at hc
        simp [sigOk] at hc
        omega
    · cases h
  split at h
  · cases h
  rename_i ha
  rw [Classical.not_not.1 ha]; simp
def sc1 (l : List Str) : List (List V) := l.map fun x => [V.s x]
def cellsP (o : Ob) (all : Bool) (i : Nat) : List Str := ((List.range i).filter (kindAt o all)).map (cellN o.name)
theorem cellsP_succ (o : Ob) (all : Bool) (i : Nat) : cellsP o all (i + 1) = cellsP o all i ++ (if kindAt o all i then [cellN o.name i] else []) := by
  unfold cellsP
  rw [List.range_succ, List.filter_append, List.map_append]
  by_cases h : kindAt o all i <;> simp [h]
theorem cellsP_len (o : Ob) (all : Bool) (i : Nat) : (cellsP o all i).length ≤ i := by
  unfold cellsP
  rw [List.length_map]
  have := List.length_filter_le (kindAt o all) (List.range i)
  simpa using this
def CsInv (o : Ob) (all : Bool) (H : Hp) (m : Nat) (F : Fr) (X : Hp) : Prop :=
  ∃ i v, i ≤ o.kinds.length ∧ m = o.kinds.length - i ∧ Acc H 1 v X (sc1 (cellsP o all i)) ∧ F = [(1, .i .u8 (if all then 0 else 112)), (2, .fp (obcs o) 0), (5, v), (6, .i .i64 i)]
theorem RCells_ok (o : Ob) (all : Bool) (h1 : o.name.length ≤ 9223372036854775807) (h2 : o.kinds.length ≤ 1000000) (H : Hp) : AC Tryz.prog n_weftref15_Cells [.agg (obcs o), .i .u8 (if all then 0 else 112)] H (fun v H' => v = ss (cellsL o all) ∧ H' = H) := by
  refine AC.codeP weftref15_Cells.at weftref15_Cells.ok (free_ss _) fun hlt => ?_
  simp only [weftref15_Cells]
  refine AX.seq (AX.reg ?_)
  simp [weftref15_Cells.r0, obcs]
  refine AX.seq (AX.reg ?_)
  simp [weftref15_Cells.r1]
  refine AX.seq (AX.seq (AX.reg ?_))
  simp [weftref15_Cells.r2]
  refine AX.pblock (AX.loop (CsInv o all H) o.kinds.length ⟨_, _, .refl _ _, 0, .sl none 0 0, by omega, by omega, .nil 1 0 (.refl _) hlt, by simp [obcs]⟩ ?_)
  rintro m F X ⟨i, v, hi, rfl, A, rfl⟩
  simp only [weftref15_Cells.l0]
  refine AX.seq (AX.seq (AX.reg ?_))
  simp [weftref15_Cells.r3, obcs]
  refine AX.pcond rfl (fun hc => AX.skip ?_) (fun hc => AX.exit ?_)
  case refine_2 =>
    simp at hc
    have : i = o.kinds.length := by omega
    subst this
    simp
    refine AX.seq (AX.reg ?_)
    simp [weftref15_Cells.r7]
    refine AX.ret ?_
    simp
    exact ⟨A.ext, by simpa [ss, sc1, cellsP, cellsL] using A.frz⟩
  simp at hc
  simp
  have hs := cellsP_succ o all i
  have hlen := cellsP_len o all i
  have hg : o.kinds[i]? = some o.kinds[i] := List.getElem?_eq_getElem hc
  refine AX.seq (AX.pblock ?_)
  refine AX.test (kindAt o all i) [(1, .i .u8 (if all then 0 else 112)), (2, .fp (obcs o) 0), (5, v), (6, .i .i64 i), (23, .b (kindAt o all i))] ?_ rfl (fun he => AX.reg ?_) (fun he => AX.skip ?_)
  · cases all
    · have e2 : ((o.kinds[i].toNat : Int) = 112) = (o.kinds[i] = 112) := u8_ne o.kinds[i] 112 (by omega)
      simp [weftref15_Cells.r4, obcs, hc, kindAt, e2]
    · simp [weftref15_Cells.r4, obcs, hc, kindAt]
  · obtain ⟨v1, X1, e1, A1⟩ := A.app (bytes := 16) (ys := [[V.s (cellN o.name i)]]) hlt (by simp) (by omega) (by simp) (by simp [sc1, roomB]; omega)
    simp [weftref15_Cells.r5, obcs]
    refine AC.fix (RCell_ok o.name i h1 _) ?_
    simp [repl, -sAppend, e1]
    refine AX.reg ?_
    simp [weftref15_Cells.r6, succ_of_lt hc (show o.kinds.length ≤ 9223372036854775807 by omega)]
    refine ⟨o.kinds.length - (i + 1), by omega, _, _, .refl _ _, i + 1, v1, by omega, rfl, ?_, by simp [obcs]⟩
    rw [hs, he]
    simpa [sc1] using A1
  · simp
    refine AX.reg ?_
    simp [weftref15_Cells.r6, succ_of_lt hc (show o.kinds.length ≤ 9223372036854775807 by omega)]
    refine ⟨o.kinds.length - (i + 1), by omega, _, _, .refl _ _, i + 1, v, by omega, rfl, ?_, by simp [obcs]⟩
    rw [hs, he]
    simpa using A
end Go.Proofs.YtjemhlndmkbneaaGreatDoor
namespace Go.Proofs.YtjemhlndmkbneaaGreatDoor
open Am C
set_option linter.unusedSimpArgs false
set_option linter.unusedVariables false
def EaInv {α : Type} (ask : α → Int) (cmp : α → α → Int) (enc : α → List V) (l : List α) (f g : Go.FuncId) (H : Hp) (m : Nat) (F : Fr) (X : Hp) : Prop :=
  ∃ i, i ≤ l.length ∧ m = l.length - i ∧ chk ask cmp none l = chk ask cmp (pv l i) (l.drop i) ∧ H.Ext X ∧ (∀ id blk, X.get id = some blk → id < X.next) ∧
    F = [(0, .fs (l.map enc)), (1, .fn f []), (2, .fn g []), (10, .fs (l.map enc)), (11, .i .i64 l.length), (12, .i .i64 i)]
theorem EachObj_ok (l : List Ob) (hl : l.length ≤ 9223372036854775807) (hs : ∀ x ∈ l, obS x) (H : Hp) : AC Tryz.prog n_system_each_api_Obj [.fs (l.map obcs), .fn n_system_object [], .fn n_system_byObj []] H (fun v H' => v = .i .i64 (chk obE cmpO none l) ∧ H' = H) := by
  refine AC.codeP system_each_api_Obj.at system_each_api_Obj.ok (by simp) fun hlt => ?_
  simp only [system_each_api_Obj]
  refine AX.seq (AX.reg ?_)
  simp [system_each_api_Obj.r0]
  refine AX.seq (AX.seq (AX.reg ?_))
  simp [system_each_api_Obj.r1]
  refine AX.pblock (AX.loop (EaInv obE cmpO obcs l n_system_object n_system_byObj H) l.length ⟨_, _, .refl _ _, 0, by omega, by omega, rfl, .refl _, hlt, by simp⟩ ?_)
  rintro m F X ⟨i, hi, rfl, hch, X1, L1, rfl⟩
  simp only [system_each_api_Obj.l0]
  refine AX.seq (AX.reg ?_)
  simp [system_each_api_Obj.r2]
  refine AX.seq (AX.pcond rfl (fun hd => AX.skip ?_) (fun hd => AX.exit ?_))
  case refine_2 =>
    simp at hd
    rw [chk_end hd] at hch
    simp
    refine AX.seq (AX.reg ?_)
    simp [system_each_api_Obj.r10]
    refine AX.ret ?_
    simp [hch]
    exact ⟨X1, .refl _⟩
  simp at hd
  have hx := hs _ (List.getElem_mem hd)
  rw [chk_step hd] at hch
  have hg : l[i]? = some l[i] := List.getElem?_eq_getElem hd
  simp
  generalize l[i] = x at *
  refine AX.seq (AX.pblock (AX.seq (AX.reg ?_)))
  simp [system_each_api_Obj.r3, hg, obcs, mkcs, ss]
  have X4 := X1.trans (ext2 L1 (.cells [.s [], .s [], .sl none 0 0] 3) (.cells [.s x.name, .s x.kinds, .fs (x.marks.map mkcs)] 3))
  have L4 := lt2 L1 (.cells [.s [], .s [], .sl none 0 0] 3) (.cells [.s x.name, .s x.kinds, .fs (x.marks.map mkcs)] 3)
  have G4 : ((X.add (.cells [.s [], .s [], .sl none 0 0] 3)).upd X.next (.cells [.s x.name, .s x.kinds, .fs (x.marks.map mkcs)] 3)).get X.next = some (.cells [.s x.name, .s x.kinds, .fs (x.marks.map mkcs)] 3) := by simp
  generalize (X.add (.cells [.s [], .s [], .sl none 0 0] 3)).upd X.next (.cells [.s x.name, .s x.kinds, .fs (x.marks.map mkcs)] 3) = Z at *
  generalize X.next = id at *
  refine AX.seq (AX.seq (AX.reg ?_))
  simp [system_each_api_Obj.r4, G4]
  refine AC.fix (Sobject_ok x (by have := hx.1; omega) (by have := hx.2.1; omega) (by have := hx.2.2.1; omega) (fun m hm => by have := hx.2.2.2 m hm; omega) _) ?_
  simp
  refine AX.seq (AX.reg ?_)
  simp [system_each_api_Obj.r5]
  refine AX.pcond rfl (fun he => ?_) (fun he => AX.skip ?_)
  · simp at he
    rw [if_pos he] at hch
    refine AX.seq (AX.reg ?_)
    simp [system_each_api_Obj.r6]
    refine AX.ret ?_
    simp [hch]
    exact ⟨X4, .refl _⟩
  simp at he
  rw [if_neg (by simp [he])] at hch
  simp
  refine AX.testD (ordB cmpO (pv l i) x) [(0, .fs (l.map obcs)), (1, .fn n_system_object []), (2, .fn n_system_byObj []), (10, .fs (l.map obcs)), (11, .i .i64 l.length), (12, .i .i64 i), (35, .b (ordB cmpO (pv l i) x))] ?_ rfl (fun hf => ?_) (fun hf => AX.skip ?_)
  · cases i with
    | zero => simp [system_each_api_Obj.r7, pv, ordB]
    | succ j =>
      have hj : l[j]? = some l[j] := List.getElem?_eq_getElem (by omega)
      have hwj : IntKind.i64.wrap (j : Int) = (j : Int) := wrap_i64 (by omega) (by omega)
      have e1 : ordB cmpO (pv l (j + 1)) x = decide (0 ≤ cmpO l[j] x) := by simp [pv, ordB, hj]
      have hy := hs _ (List.getElem_mem (show j < l.length by omega))
      generalize l[j] = y at *
      rw [e1]
      simp [system_each_api_Obj.r7, hwj, hj, hg, G4, obcs, mkcs, ss]
      refine callD_pure _ (fun H2 => byObj_ok y x H2) ?_
      simp [cmpO, obcs]
      all_goals rfl
  · refine AX.seq (AX.reg ?_)
    simp [system_each_api_Obj.r8]
    refine AX.ret ?_
    rw [if_pos hf] at hch
    simp [hch]
    exact ⟨X4, .refl _⟩
  rw [if_neg (by simp [hf])] at hch
  simp
  refine AX.reg ?_
  simp [system_each_api_Obj.r9, succ_of_lt hd hl]
  exact ⟨l.length - (i + 1), by omega, _, _, .refl _ _, i + 1, by omega, rfl, hch, X4, L4, by simp⟩
theorem EachFn_ok (l : List Fu) (hl : l.length ≤ 9223372036854775807) (hs : ∀ x ∈ l, fuS x) (H : Hp) : AC Tryz.prog n_system_each_api_Fn [.fs (l.map fucs), .fn n_system_function [], .fn n_system_byFn []] H (fun v H' => v = .i .i64 (chk fuE cmpF none l) ∧ H' = H) := by
  refine AC.codeP system_each_api_Fn.at system_each_api_Fn.ok (by simp) fun hlt => ?_
  simp only [system_each_api_Fn]
  refine AX.seq (AX.reg ?_)
  simp [system_each_api_Fn.r0]
  refine AX.seq (AX.seq (AX.reg ?_))
  simp [system_each_api_Fn.r1]
  refine AX.pblock (AX.loop (EaInv fuE cmpF fucs l n_system_function n_system_byFn H) l.length ⟨_, _, .refl _ _, 0, by omega, by omega, rfl, .refl _, hlt, by simp⟩ ?_)
  rintro m F X ⟨i, hi, rfl, hch, X1, L1, rfl⟩
  simp only [system_each_api_Fn.l0]
  refine AX.seq (AX.reg ?_)
  simp [system_each_api_Fn.r2]
  refine AX.seq (AX.pcond rfl (fun hd => AX.skip ?_) (fun hd => AX.exit ?_))
  case refine_2 =>
    simp at hd
    rw [chk_end hd] at hch
    simp
    refine AX.seq (AX.reg ?_)
    simp [system_each_api_Fn.r10]
    refine AX.ret ?_
    simp [hch]
    exact ⟨X1, .refl _⟩
  simp at hd
  have hx := hs _ (List.getElem_mem hd)
  rw [chk_step hd] at hch
  have hg : l[i]? = some l[i] := List.getElem?_eq_getElem hd
  simp
  generalize l[i] = x at *
  refine AX.seq (AX.pblock (AX.seq (AX.reg ?_)))
  simp [system_each_api_Fn.r3, hg, fucs, mkcs, ss]
  have X4 := X1.trans (ext2 L1 (.cells [.s [], .s [], .s []] 3) (.cells [.s x.name, .s x.kinds, .s x.ret] 3))
  have L4 := lt2 L1 (.cells [.s [], .s [], .s []] 3) (.cells [.s x.name, .s x.kinds, .s x.ret] 3)
  have G4 : ((X.add (.cells [.s [], .s [], .s []] 3)).upd X.next (.cells [.s x.name, .s x.kinds, .s x.ret] 3)).get X.next = some (.cells [.s x.name, .s x.kinds, .s x.ret] 3) := by simp
  generalize (X.add (.cells [.s [], .s [], .s []] 3)).upd X.next (.cells [.s x.name, .s x.kinds, .s x.ret] 3) = Z at *
  generalize X.next = id at *
  refine AX.seq (AX.seq (AX.reg ?_))
  simp [system_each_api_Fn.r4, G4]
  refine AC.fix (Sfunction_ok x (by have := hx.1; omega) (by have := hx.2; omega) _) ?_
  simp
  refine AX.seq (AX.reg ?_)
  simp [system_each_api_Fn.r5]
  refine AX.pcond rfl (fun he => ?_) (fun he => AX.skip ?_)
  · simp at he
    rw [if_pos he] at hch
    refine AX.seq (AX.reg ?_)
    simp [system_each_api_Fn.r6]
    refine AX.ret ?_
    simp [hch]
    exact ⟨X4, .refl _⟩
  simp at he
  rw [if_neg (by simp [he])] at hch
  simp
  refine AX.testD (ordB cmpF (pv l i) x) [(0, .fs (l.map fucs)), (1, .fn n_system_function []), (2, .fn n_system_byFn []), (10, .fs (l.map fucs)), (11, .i .i64 l.length), (12, .i .i64 i), (35, .b (ordB cmpF (pv l i) x))] ?_ rfl (fun hf => ?_) (fun hf => AX.skip ?_)
  · cases i with
    | zero => simp [system_each_api_Fn.r7, pv, ordB]
    | succ j =>
      have hj : l[j]? = some l[j] := List.getElem?_eq_getElem (by omega)
      have hwj : IntKind.i64.wrap (j : Int) = (j : Int) := wrap_i64 (by omega) (by omega)
      have e1 : ordB cmpF (pv l (j + 1)) x = decide (0 ≤ cmpF l[j] x) := by simp [pv, ordB, hj]
      have hy := hs _ (List.getElem_mem (show j < l.length by omega))
      generalize l[j] = y at *
      rw [e1]
      simp [system_each_api_Fn.r7, hwj, hj, hg, G4, fucs, mkcs, ss]
      refine callD_pure _ (fun H2 => byFn_ok y x H2) ?_
      simp [cmpF, fucs]
      all_goals rfl
  · refine AX.seq (AX.reg ?_)
    simp [system_each_api_Fn.r8]
    refine AX.ret ?_
    rw [if_pos hf] at hch
    simp [hch]
    exact ⟨X4, .refl _⟩
  rw [if_neg (by simp [hf])] at hch
  simp
  refine AX.reg ?_
  simp [system_each_api_Fn.r9, succ_of_lt hd hl]
  exact ⟨l.length - (i + 1), by omega, _, _, .refl _ _, i + 1, by omega, rfl, hch, X4, L4, by simp⟩
theorem EachCon_ok (l : List Cn) (hl : l.length ≤ 9223372036854775807) (hs : ∀ x ∈ l, cnS x) (H : Hp) : AC Tryz.prog n_system_each_api_Con [.fs (l.map cncs), .fn n_system_con [], .fn n_system_Compare []] H (fun v H' => v = .i .i64 (chk cnE cmpC none l) ∧ H' = H) := by
  refine AC.codeP system_each_api_Con.at system_each_api_Con.ok (by simp) fun hlt => ?_
  simp only [system_each_api_Con]
  refine AX.seq (AX.reg ?_)
  simp [system_each_api_Con.r0]
  refine AX.seq (AX.seq (AX.reg ?_))
  simp [system_each_api_Con.r1]
  refine AX.pblock (AX.loop (EaInv cnE cmpC cncs l n_system_con n_system_Compare H) l.length ⟨_, _, .refl _ _, 0, by omega, by omega, rfl, .refl _, hlt, by simp⟩ ?_)
  rintro m F X ⟨i, hi, rfl, hch, X1, L1, rfl⟩
  simp only [system_each_api_Con.l0]
  refine AX.seq (AX.reg ?_)
  simp [system_each_api_Con.r2]
  refine AX.seq (AX.pcond rfl (fun hd => AX.skip ?_) (fun hd => AX.exit ?_))
  case refine_2 =>
    simp at hd
    rw [chk_end hd] at hch
    simp
    refine AX.seq (AX.reg ?_)
    simp [system_each_api_Con.r10]
    refine AX.ret ?_
    simp [hch]
    exact ⟨X1, .refl _⟩
  simp at hd
  have hx := hs _ (List.getElem_mem hd)
  rw [chk_step hd] at hch
  have hg : l[i]? = some l[i] := List.getElem?_eq_getElem hd
  simp
  generalize l[i] = x at *
  refine AX.seq (AX.pblock (AX.seq (AX.reg ?_)))
  simp [system_each_api_Con.r3, hg, cncs, mkcs, ss]
  have X4 := X1.trans (ext2 L1 (.cells [.i .i64 0, .s [], .s [], .i .i64 0, .s [], .sl none 0 0] 6) (.cells [.i .i64 x.op, .s x.a, .s x.b, .i .i64 x.k, .s x.tag, .fs (x.args.map fun a => [.s a])] 6))
  have L4 := lt2 L1 (.cells [.i .i64 0, .s [], .s [], .i .i64 0, .s [], .sl none 0 0] 6) (.cells [.i .i64 x.op, .s x.a, .s x.b, .i .i64 x.k, .s x.tag, .fs (x.args.map fun a => [.s a])] 6)
  have G4 : ((X.add (.cells [.i .i64 0, .s [], .s [], .i .i64 0, .s [], .sl none 0 0] 6)).upd X.next (.cells [.i .i64 x.op, .s x.a, .s x.b, .i .i64 x.k, .s x.tag, .fs (x.args.map fun a => [.s a])] 6)).get X.next = some (.cells [.i .i64 x.op, .s x.a, .s x.b, .i .i64 x.k, .s x.tag, .fs (x.args.map fun a => [.s a])] 6) := by simp
  generalize (X.add (.cells [.i .i64 0, .s [], .s [], .i .i64 0, .s [], .sl none 0 0] 6)).upd X.next (.cells [.i .i64 x.op, .s x.a, .s x.b, .i .i64 x.k, .s x.tag, .fs (x.args.map fun a => [.s a])] 6) = Z at *
  generalize X.next = id at *
  refine AX.seq (AX.seq (AX.reg ?_))
  simp [system_each_api_Con.r4, G4]
  refine AC.fix (con_ok x (by have := hx.1; omega) (by have := hx.2.1; omega) (by have := hx.2.2.1; omega) (by have := hx.2.2.2.1; omega) (fun a ha => by have := hx.2.2.2.2 a ha; omega) _) ?_
  simp
  refine AX.seq (AX.reg ?_)
  simp [system_each_api_Con.r5]
  refine AX.pcond rfl (fun he => ?_) (fun he => AX.skip ?_)
  · simp at he
    rw [if_pos he] at hch
    refine AX.seq (AX.reg ?_)
    simp [system_each_api_Con.r6]
    refine AX.ret ?_
    simp [hch]
    exact ⟨X4, .refl _⟩
  simp at he
  rw [if_neg (by simp [he])] at hch
  simp
  refine AX.testD (ordB cmpC (pv l i) x) [(0, .fs (l.map cncs)), (1, .fn n_system_con []), (2, .fn n_system_Compare []), (10, .fs (l.map cncs)), (11, .i .i64 l.length), (12, .i .i64 i), (35, .b (ordB cmpC (pv l i) x))] ?_ rfl (fun hf => ?_) (fun hf => AX.skip ?_)
  · cases i with
    | zero => simp [system_each_api_Con.r7, pv, ordB]
    | succ j =>
      have hj : l[j]? = some l[j] := List.getElem?_eq_getElem (by omega)
      have hwj : IntKind.i64.wrap (j : Int) = (j : Int) := wrap_i64 (by omega) (by omega)
      have e1 : ordB cmpC (pv l (j + 1)) x = decide (0 ≤ cmpC l[j] x) := by simp [pv, ordB, hj]
      have hy := hs _ (List.getElem_mem (show j < l.length by omega))
      generalize l[j] = y at *
      rw [e1]
      simp [system_each_api_Con.r7, hwj, hj, hg, G4, cncs, mkcs, ss]
      refine callD_pure _ (fun H2 => SCompare_ok y x (by have := hy.2.2.2.1; omega) (by have := hx.2.2.2.1; omega) H2) ?_
      simp [cmpC, cncs]
      all_goals rfl
  · refine AX.seq (AX.reg ?_)
    simp [system_each_api_Con.r8]
    refine AX.ret ?_
    rw [if_pos hf] at hch
    simp [hch]
    exact ⟨X4, .refl _⟩
  rw [if_neg (by simp [hf])] at hch
  simp
  refine AX.reg ?_
  simp [system_each_api_Con.r9, succ_of_lt hd hl]
  exact ⟨l.length - (i + 1), by omega, _, _, .refl _ _, i + 1, by omega, rfl, hch, X4, L4, by simp⟩
theorem SCheck_ok (s : Sy) (hs : syS s) (H : Hp) : AC Tryz.prog n_system_Check [.agg (sycs s)] H (fun v H' => v = .i .i64 (sysE s) ∧ H' = H) := by
  obtain ⟨lo, lf, lc, ho, hf, hcn⟩ := hs
  refine AC.code system_Check.at system_Check.ok ?_
  simp only [system_Check]
  refine AX.seq (AX.reg ?_)
  simp [system_Check.r0, sycs]
  refine AX.seq ?_
  refine AX.test (decide (600 < s.objs.length) || decide (600 < s.fns.length) || decide (6000 < s.cons.length)) [(1, .fp (sycs s) 0), (20, .b (decide (600 < s.objs.length) || decide (600 < s.fns.length) || decide (6000 < s.cons.length)))] ?_ rfl (fun hb => ?_) (fun hb => AX.skip ?_)
  · by_cases h1 : 600 < s.objs.length
    · simp [system_Check.r1, sycs, h1]
    by_cases h2 : 600 < s.fns.length
    · simp [system_Check.r1, sycs, h1, h2]
    · simp [system_Check.r1, sycs, h1, h2]
  · refine AX.seq (AX.reg ?_)
    simp [system_Check.r2]
    refine AX.ret ?_
    simp at hb
    have : 600 < s.objs.length ∨ 600 < s.fns.length ∨ 6000 < s.cons.length := by omega
    simp [sysE, this]
  simp at hb
  have hn : ¬ (600 < s.objs.length ∨ 600 < s.fns.length ∨ 6000 < s.cons.length) := by omega
  have eS : sysE s = orI [chk obE cmpO none s.objs, chk fuE cmpF none s.fns, chk cnE cmpC none s.cons] := by unfold sysE; rw [if_neg hn]
  rw [eS]
  simp
  refine AX.seq (AX.seq (AX.reg ?_))
  simp [system_Check.r3, sycs]
  refine AC.fix (EachObj_ok s.objs (by omega) ho _) ?_
  generalize chk obE cmpO none s.objs = a
  simp
  refine AX.seq (AX.reg ?_)
  simp [system_Check.r4]
  refine AX.pcond rfl (fun hd => ?_) (fun hd => AX.skip ?_)
  · simp at hd
    refine AX.seq (AX.reg ?_)
    simp [system_Check.r5]
    refine AX.ret ?_
    simp [or1 _ _ hd]
  simp at hd
  rw [or0 _ _ hd]
  simp
  refine AX.seq (AX.seq (AX.reg ?_))
  simp [system_Check.r6]
  refine AC.fix (EachFn_ok s.fns (by omega) hf _) ?_
  generalize chk fuE cmpF none s.fns = b
  simp
  refine AX.seq (AX.reg ?_)
  simp [system_Check.r7]
  refine AX.pcond rfl (fun he => ?_) (fun he => AX.skip ?_)
  · simp at he
    refine AX.seq (AX.reg ?_)
    simp [system_Check.r8]
    refine AX.ret ?_
    simp [or1 _ _ he]
  simp at he
  rw [or0 _ _ he]
  simp
  refine AX.seq (AX.reg ?_)
  simp [system_Check.r9]
  refine AC.fix (EachCon_ok s.cons (by omega) hcn _) ?_
  generalize chk cnE cmpC none s.cons = c
  simp
  refine AX.ret ?_
  by_cases h : c = 0 <;> simp [orI, h]
end Go.Proofs.YtjemhlndmkbneaaGreatDoor
namespace Go.Proofs.YtjemhlndmkbneaaGreatDoor
open Am C
set_option linter.unusedSimpArgs false
set_option linter.unusedVariables false
theorem NText_ok (d : Nd) (h1 : d.fn.length ≤ 9223372036854775806) (h2 : d.name.length ≤ 9223372036854775806) (H : Hp) : AC Tryz.prog n_names_Text [nv d] H (fun v H' => v = textV d ∧ H' = H) := by
  refine AC.code names_Text.at names_Text.ok ?_
  simp only [names_Text]
  refine AX.seq (AX.reg ?_)
  simp [names_Text.r0, nv]
  refine AX.seq (AX.seq (AX.reg ?_))
  simp [names_Text.r1]
  refine AC.fix (right_ok d (by omega) (by omega) _) ?_
  simp
  refine AX.pcond rfl (fun hb => ?_) (fun hb => AX.skip ?_)
  · simp at hb
    refine AX.seq (AX.reg ?_)
    simp [names_Text.r2]
    refine AX.ret ?_
    simp [textV, hb]
  simp at hb
  simp
  refine AX.seq (AX.reg ?_)
  simp [names_Text.r3]
  refine AC.fix (write_ok d hb _) ?_
  simp
  refine AX.ret ?_
  simp [textV, hb]
theorem NCell_ok (obj : Str) (k : Nat) (hs : obj.length ≤ 9223372036854775806) (H : Hp) : AC Tryz.prog n_names_Cell [.s obj, .i .i64 k] H (fun v H' => v = .s (cellN obj k) ∧ H' = H) := by
  refine AC.codeP names_Cell.at names_Cell.ok (by simp) fun hlt => ?_
  simp only [names_Cell]
  refine AX.seq (AX.reg ?_)
  simp [names_Cell.r0]
  refine AX.seq (AX.reg ?_)
  simp [names_Cell.r1]
  refine AC.fix (NRead_ok obj hs _) ?_
  cases hr : readN obj with
  | none =>
    simp [rdV, nv, Nd.cs, Nd.zero]
    refine AX.seq (AX.seq (AX.reg ?_))
    simp [names_Cell.r2]
    refine AX.pcond (t := true) rfl (fun _ => ?_) (fun h => by simp at h)
    refine AX.seq (AX.reg ?_)
    simp [names_Cell.r3]
    refine AX.ret ?_
    simp [cellN, hr]
    exact ⟨(Hp.Ext.add hlt _).upd hlt (Nat.le_refl _) _, .refl _⟩
  | some d =>
    simp [rdV, nv, Nd.cs]
    refine AX.seq (AX.seq (AX.reg ?_))
    by_cases hk : d.kind < 5 ∨ d.cell ≠ -1
    · have e : cellN obj k = [] := by unfold cellN; rw [hr]; simp only; rw [if_pos hk]
      by_cases h1 : d.kind < 5
      · simp [names_Cell.r2, h1]
        refine AX.pcond (t := true) rfl (fun _ => ?_) (fun h => by simp at h)
        refine AX.seq (AX.reg ?_)
        simp [names_Cell.r3]
        refine AX.ret ?_
        simp [e]
        exact ⟨(Hp.Ext.add hlt _).upd hlt (Nat.le_refl _) _, .refl _⟩
      · have h2 : ¬ d.cell = -1 := by rcases hk with h | h; exact absurd h h1; exact h
        simp [names_Cell.r2, h1, h2]
        refine AX.pcond (t := true) rfl (fun _ => ?_) (fun h => by simp at h)
        refine AX.seq (AX.reg ?_)
        simp [names_Cell.r3]
        refine AX.ret ?_
        simp [e]
        exact ⟨(Hp.Ext.add hlt _).upd hlt (Nat.le_refl _) _, .refl _⟩
    · have e : cellN obj k = if rightN { d with cell := k } then writeN { d with cell := k } else [] := by unfold cellN; rw [hr]; simp only; rw [if_neg hk]
      have h1 : ¬ d.kind < 5 := fun h => hk (.inl h)
      have h2 : d.cell = -1 := Classical.byContradiction fun h => hk (.inr h)
      simp [names_Cell.r2, h1, h2]
      refine AX.pcond (t := false) rfl (fun h => by simp at h) (fun _ => AX.skip ?_)
      simp
      refine AX.seq (AX.reg ?_)
      simp [names_Cell.r4]
      refine AX.seq (AX.reg ?_)
      simp [names_Cell.r5]
      have hdl := readN_len hr
      refine AC.fix (NText_ok { d with cell := k } (by have := hdl.1; simp; omega) (by have := hdl.2; simp; omega) _) ?_
      obtain ⟨tx, er, etx, hfit⟩ : ∃ tx er, textV { d with cell := (k : Int) } = .tup [.s tx, .i .i64 er] ∧ cellN obj k = tx := by
        rw [e]
        by_cases hr : rightN { d with cell := (k : Int) } = true
        · exact ⟨_, 0, by unfold textV; rw [if_pos hr], by rw [if_pos hr]⟩
        · exact ⟨[], 11, by unfold textV; rw [if_neg hr], by rw [if_neg hr]⟩
      rw [etx, hfit]
      simp
      refine AX.seq (AX.reg ?_)
      simp [names_Cell.r6]
      refine AX.ret ?_
      simp
      exact ⟨(Hp.Ext.add hlt _).upd hlt (Nat.le_refl _) _, .refl _⟩
end Go.Proofs.YtjemhlndmkbneaaGreatDoor
