/- Part 29 of the proof of the laws of the queries: S15i, S15j, S37a, S37b. -/
import Derived.Test.YtjemhlndmkbneaaGreatDoorW28
namespace Go.Proofs.YtjemhlndmkbneaaGreatDoor
open Am C
set_option linter.unusedSimpArgs false
set_option linter.unusedVariables false
theorem flat_le {α β : Type} {f : α → List β} {n : Nat} : ∀ {l : List α}, (∀ x ∈ l, (f x).length ≤ n) → (l.flatMap f).length ≤ n * l.length
  | [], _ => by simp
  | a :: r, h => by
    have h1 := h a (by simp)
    have h2 := flat_le (l := r) fun x hx => h x (by simp [hx])
    simp only [List.flatMap_cons, List.length_append, List.length_cons, Nat.mul_succ]
    omega
theorem flat_take {α β : Type} {f : α → List β} {l : List α} {i : Nat} (h : i < l.length) : (l.take (i + 1)).flatMap f = (l.take i).flatMap f ++ f l[i] := by
  rw [List.take_add_one, List.getElem?_eq_getElem h, List.flatMap_append]
  simp
theorem sorted_le (l : List Str) : (sortedS l).length ≤ l.length := by
  have := sortedS_take l l.length
  rwa [List.take_length] at this
def neS (a : Str) : Bool := decide (a ≠ [])
def cnP (c : Cn) : List Str := c.a :: (if c.op ≠ 1 then [c.b] else [])
theorem nodesC_eq (c : Cn) : nodesC c = cnP c ++ c.args.filter neS := rfl
def conP (s : Sy) (i : Nat) : List Str := (s.cons.take i).flatMap nodesC
def obP (s : Sy) (all : Bool) (i : Nat) : List Str := (s.objs.take i).flatMap fun o => cellsL o all
def NdInv (s : Sy) (H : Hp) (m : Nat) (F : Fr) (X : Hp) : Prop :=
  ∃ i, i ≤ s.cons.length ∧ m = s.cons.length - i ∧ H.Ext X ∧ (∀ id blk, X.get id = some blk → id < X.next) ∧ F = [(1, .fp (sycs s) 0), (3, ss (sortedS (conP s i))), (4, .i .i64 i)]
def NdInv1 (s : Sy) (P : List Str) (c : Cn) (i id : Nat) (Y : Hp) (m : Nat) (F : Fr) (X : Hp) : Prop :=
  ∃ k, k ≤ c.args.length ∧ m = c.args.length - k ∧ X = Y ∧ F = [(1, .fp (sycs s) 0), (3, ss (sortedS (P ++ (c.args.take k).filter neS))), (4, .i .i64 i), (5, .p (some (id, 0, 6))), (6, .i .i64 k)]
def NdInv2 (s : Sy) (H : Hp) (m : Nat) (F : Fr) (X : Hp) : Prop :=
  ∃ i, i ≤ s.objs.length ∧ m = s.objs.length - i ∧ X = H ∧ F = [(1, .fp (sycs s) 0), (3, ss (sortedS (s.cons.flatMap nodesC ++ obP s false i))), (7, .i .i64 i)]
def NdInv3 (s : Sy) (P x : List Str) (i : Nat) (H : Hp) (m : Nat) (F : Fr) (X : Hp) : Prop :=
  ∃ k, k ≤ x.length ∧ m = x.length - k ∧ X = H ∧ F = [(1, .fp (sycs s) 0), (3, ss (sortedS (P ++ x.take k))), (7, .i .i64 i), (8, ss x), (9, .i .i64 k)]
theorem nodesC_len {c : Cn} (h : cnE c = 0) : (nodesC c).length ≤ 9 := by
  have h1 := cn_args h
  have h2 := List.length_filter_le neS c.args
  rw [nodesC_eq]
  unfold cnP
  split <;> simp <;> omega
theorem cells_len {o : Ob} (all : Bool) (h : obE o = 0) : (cellsL o all).length ≤ 64 := by
  have h1 := ob_kinds h
  have h2 := cellsP_len o all o.kinds.length
  have : cellsL o all = cellsP o all o.kinds.length := rfl
  rw [this]; omega
theorem conP_len {s : Sy} (h : sysE s = 0) (i : Nat) : (conP s i).length ≤ 54000 := by
  obtain ⟨_, _, h3, _, _, h6⟩ := sys_ok h
  have := flat_le (f := nodesC) (n := 9) (l := s.cons.take i) fun c hc => nodesC_len (h6 c (List.mem_of_mem_take hc))
  have h2 : (s.cons.take i).length ≤ 6000 := by simp; omega
  unfold conP; omega
theorem obP_len {s : Sy} (all : Bool) (h : sysE s = 0) (i : Nat) : (obP s all i).length ≤ 38400 := by
  obtain ⟨h1, _, _, h4, _, _⟩ := sys_ok h
  have := flat_le (f := fun o => cellsL o all) (n := 64) (l := s.objs.take i) fun o ho => cells_len all (h4 o (List.mem_of_mem_take ho))
  have h2 : (s.objs.take i).length ≤ 600 := by simp; omega
  unfold obP; omega
theorem RNodes_ok (s : Sy) (hs : syS s) (H : Hp) : AC Tryz.prog n_weftref15_Nodes [.agg (sycs s)] H (fun v H' => v = ss (nodesS s) ∧ H' = H) := by
  refine AC.codeP weftref15_Nodes.at weftref15_Nodes.ok (free_ss _) fun hlt => ?_
  simp only [weftref15_Nodes]
  refine AX.seq (AX.reg ?_)
  simp [weftref15_Nodes.r0, sycs]
  refine AX.seq (AX.reg ?_)
  simp [weftref15_Nodes.r1]
  refine AX.seq (AX.seq (AX.reg ?_))
  simp [weftref15_Nodes.r2]
  refine AC.fix (RCheck_ok s hs _) ?_
  simp
  unfold nodesS
  refine AX.pcond rfl (fun hb => ?_) (fun hb => AX.skip ?_)
  · simp at hb
    refine AX.seq (AX.reg ?_)
    simp [weftref15_Nodes.r3]
    refine AX.ret ?_
    simp [hb]
    exact ⟨.refl _, .sl0 _⟩
  simp at hb
  have hok := sys_ok hb
  obtain ⟨_, _, _, ho, _, hcn⟩ := hs
  have hcl := conP_len hb
  have hol := obP_len false hb
  rw [if_pos hb]
  simp
  refine AX.seq (AX.seq (AX.reg ?_))
  simp [weftref15_Nodes.r4]
  refine AX.pblock (AX.loop (NdInv s H) s.cons.length ⟨_, _, Wk.frz0 (frzF_cons (.refl _) (frzF_cons (.sl0 _) (frzF_cons (.refl _) frzF_nil))), 0, by omega, by omega, .refl _, hlt, by simp [sycs, conP]; rfl⟩ ?_)
  rintro m F X ⟨i, hi, rfl, X1, L1, rfl⟩
  simp only [weftref15_Nodes.l0]
  refine AX.seq (AX.seq (AX.reg ?_))
  simp [weftref15_Nodes.r5, sycs]
  refine AX.pcond rfl (fun hc => AX.skip ?_) (fun hc => AX.exit ?_)
  · simp at hc
    have hcx := hcn _ (List.getElem_mem hc)
    have hcz := hok.2.2.2.2.2 _ (List.getElem_mem hc)
    have hg : s.cons[i]? = some s.cons[i] := List.getElem?_eq_getElem hc
    have hft := flat_take (f := nodesC) hc
    simp
    generalize s.cons[i] = c at *
    have hca := cn_args hcz
    refine AX.seq (AX.pblock (AX.seq (AX.reg ?_)))
    simp [weftref15_Nodes.r6, hg, cncs, ss]
    have X4 := X1.trans (ext2 L1 (.cells [.i .i64 0, .s [], .s [], .i .i64 0, .s [], .sl none 0 0] 6) (.cells [.i .i64 c.op, .s c.a, .s c.b, .i .i64 c.k, .s c.tag, .fs (c.args.map fun x => [.s x])] 6))
    have L4 := lt2 L1 (.cells [.i .i64 0, .s [], .s [], .i .i64 0, .s [], .sl none 0 0] 6) (.cells [.i .i64 c.op, .s c.a, .s c.b, .i .i64 c.k, .s c.tag, .fs (c.args.map fun x => [.s x])] 6)
    have G4 : ((X.add (.cells [.i .i64 0, .s [], .s [], .i .i64 0, .s [], .sl none 0 0] 6)).upd X.next (.cells [.i .i64 c.op, .s c.a, .s c.b, .i .i64 c.k, .s c.tag, .fs (c.args.map fun x => [.s x])] 6)).get X.next = some (.cells [.i .i64 c.op, .s c.a, .s c.b, .i .i64 c.k, .s c.tag, .fs (c.args.map fun x => [.s x])] 6) := by simp
    generalize (X.add (.cells [.i .i64 0, .s [], .s [], .i .i64 0, .s [], .sl none 0 0] 6)).upd X.next (.cells [.i .i64 c.op, .s c.a, .s c.b, .i .i64 c.k, .s c.tag, .fs (c.args.map fun x => [.s x])] 6) = Z at *
    generalize X.next = id at *
    have hPl := hcl i
    have hsl := sorted_le (conP s i)
    refine AX.seq (AX.reg ?_)
    simp [weftref15_Nodes.r7, G4]
    refine AC.fix (Into_ok (sortedS (conP s i)) c.a (by omega) _) ?_
    rw [← sortedS_snoc]
    simp
    have hsl2 := sorted_le (conP s i ++ [c.a])
    refine AX.seq (AX.join (F1 := [(1, .fp (sycs s) 0), (3, ss (sortedS (conP s i ++ cnP c))), (4, .i .i64 i), (5, .p (some (id, 0, 6)))]) (H1 := Z) ?_ ?_)
    · refine AX.seq (AX.reg ?_)
      simp [weftref15_Nodes.r8, G4]
      refine AX.pcond rfl (fun hd => AX.reg ?_) (fun hd => AX.skip ?_)
      · simp at hd
        simp [weftref15_Nodes.r9, G4]
        refine AC.fix (Into_ok (sortedS (conP s i ++ [c.a])) c.b (by simp at hsl2; omega) _) ?_
        rw [← sortedS_snoc]
        simp [cnP, hd, sycs]
      · simp at hd
        simp [cnP, hd, sycs]
    have hPl2 : (conP s i ++ cnP c).length ≤ 54002 := by
      have : (cnP c).length ≤ 2 := by unfold cnP; split <;> simp
      simp; omega
    have hP3 : conP s (i + 1) = conP s i ++ cnP c ++ c.args.filter neS := by
      unfold conP
      rw [hft, nodesC_eq, List.append_assoc]
    generalize conP s i ++ cnP c = P at *
    simp
    refine AX.seq (AX.reg ?_)
    simp [weftref15_Nodes.r10]
    refine AX.pblock (AX.loop (NdInv1 s P c i id Z) c.args.length ⟨_, _, .refl _ _, 0, by omega, by omega, rfl, by simp [sycs]⟩ ?_)
    rintro m F Y2 ⟨k, hk, rfl, hY2, rfl⟩
    subst hY2
    simp only [weftref15_Nodes.l1]
    refine AX.seq (AX.seq (AX.reg ?_))
    simp [weftref15_Nodes.r11, G4, ss]
    refine AX.pcond rfl (fun hd => AX.skip ?_) (fun hd => AX.exit ?_)
    case refine_2 =>
      simp at hd
      have : k = c.args.length := by omega
      subst this
      simp
      refine AX.reg ?_
      simp [weftref15_Nodes.r15, succ_of_lt hc (show s.cons.length ≤ 9223372036854775807 by omega)]
      exact ⟨s.cons.length - (i + 1), by omega, _, _, .refl _ _, i + 1, by omega, rfl, X4, L4, by rw [hP3]; simp [sycs, ss]⟩
    simp at hd
    have hga : c.args[k]? = some c.args[k] := List.getElem?_eq_getElem hd
    have hta : (c.args.take (k + 1)).filter neS = (c.args.take k).filter neS ++ (if neS c.args[k] then [c.args[k]] else []) := by
      rw [List.take_add_one, hga, List.filter_append]
      by_cases h : neS c.args[k] <;> simp [h]
    have hfl : ((c.args.take k).filter neS).length ≤ 7 := by
      have := List.length_filter_le neS (c.args.take k)
      have : (c.args.take k).length ≤ c.args.length := by simp; omega
      omega
    generalize c.args[k] = a at *
    simp
    refine AX.seq (AX.pblock (AX.join (F1 := [(1, .fp (sycs s) 0), (3, ss (sortedS (P ++ (c.args.take (k + 1)).filter neS))), (4, .i .i64 i), (5, .p (some (id, 0, 6))), (6, .i .i64 k)]) (H1 := Y2) ?_ ?_))
    · refine AX.seq (AX.reg ?_)
      simp [weftref15_Nodes.r12, G4, ss, hga]
      refine AX.pcond rfl (fun he => AX.reg ?_) (fun he => AX.skip ?_)
      · simp at he
        simp [weftref15_Nodes.r13, G4, hga, ss]
        have hsl3 := sorted_le (P ++ (c.args.take k).filter neS)
        refine AC.fix (Into_ok (sortedS (P ++ (c.args.take k).filter neS)) a (by simp at hsl3; omega) _) ?_
        rw [← sortedS_snoc, hta]
        simp [neS, he, sycs, ss]
      · simp at he
        rw [hta]
        simp [neS, he, sycs, ss]
    simp
    refine AX.reg ?_
    simp [weftref15_Nodes.r14, succ_of_lt hd (show c.args.length ≤ 9223372036854775807 by omega)]
    exact ⟨c.args.length - (k + 1), by omega, _, _, .refl _ _, k + 1, by omega, rfl, rfl, by simp [sycs]⟩
  simp at hc
  have hce : conP s i = s.cons.flatMap nodesC := by unfold conP; rw [List.take_of_length_le hc]
  rw [hce]
  have hNl : (s.cons.flatMap nodesC).length ≤ 54000 := by rw [← hce]; exact hcl i
  simp
  refine AX.seq (AX.seq (AX.reg ?_))
  simp [weftref15_Nodes.r16]
  refine AX.pblock (AX.loop (NdInv2 s X) s.objs.length ⟨_, _, .refl _ _, 0, by omega, by omega, rfl, by simp [sycs, obP]⟩ ?_)
  rintro m F Y ⟨i, hi, rfl, hY, rfl⟩
  subst hY
  simp only [weftref15_Nodes.l2]
  refine AX.seq (AX.seq (AX.reg ?_))
  simp [weftref15_Nodes.r17, sycs]
  refine AX.pcond rfl (fun hc => AX.skip ?_) (fun hc => AX.exit ?_)
  case refine_2 =>
    simp at hc
    have hoe : obP s false i = s.objs.flatMap fun o => cellsL o false := by unfold obP; rw [List.take_of_length_le hc]
    simp
    refine AX.seq (AX.reg ?_)
    simp [weftref15_Nodes.r24]
    refine AX.ret ?_
    simp [hoe, nodesL]
    exact ⟨X1, .refl _⟩
  simp at hc
  have hox := ho _ (List.getElem_mem hc)
  have hoz := hok.2.2.2.1 _ (List.getElem_mem hc)
  have hg : s.objs[i]? = some s.objs[i] := List.getElem?_eq_getElem hc
  have hft := flat_take (f := fun o => cellsL o false) hc
  simp
  generalize s.objs[i] = o at *
  have hck := cells_len false hoz
  have hkk := ob_kinds hoz
  refine AX.seq (AX.pblock (AX.seq (AX.reg ?_)))
  simp [weftref15_Nodes.r18, hg, obcs]
  refine AC.fix (RCells_ok o false (by have := hox.1; omega) (by omega) _) ?_
  have hP3 : s.cons.flatMap nodesC ++ obP s false (i + 1) = s.cons.flatMap nodesC ++ obP s false i ++ cellsL o false := by
    unfold obP
    rw [hft, List.append_assoc]
  have hPl : (s.cons.flatMap nodesC ++ obP s false i).length ≤ 92400 := by have := hol i; simp only [List.length_append]; omega
  generalize s.cons.flatMap nodesC ++ obP s false i = P at *
  generalize cellsL o false = x at *
  simp
  refine AX.seq (AX.reg ?_)
  simp [weftref15_Nodes.r19]
  refine AX.pblock (AX.loop (NdInv3 s P x i Y) x.length ⟨_, _, .refl _ _, 0, by omega, by omega, rfl, by simp [sycs]⟩ ?_)
  rintro m F Y2 ⟨k, hk, rfl, hY2, rfl⟩
  subst hY2
  simp only [weftref15_Nodes.l3]
  refine AX.seq (AX.seq (AX.reg ?_))
  simp [weftref15_Nodes.r20, ss]
  refine AX.pcond rfl (fun hd => AX.skip ?_) (fun hd => AX.exit ?_)
  case refine_2 =>
    simp at hd
    have : k = x.length := by omega
    subst this
    simp
    refine AX.reg ?_
    simp [weftref15_Nodes.r23, succ_of_lt hc (show s.objs.length ≤ 9223372036854775807 by omega)]
    exact ⟨s.objs.length - (i + 1), by omega, _, _, .refl _ _, i + 1, by omega, rfl, rfl, by rw [hP3]; simp [sycs, ss]⟩
  simp at hd
  have hsl := sorted_le (P ++ x.take k)
  have htl : (x.take k).length ≤ 64 := by simp; omega
  simp
  refine AX.seq (AX.pblock (AX.reg ?_))
  simp [weftref15_Nodes.r21, hd]
  refine AC.fix (Into_ok (sortedS (P ++ x.take k)) x[k] (by simp only [List.length_append] at hsl; omega) _) ?_
  rw [← sortedS_snoc, List.append_assoc, List.take_append_getElem hd]
  simp
  refine AX.reg ?_
  simp [weftref15_Nodes.r22, succ_of_lt hd (show x.length ≤ 9223372036854775807 by omega)]
  exact ⟨x.length - (k + 1), by omega, _, _, .refl _ _, k + 1, by omega, rfl, rfl, by simp [sycs, ss]⟩
end Go.Proofs.YtjemhlndmkbneaaGreatDoor
namespace Go.Proofs.YtjemhlndmkbneaaGreatDoor
open Am C
set_option linter.unusedSimpArgs false
set_option linter.unusedVariables false
def adB (c : Cn) : Option Str := if c.op = 1 then some c.b else none
def PlcInv (s : Sy) (H : Hp) (m : Nat) (F : Fr) (X : Hp) : Prop :=
  ∃ i, i ≤ s.objs.length ∧ m = s.objs.length - i ∧ X = H ∧ F = [(1, .fp (sycs s) 0), (3, ss (sortedS (obP s true i))), (4, .i .i64 i)]
def PlcInv1 (s : Sy) (P x : List Str) (i : Nat) (H : Hp) (m : Nat) (F : Fr) (X : Hp) : Prop :=
  ∃ k, k ≤ x.length ∧ m = x.length - k ∧ X = H ∧ F = [(1, .fp (sycs s) 0), (3, ss (sortedS (P ++ x.take k))), (4, .i .i64 i), (5, ss x), (6, .i .i64 k)]
def PlcInv2 (s : Sy) (P : List Str) (H : Hp) (m : Nat) (F : Fr) (X : Hp) : Prop :=
  ∃ i, i ≤ s.fns.length ∧ m = s.fns.length - i ∧ X = H ∧ F = [(1, .fp (sycs s) 0), (3, ss (sortedS (P ++ (s.fns.map Fu.name).take i))), (7, .i .i64 i)]
def PlcInv3 (s : Sy) (P : List Str) (H : Hp) (m : Nat) (F : Fr) (X : Hp) : Prop :=
  ∃ i, i ≤ s.cons.length ∧ m = s.cons.length - i ∧ X = H ∧ F = [(1, .fp (sycs s) 0), (3, ss (sortedS (P ++ (s.cons.take i).filterMap adB))), (8, .i .i64 i)]
theorem placesL_eq (s : Sy) : placesL s = obP s true s.objs.length ++ s.fns.map Fu.name ++ s.cons.filterMap adB := by
  unfold placesL obP
  rw [List.take_length, List.append_assoc]
  rfl
theorem RPlaces_ok (s : Sy) (hs : syS s) (H : Hp) : AC Tryz.prog n_weftref15_Places [.agg (sycs s)] H (fun v H' => v = ss (placesS s) ∧ H' = H) := by
  refine AC.codeP weftref15_Places.at weftref15_Places.ok (free_ss _) fun hlt => ?_
  simp only [weftref15_Places]
  refine AX.seq (AX.reg ?_)
  simp [weftref15_Places.r0, sycs]
  refine AX.seq (AX.reg ?_)
  simp [weftref15_Places.r1]
  refine AX.seq (AX.seq (AX.reg ?_))
  simp [weftref15_Places.r2]
  refine AC.fix (RCheck_ok s hs _) ?_
  simp
  unfold placesS
  refine AX.pcond rfl (fun hb => ?_) (fun hb => AX.skip ?_)
  · simp at hb
    refine AX.seq (AX.reg ?_)
    simp [weftref15_Places.r3]
    refine AX.ret ?_
    simp [hb]
    exact ⟨.refl _, .sl0 _⟩
  simp at hb
  have hok := sys_ok hb
  obtain ⟨_, _, _, ho, _, hcn⟩ := hs
  have hol := obP_len true hb
  rw [if_pos hb]
  have hpl := placesL_eq s
  generalize placesL s = PL at *
  simp
  refine AX.seq (AX.seq (AX.reg ?_))
  simp [weftref15_Places.r4]
  refine AX.pblock (AX.loop (PlcInv s H) s.objs.length ⟨_, _, Wk.frz0 (frzF_cons (.refl _) (frzF_cons (.sl0 _) (frzF_cons (.refl _) frzF_nil))), 0, by omega, by omega, rfl, by simp [sycs, obP]; rfl⟩ ?_)
  rintro m F Y ⟨i, hi, rfl, hY, rfl⟩
  subst hY
  simp only [weftref15_Places.l0]
  refine AX.seq (AX.seq (AX.reg ?_))
  simp [weftref15_Places.r5, sycs]
  refine AX.pcond rfl (fun hc => AX.skip ?_) (fun hc => AX.exit ?_)
  · simp at hc
    have hox := ho _ (List.getElem_mem hc)
    have hoz := hok.2.2.2.1 _ (List.getElem_mem hc)
    have hg : s.objs[i]? = some s.objs[i] := List.getElem?_eq_getElem hc
    have hft := flat_take (f := fun o => cellsL o true) hc
    simp
    generalize s.objs[i] = o at *
    have hck := cells_len true hoz
    have hkk := ob_kinds hoz
    refine AX.seq (AX.pblock (AX.seq (AX.reg ?_)))
    simp [weftref15_Places.r6, hg, obcs]
    refine AC.fix (RCells_ok o true (by have := hox.1; omega) (by omega) _) ?_
    have hP3 : obP s true (i + 1) = obP s true i ++ cellsL o true := by
      unfold obP
      rw [hft]
    have hPl := hol i
    generalize obP s true i = P at *
    generalize cellsL o true = x at *
    simp
    refine AX.seq (AX.reg ?_)
    simp [weftref15_Places.r7]
    refine AX.pblock (AX.loop (PlcInv1 s P x i Y) x.length ⟨_, _, .refl _ _, 0, by omega, by omega, rfl, by simp [sycs]⟩ ?_)
    rintro m F Y2 ⟨k, hk, rfl, hY2, rfl⟩
    subst hY2
    simp only [weftref15_Places.l1]
    refine AX.seq (AX.seq (AX.reg ?_))
    simp [weftref15_Places.r8, ss]
    refine AX.pcond rfl (fun hd => AX.skip ?_) (fun hd => AX.exit ?_)
    case refine_2 =>
      simp at hd
      have : k = x.length := by omega
      subst this
      simp
      refine AX.reg ?_
      simp [weftref15_Places.r11, succ_of_lt hc (show s.objs.length ≤ 9223372036854775807 by omega)]
      exact ⟨s.objs.length - (i + 1), by omega, _, _, .refl _ _, i + 1, by omega, rfl, rfl, by rw [hP3]; simp [sycs, ss]⟩
    simp at hd
    have hsl := sorted_le (P ++ x.take k)
    have htl : (x.take k).length ≤ 64 := by simp; omega
    simp
    refine AX.seq (AX.pblock (AX.reg ?_))
    simp [weftref15_Places.r9, hd]
    refine AC.fix (Into_ok (sortedS (P ++ x.take k)) x[k] (by simp only [List.length_append] at hsl; omega) _) ?_
    rw [← sortedS_snoc, List.append_assoc, List.take_append_getElem hd]
    simp
    refine AX.reg ?_
    simp [weftref15_Places.r10, succ_of_lt hd (show x.length ≤ 9223372036854775807 by omega)]
    exact ⟨x.length - (k + 1), by omega, _, _, .refl _ _, k + 1, by omega, rfl, rfl, by simp [sycs, ss]⟩
  simp at hc
  have hoe : obP s true i = obP s true s.objs.length := by unfold obP; rw [List.take_of_length_le hc, List.take_length]
  rw [hoe]
  have hP0 := hol s.objs.length
  generalize obP s true s.objs.length = P at *
  simp
  refine AX.seq (AX.seq (AX.reg ?_))
  simp [weftref15_Places.r12]
  refine AX.pblock (AX.loop (PlcInv2 s P Y) s.fns.length ⟨_, _, .refl _ _, 0, by omega, by omega, rfl, by simp [sycs]⟩ ?_)
  rintro m F Y2 ⟨j, hj, rfl, hY2, rfl⟩
  subst hY2
  simp only [weftref15_Places.l2]
  refine AX.seq (AX.seq (AX.reg ?_))
  simp [weftref15_Places.r13, sycs]
  refine AX.pcond rfl (fun hd => AX.skip ?_) (fun hd => AX.exit ?_)
  · simp at hd
    have hg : s.fns[j]? = some s.fns[j] := List.getElem?_eq_getElem hd
    have htk : (s.fns.map Fu.name).take (j + 1) = (s.fns.map Fu.name).take j ++ [s.fns[j].name] := by
      rw [List.take_add_one, List.getElem?_map, hg]; rfl
    have hsl := sorted_le (P ++ (s.fns.map Fu.name).take j)
    have htl : ((s.fns.map Fu.name).take j).length ≤ 600 := by simp; omega
    generalize s.fns[j] = f at *
    simp
    refine AX.seq (AX.pblock (AX.reg ?_))
    simp [weftref15_Places.r14, hg, fucs]
    refine AC.fix (Into_ok (sortedS (P ++ (s.fns.map Fu.name).take j)) f.name (by simp only [List.length_append] at hsl; omega) _) ?_
    rw [← sortedS_snoc, List.append_assoc, ← htk]
    simp
    refine AX.reg ?_
    simp [weftref15_Places.r15, succ_of_lt hd (show s.fns.length ≤ 9223372036854775807 by omega)]
    exact ⟨s.fns.length - (j + 1), by omega, _, _, .refl _ _, j + 1, by omega, rfl, rfl, by simp [sycs, ss]⟩
  simp at hd
  rw [show (s.fns.map Fu.name).take j = s.fns.map Fu.name from List.take_of_length_le (by simpa using hd)]
  have hP1 : (P ++ s.fns.map Fu.name).length ≤ 39000 := by simp; omega
  generalize P ++ s.fns.map Fu.name = Q at *
  simp
  refine AX.seq (AX.seq (AX.reg ?_))
  simp [weftref15_Places.r16]
  refine AX.pblock (AX.loop (PlcInv3 s Q Y2) s.cons.length ⟨_, _, .refl _ _, 0, by omega, by omega, rfl, by simp [sycs]⟩ ?_)
  rintro m F Y3 ⟨q, hq, rfl, hY3, rfl⟩
  subst hY3
  simp only [weftref15_Places.l3]
  refine AX.seq (AX.seq (AX.reg ?_))
  simp [weftref15_Places.r17, sycs]
  refine AX.pcond rfl (fun he => AX.skip ?_) (fun he => AX.exit ?_)
  case refine_2 =>
    simp at he
    rw [List.take_of_length_le he]
    simp
    refine AX.seq (AX.reg ?_)
    simp [weftref15_Places.r21]
    refine AX.ret ?_
    simp [hpl]
    exact ⟨.refl _, .refl _⟩
  simp at he
  have hg : s.cons[q]? = some s.cons[q] := List.getElem?_eq_getElem he
  have htk : (s.cons.take (q + 1)).filterMap adB = (s.cons.take q).filterMap adB ++ (adB s.cons[q]).toList := by
    rw [List.take_add_one, hg, List.filterMap_append]
    cases h : adB s.cons[q] <;> simp [h]
  have hsl := sorted_le (Q ++ (s.cons.take q).filterMap adB)
  have htl : ((s.cons.take q).filterMap adB).length ≤ 6000 := by
    have := List.length_filterMap_le adB (s.cons.take q)
    have h2 : (s.cons.take q).length ≤ 6000 := by simp; omega
    omega
  generalize s.cons[q] = c at *
  simp
  refine AX.seq (AX.pblock (AX.join (F1 := [(1, .fp (sycs s) 0), (3, ss (sortedS (Q ++ (s.cons.take (q + 1)).filterMap adB))), (8, .i .i64 q)]) (H1 := Y3) ?_ ?_))
  · refine AX.seq (AX.reg ?_)
    simp [weftref15_Places.r18, hg, cncs]
    refine AX.pcond rfl (fun hf => AX.reg ?_) (fun hf => AX.skip ?_)
    · simp at hf
      simp [weftref15_Places.r19, hg, cncs]
      refine AC.fix (Into_ok (sortedS (Q ++ (s.cons.take q).filterMap adB)) c.b (by simp only [List.length_append] at hsl; omega) _) ?_
      rw [← sortedS_snoc, htk]
      simp [adB, hf, sycs, cncs]
    · simp at hf
      rw [htk]
      simp [adB, hf, sycs, cncs]
  simp
  refine AX.reg ?_
  simp [weftref15_Places.r20, succ_of_lt he (show s.cons.length ≤ 9223372036854775807 by omega)]
  exact ⟨s.cons.length - (q + 1), by omega, _, _, .refl _ _, q + 1, by omega, rfl, rfl, by simp [sycs, ss]⟩
end Go.Proofs.YtjemhlndmkbneaaGreatDoor
namespace Go.Proofs.YtjemhlndmkbneaaGreatDoor
open Am C
set_option linter.unusedSimpArgs false
set_option linter.unusedVariables false
def fuelN (n k : Int) : Int := if n < 0 ∨ k < 0 ∨ 100000 < n ∨ 100000 < k then 0 else (n + k + 1) * (n + k + 1) * (n + k + 1)
theorem fuel_w {n k : Int} (h : ¬ (n < 0 ∨ k < 0 ∨ 100000 < n ∨ 100000 < k)) :
    IntKind.i64.wrap (n + k) = n + k ∧ IntKind.i64.wrap (n + k + 1) = n + k + 1 ∧ IntKind.i64.wrap ((n + k + 1) * (n + k + 1)) = (n + k + 1) * (n + k + 1) ∧ IntKind.i64.wrap ((n + k + 1) * (n + k + 1) * (n + k + 1)) = (n + k + 1) * (n + k + 1) * (n + k + 1) := by
  have h1 : 0 ≤ n + k + 1 := by omega
  have h2 : n + k + 1 ≤ 200001 := by omega
  generalize hm : n + k + 1 = m at *
  have a1 : m * m ≤ 200001 * 200001 := Int.mul_le_mul h2 h2 h1 (by omega)
  have a0 : 0 ≤ m * m := Int.mul_nonneg h1 h1
  have b1 : m * m * m ≤ 200001 * 200001 * 200001 := Int.mul_le_mul a1 h2 h1 (by omega)
  have b0 : 0 ≤ m * m * m := Int.mul_nonneg a0 h1
  exact ⟨wrap_i64 (by omega) (by omega), wrap_i64 (by omega) (by omega), wrap_i64 (by omega) (by omega), wrap_i64 (by omega) (by omega)⟩
theorem RFuel_ok (n k : Int) (H : Hp) : AC Tryz.prog n_weftref37_Fuel [.i .i64 n, .i .i64 k] H (fun v H' => v = .i .i64 (fuelN n k) ∧ H' = H) := by
  refine AC.code weftref37_Fuel.at weftref37_Fuel.ok ?_
  simp only [weftref37_Fuel]
  refine AX.seq (AX.reg ?_)
  simp [weftref37_Fuel.r0]
  refine AX.seq ?_
  refine AX.test (decide (n < 0 ∨ k < 0 ∨ 100000 < n ∨ 100000 < k)) [(0, .i .i64 n), (1, .i .i64 k), (18, .b (decide (n < 0 ∨ k < 0 ∨ 100000 < n ∨ 100000 < k)))] ?_ rfl (fun hb => ?_) (fun hb => AX.skip ?_)
  · by_cases h1 : n < 0
    · simp [weftref37_Fuel.r1, h1]
    by_cases h2 : k < 0
    · simp [weftref37_Fuel.r1, h1, h2]
    by_cases h3 : 100000 < n
    · simp [weftref37_Fuel.r1, h1, h2, h3]
    · simp [weftref37_Fuel.r1, h1, h2, h3]
  · have hb := of_decide_eq_true hb
    refine AX.seq (AX.reg ?_)
    simp [weftref37_Fuel.r2]
    refine AX.ret ?_
    simp [fuelN, hb]
  have hb := of_decide_eq_false hb
  obtain ⟨w1, w2, w3, w4⟩ := fuel_w hb
  simp
  refine AX.seq (AX.reg ?_)
  simp [weftref37_Fuel.r3, w1, w2, w3, w4]
  refine AX.ret ?_
  simp [fuelN, hb]
theorem Fuel_ok (n k : Int) (H : Hp) : AC Tryz.prog n_bound_Fuel [.agg [.i .i64 n, .i .i64 k]] H (fun v H' => v = .i .i64 (fuelN n k) ∧ H' = H) := by
  refine AC.code bound_Fuel.at bound_Fuel.ok ?_
  simp only [bound_Fuel]
  refine AX.seq (AX.reg ?_)
  simp [bound_Fuel.r0]
  refine AX.seq ?_
  refine AX.test (decide (n < 0 ∨ k < 0 ∨ 100000 < n ∨ 100000 < k)) [(1, .fp [.i .i64 n, .i .i64 k] 0), (17, .b (decide (n < 0 ∨ k < 0 ∨ 100000 < n ∨ 100000 < k)))] ?_ rfl (fun hb => ?_) (fun hb => AX.skip ?_)
  · by_cases h1 : n < 0 ∨ k < 0
    · have h2 : min n k < 0 := by omega
      have h3 : n < 0 ∨ k < 0 ∨ 100000 < n ∨ 100000 < k := by omega
      simp [bound_Fuel.r1, h2, h3]
    · have h2 : ¬ min n k < 0 := by omega
      by_cases h4 : 100000 < max n k
      · have h3 : n < 0 ∨ k < 0 ∨ 100000 < n ∨ 100000 < k := by omega
        simp [bound_Fuel.r1, h2, h3, h4]
      · have h3 : ¬ (n < 0 ∨ k < 0 ∨ 100000 < n ∨ 100000 < k) := by omega
        simp [bound_Fuel.r1, h2, h3, h4]
  · have hb := of_decide_eq_true hb
    refine AX.seq (AX.reg ?_)
    simp [bound_Fuel.r2]
    refine AX.ret ?_
    simp [fuelN, hb]
  have hb := of_decide_eq_false hb
  obtain ⟨w1, w2, w3, w4⟩ := fuel_w hb
  simp
  refine AX.seq (AX.reg ?_)
  simp [bound_Fuel.r3, w1, w2]
  refine AX.seq (AX.reg ?_)
  simp [bound_Fuel.r4, w3, w4]
  refine AX.ret ?_
  simp [fuelN, hb]
end Go.Proofs.YtjemhlndmkbneaaGreatDoor
namespace Go.Proofs.YtjemhlndmkbneaaGreatDoor
open Am C
set_option linter.unusedSimpArgs false
set_option linter.unusedVariables false
theorem rising_ext : ∀ {a b : List Str}, Rising a → Rising b → (∀ x, x ∈ a ↔ x ∈ b) → a = b
  | [], [], _, _, _ => rfl
  | [], b :: s, _, _, h => absurd ((h b).2 (by simp)) (by simp)
  | a :: r, [], _, _, h => absurd ((h a).1 (by simp)) (by simp)
  | a :: r, b :: s, ha, hb, h => by
    have ha' := List.pairwise_cons.1 ha
    have hb' := List.pairwise_cons.1 hb
    have e : a = b := by
      refine Classical.byContradiction fun hne => ?_
      have h1 : a ∈ s := (List.mem_cons.1 ((h a).1 (by simp))).resolve_left hne
      have h2 : b ∈ r := (List.mem_cons.1 ((h b).2 (by simp))).resolve_left (Ne.symm hne)
      have := ltB_asym (ha'.1 b h2)
      rw [hb'.1 a h1] at this; cases this
    subst e
    have : r = s := rising_ext ha'.2 hb'.2 fun x => ⟨fun hx => ?_, fun hx => ?_⟩
    · rw [this]
    · exact (List.mem_cons.1 ((h x).1 (by simp [hx]))).resolve_left fun e => by have := ha'.1 x hx; rw [e] at this; exact ltB_irr _ this
    · exact (List.mem_cons.1 ((h x).2 (by simp [hx]))).resolve_left fun e => by have := hb'.1 x hx; rw [e] at this; exact ltB_irr _ this
theorem sorted_app (a b : List Str) : sortedS (a ++ sortedS b) = sortedS (a ++ b) :=
  rising_ext (sortedS_rising _) (sortedS_rising _) fun x => by simp [mem_sortedS]
theorem sorted_app2 (a b : List Str) : sortedS (sortedS a ++ sortedS b) = sortedS (a ++ b) :=
  rising_ext (sortedS_rising _) (sortedS_rising _) fun x => by simp [mem_sortedS]
theorem fu_kinds {f : Fu} (h : fuE f = 0) : f.kinds.length ≤ 6 := by
  unfold fuE at h
  cases hr : readN f.name with
  | none => rw [hr] at h; cases h
  | some d =>
    rw [hr] at h
    simp only at h
    split at h
    · cases h
    split at h
    · cases h
    rename_i _ h2
    have : kpB f.kinds = true ∧ f.kinds.length ≤ 6 := Classical.byContradiction fun hn => h2 (.inl hn)
    exact this.2
theorem fnCells_take {l : List Fu} {i : Nat} (h : i < l.length) : fnCells (l.take (i + 1)) = fnCells (l.take i) + (l[i].kinds.length + 1) := by
  unfold fnCells
  rw [List.take_add_one, List.getElem?_eq_getElem h, List.map_append, List.sum_append]
  simp
theorem fnCells_le {l : List Fu} (h : ∀ f ∈ l, f.kinds.length ≤ 6) : fnCells l ≤ 7 * l.length := by
  induction l with
  | nil => simp [fnCells]
  | cons a r ih =>
    have h1 := ih fun f hf => h f (by simp [hf])
    have h2 := h a (by simp)
    unfold fnCells at *
    simp only [List.map_cons, List.sum_cons, List.length_cons]
    omega
theorem conCount_take {l : List Cn} {i : Nat} (h : i < l.length) : conCount (l.take (i + 1)) = conCount (l.take i) + (if 2 < l[i].op then 1 else 0) := by
  unfold conCount
  rw [List.take_add_one, List.getElem?_eq_getElem h, List.filter_append, List.length_append]
  by_cases e : 2 < l[i].op <;> simp [e]
theorem conCount_le (l : List Cn) : conCount l ≤ l.length := List.length_filter_le _ _
theorem nodesL_len {s : Sy} (h : sysE s = 0) : (nodesL s).length ≤ 92400 := by
  have h1 := conP_len h s.cons.length
  have h2 := obP_len false h s.objs.length
  unfold conP at h1
  unfold obP at h2
  rw [List.take_length] at h1 h2
  unfold nodesL
  rw [List.length_append]; omega
theorem placesL_len {s : Sy} (h : sysE s = 0) : (placesL s).length ≤ 45000 := by
  obtain ⟨h1, h2, h3, _⟩ := sys_ok h
  have h4 := obP_len true h s.objs.length
  have h5 := List.length_filterMap_le adB s.cons
  rw [placesL_eq]
  simp only [List.length_append, List.length_map]
  omega
def OfI0 (s : Sy) (p : List Str) (H : Hp) (m : Nat) (F : Fr) (X : Hp) : Prop :=
  ∃ i, i ≤ p.length ∧ m = p.length - i ∧ X = H ∧ F = [(1, .fp (sycs s) 0), (4, ss (sortedS (nodesL s ++ p.take i))), (5, ss p), (6, .i .i64 i)]
def OfI1 (s : Sy) (n : Nat) (H : Hp) (m : Nat) (F : Fr) (X : Hp) : Prop :=
  ∃ i, i ≤ s.fns.length ∧ m = s.fns.length - i ∧ X = H ∧ F = [(1, .fp (sycs s) 0), (7, .i .i64 ((n + fnCells (s.fns.take i) : Nat) : Int)), (8, .i .i64 i)]
def OfI2 (s : Sy) (n : Nat) (H : Hp) (m : Nat) (F : Fr) (X : Hp) : Prop :=
  ∃ i, i ≤ s.cons.length ∧ m = s.cons.length - i ∧ X = H ∧ F = [(1, .fp (sycs s) 0), (7, .i .i64 (n : Nat)), (9, .i .i64 ((conCount (s.cons.take i) : Nat) : Int)), (10, .i .i64 i)]
theorem ROf37_ok (s : Sy) (hs : syS s) (H : Hp) : AC Tryz.prog n_weftref37_Of [.agg (sycs s)] H (fun v H' => v = .tup [.i .i64 (sizeN s : Nat), .i .i64 (sizeC s : Nat)] ∧ H' = H) := by
  refine AC.code weftref37_Of.at weftref37_Of.ok ?_
  simp only [weftref37_Of]
  refine AX.seq (AX.reg ?_)
  simp [weftref37_Of.r0, sycs]
  refine AX.seq (AX.seq (AX.reg ?_))
  simp [weftref37_Of.r1]
  refine AC.fix (RCheck_ok s hs _) ?_
  simp
  refine AX.pcond rfl (fun hb => ?_) (fun hb => AX.skip ?_)
  · simp at hb
    refine AX.seq (AX.reg ?_)
    simp [weftref37_Of.r2]
    refine AX.ret ?_
    simp [sizeN, sizeC, hb]
  simp at hb
  have hok := sys_ok hb
  have hNl := nodesL_len hb
  have hPl := placesL_len hb
  have eN : sizeN s = (sortedS (nodesL s ++ sortedS (placesL s))).length + fnCells s.fns := by unfold sizeN; rw [if_pos hb, sorted_app]
  have eC : sizeC s = conCount s.cons := by unfold sizeC; rw [if_pos hb]
  rw [eN, eC]
  simp
  refine AX.seq (AX.reg ?_)
  simp [weftref37_Of.r3]
  refine AC.fix (RNodes_ok s hs _) ?_
  simp
  refine AX.seq (AX.reg ?_)
  simp [weftref37_Of.r4]
  refine AC.fix (RPlaces_ok s hs _) ?_
  have e1 : nodesS s = sortedS (nodesL s) := by unfold nodesS; rw [if_pos hb]
  have e2 : placesS s = sortedS (placesL s) := by unfold placesS; rw [if_pos hb]
  rw [e1, e2]
  have hpl := sorted_le (placesL s)
  generalize sortedS (placesL s) = p at *
  simp
  refine AX.seq (AX.seq (AX.reg ?_))
  simp [weftref37_Of.r5]
  refine AX.pblock (AX.loop (OfI0 s p H) p.length ⟨_, _, .refl _ _, 0, by omega, by omega, rfl, by simp [sycs]⟩ ?_)
  rintro m F X ⟨i, hi, rfl, hX, rfl⟩
  subst hX
  simp only [weftref37_Of.l0]
  refine AX.seq (AX.seq (AX.reg ?_))
  simp [weftref37_Of.r6, ss]
  refine AX.pcond rfl (fun hd => AX.skip ?_) (fun hd => AX.exit ?_)
  · simp at hd
    have hsl := sorted_le (nodesL s ++ p.take i)
    have htl : (p.take i).length ≤ 45000 := by simp; omega
    simp
    refine AX.seq (AX.pblock (AX.reg ?_))
    simp [weftref37_Of.r7, hd]
    refine AC.fix (Into_ok (sortedS (nodesL s ++ p.take i)) p[i] (by simp only [List.length_append] at hsl; omega) _) ?_
    rw [← sortedS_snoc, List.append_assoc, List.take_append_getElem hd]
    simp
    refine AX.reg ?_
    simp [weftref37_Of.r8, succ_of_lt hd (show p.length ≤ 9223372036854775807 by omega)]
    exact ⟨p.length - (i + 1), by omega, _, _, .refl _ _, i + 1, by omega, rfl, rfl, by simp [sycs, ss]⟩
  simp at hd
  rw [List.take_of_length_le hd]
  have hq := sorted_le (nodesL s ++ p)
  simp only [List.length_append] at hq
  generalize sortedS (nodesL s ++ p) = q at *
  simp
  refine AX.seq (AX.reg ?_)
  simp [weftref37_Of.r9]
  refine AX.seq (AX.seq (AX.reg ?_))
  simp [weftref37_Of.r10]
  refine AX.pblock (AX.loop (OfI1 s q.length X) s.fns.length ⟨_, _, .refl _ _, 0, by omega, by omega, rfl, by simp [sycs, fnCells]⟩ ?_)
  rintro m F Y ⟨j, hj, rfl, hY, rfl⟩
  subst hY
  simp only [weftref37_Of.l1]
  refine AX.seq (AX.seq (AX.reg ?_))
  simp [weftref37_Of.r11, sycs]
  refine AX.pcond rfl (fun he => AX.skip ?_) (fun he => AX.exit ?_)
  · simp at he
    have hg : s.fns[j]? = some s.fns[j] := List.getElem?_eq_getElem he
    have hfk := fu_kinds (hok.2.2.2.2.1 _ (List.getElem_mem he))
    have hft := fnCells_take he
    have hfl := fnCells_le (l := s.fns.take j) fun f hf => fu_kinds (hok.2.2.2.2.1 _ (List.mem_of_mem_take hf))
    have htl : (s.fns.take j).length ≤ 600 := by simp; omega
    generalize s.fns[j] = f at *
    generalize fnCells (s.fns.take j) = g at *
    simp
    refine AX.seq (AX.pblock (AX.reg ?_))
    have w1 : IntKind.i64.wrap ((q.length : Int) + g + f.kinds.length) = (q.length : Int) + g + f.kinds.length := wrap_i64 (by omega) (by omega)
    have w2 : IntKind.i64.wrap ((q.length : Int) + g + f.kinds.length + 1) = (q.length : Int) + g + f.kinds.length + 1 := wrap_i64 (by omega) (by omega)
    simp [weftref37_Of.r12, hg, fucs, w1, w2]
    refine AX.reg ?_
    simp [weftref37_Of.r13, succ_of_lt he (show s.fns.length ≤ 9223372036854775807 by omega)]
    exact ⟨s.fns.length - (j + 1), by omega, _, _, .refl _ _, j + 1, by omega, rfl, rfl, by rw [hft]; simp [sycs]; omega⟩
  simp at he
  rw [List.take_of_length_le he]
  have hfl := fnCells_le (l := s.fns) fun f hf => fu_kinds (hok.2.2.2.2.1 _ hf)
  obtain ⟨N, hN⟩ : ∃ N, N = q.length + fnCells s.fns := ⟨_, rfl⟩
  simp
  refine AX.seq (AX.reg ?_)
  simp [weftref37_Of.r14]
  refine AX.seq (AX.seq (AX.reg ?_))
  simp [weftref37_Of.r15]
  refine AX.pblock (AX.loop (OfI2 s N Y) s.cons.length ⟨_, _, .refl _ _, 0, by omega, by omega, rfl, by simp [sycs, conCount, hN]⟩ ?_)
  rintro m F Z ⟨k, hk, rfl, hZ, rfl⟩
  subst hZ
  simp only [weftref37_Of.l2]
  refine AX.seq (AX.seq (AX.reg ?_))
  simp [weftref37_Of.r16, sycs]
  refine AX.pcond rfl (fun hf => AX.skip ?_) (fun hf => AX.exit ?_)
  case refine_2 =>
    simp at hf
    rw [List.take_of_length_le hf]
    simp
    refine AX.seq (AX.reg ?_)
    simp [weftref37_Of.r20]
    refine AX.ret ?_
    simp [hN]
  simp at hf
  have hg : s.cons[k]? = some s.cons[k] := List.getElem?_eq_getElem hf
  have hft := conCount_take hf
  have hfl2 := conCount_le (s.cons.take k)
  have htl : (s.cons.take k).length ≤ 6000 := by simp; omega
  generalize s.cons[k] = c at *
  generalize hcc : conCount (s.cons.take k) = g at *
  simp
  refine AX.seq (AX.pblock (AX.join (F1 := [(1, .fp (sycs s) 0), (7, .i .i64 (N : Nat)), (9, .i .i64 ((conCount (s.cons.take (k + 1)) : Nat) : Int)), (10, .i .i64 k)]) (H1 := Z) ?_ ?_))
  · refine AX.seq (AX.reg ?_)
    simp [weftref37_Of.r17, hg, cncs]
    refine AX.pcond rfl (fun hh => AX.reg ?_) (fun hh => AX.skip ?_)
    · simp at hh
      have w1 : IntKind.i64.wrap ((g : Int) + 1) = (g : Int) + 1 := wrap_i64 (by omega) (by omega)
      simp [weftref37_Of.r18, w1]
      simp [hft, hh, sycs]
    · simp at hh
      simp [hft, sycs, show ¬ 2 < c.op by omega]
  simp
  refine AX.reg ?_
  simp [weftref37_Of.r19, succ_of_lt hf (show s.cons.length ≤ 9223372036854775807 by omega)]
  exact ⟨s.cons.length - (k + 1), by omega, _, _, .refl _ _, k + 1, by omega, rfl, rfl, by simp [sycs]⟩
end Go.Proofs.YtjemhlndmkbneaaGreatDoor
