/- Part 30 of the proof of the laws of the queries: S20h, S20i, QGrow, QCat. -/
import Derived.Shelf.Spec.SlicesGrow
import Derived.Test.YtjemhlndmkbneaaGreatDoorW22
import Derived.Test.YtjemhlndmkbneaaGreatDoorW28
import Derived.Test.YtjemhlndmkbneaaGreatDoorW29
namespace Go.Proofs.YtjemhlndmkbneaaGreatDoor
open Am C
set_option linter.unusedSimpArgs false
set_option linter.unusedVariables false
def Sep (v : V) (id : Nat) : Prop := match v with
  | .sl (some (k, _, _)) _ _ => k ≠ id
  | _ => True
theorem Am.Acc.sep_new {H X : Hp} {v : V} {es : List (List V)} (A : Acc H 1 v X es) : Sep v X.next := by
  rcases A.sl with ⟨_, z, rfl⟩ | ⟨k, m, h1, rfl, h2, h3⟩
  · trivial
  · have := A.lt k _ h2
    show k ≠ X.next
    omega
theorem Am.Acc.app1 {H X : Hp} {v : V} {l : List Str} (A : Acc H 1 v X (sc1 l)) (hl : ∀ id blk, H.get id = some blk → id < H.next) (x : Str) (hb : l.length ≤ 1000000) {id : Nat} {blk : Blk} (hg : X.get id = some blk) (hs : Sep v id) :
    ∃ v2 X2, sAppend X 1 16 v (.fs [[.s x]]) = some (v2, X2) ∧ Acc H 1 v2 X2 (sc1 (l ++ [x])) ∧ X2.get id = some blk ∧ Sep v2 id := by
  have hlen : (sc1 l).length = l.length := by simp [sc1]
  obtain ⟨v2, X2, e, A2⟩ := A.app (bytes := 16) (ys := [[V.s x]]) hl (by simp) (by omega) (by simp) (by rw [hlen]; simp [roomB]; omega)
  have hid := A.lt id blk hg
  refine ⟨v2, X2, e, by simpa [sc1] using A2, ?_⟩
  rcases A.sl with ⟨h0, z, rfl⟩ | ⟨k, m, h1, rfl, h2, h3⟩
  · simp [sAppend, slCells] at e
    obtain ⟨_, e⟩ := e
    obtain ⟨rfl, rfl⟩ := e
    refine ⟨?_, ?_⟩
    · simp [show ¬ id = X.next by omega, hg]
    · show X.next ≠ id
      omega
  · have hk : k ≠ id := hs
    have hfl : (sc1 l).flatten.length = l.length := by rw [flat_len A.all, hlen]; simp
    simp only [sAppend, slCells] at e
    simp [h2, hlen, hfl] at e
    obtain ⟨_, rfl, rfl⟩ := e
    exact ⟨by simp [Ne.symm hk, hg], hk⟩
def SNdInv (s : Sy) (H : Hp) (m : Nat) (F : Fr) (X : Hp) : Prop :=
  ∃ i v, i ≤ s.cons.length ∧ m = s.cons.length - i ∧ Acc H 1 v X (sc1 (conP s i)) ∧ F = [(1, .fp (sycs s) 0), (3, v), (15, .fs (s.cons.map cncs)), (16, .i .i64 s.cons.length), (17, .i .i64 i)]
def SNdInv1 (s : Sy) (P args : List Str) (i : Nat) (H : Hp) (m : Nat) (F : Fr) (X : Hp) : Prop :=
  ∃ k v, k ≤ args.length ∧ m = args.length - k ∧ Acc H 1 v X (sc1 (P ++ (args.take k).filter neS)) ∧
    F = [(1, .fp (sycs s) 0), (3, v), (15, .fs (s.cons.map cncs)), (16, .i .i64 s.cons.length), (17, .i .i64 i), (35, ss args), (36, .i .i64 args.length), (37, .i .i64 k)]
def SNdInv2 (s : Sy) (H : Hp) (m : Nat) (F : Fr) (X : Hp) : Prop :=
  ∃ i v, i ≤ s.objs.length ∧ m = s.objs.length - i ∧ Acc H 1 v X (sc1 (s.cons.flatMap nodesC ++ obP s false i)) ∧ F = [(3, v), (50, .fs (s.objs.map obcs)), (51, .i .i64 s.objs.length), (52, .i .i64 i)]
def SNdInv3 (s : Sy) (P : List Str) (o : Ob) (i id : Nat) (blk : Blk) (H : Hp) (m : Nat) (F : Fr) (X : Hp) : Prop :=
  ∃ k v, k ≤ o.kinds.length ∧ m = o.kinds.length - k ∧ Acc H 1 v X (sc1 (P ++ cellsP o false k)) ∧ X.get id = some blk ∧ Sep v id ∧
    F = [(3, v), (9, .p (some (id, 0, 3))), (50, .fs (s.objs.map obcs)), (51, .i .i64 s.objs.length), (52, .i .i64 i), (58, .i .i64 o.kinds.length), (59, .i .i64 k)]
theorem SNodes_ok (s : Sy) (hs : syS s) (H : Hp) : AC Tryz.prog n_system_Nodes [.agg (sycs s)] H (fun v H' => v = ss (nodesS s) ∧ H' = H) := by
  refine AC.codeP system_Nodes.at system_Nodes.ok (free_ss _) fun hlt => ?_
  simp only [system_Nodes]
  refine AX.seq (AX.reg ?_)
  simp [system_Nodes.r0, sycs]
  refine AX.seq (AX.seq (AX.reg ?_))
  simp [system_Nodes.r1]
  refine AC.fix (SCheck_ok s hs _) ?_
  simp
  unfold nodesS
  refine AX.pcond rfl (fun hb => ?_) (fun hb => AX.skip ?_)
  · simp at hb
    refine AX.seq (AX.reg ?_)
    simp [system_Nodes.r2]
    refine AX.ret ?_
    simp [hb]
    exact ⟨.refl _, .sl0 _⟩
  simp at hb
  have hok := sys_ok hb
  obtain ⟨_, _, _, ho, _, hcn⟩ := hs
  have hcl := conP_len hb
  have hol := obP_len false hb
  rw [if_pos hb]
  simp
  refine AX.seq (AX.reg ?_)
  simp [system_Nodes.r3]
  refine AX.seq (AX.seq (AX.reg ?_))
  simp [system_Nodes.r4]
  refine AX.pblock (AX.loop (SNdInv s H) s.cons.length ⟨_, _, .refl _ _, 0, .sl none 0 0, by omega, by omega, .nil 1 0 (.refl _) hlt, by simp [sycs]⟩ ?_)
  rintro m F X ⟨i, v, hi, rfl, A, rfl⟩
  simp only [system_Nodes.l0]
  refine AX.seq (AX.reg ?_)
  simp [system_Nodes.r5]
  refine AX.seq (AX.pcond rfl (fun hc => AX.skip ?_) (fun hc => AX.exit ?_))
  · simp at hc
    have hcz := hok.2.2.2.2.2 _ (List.getElem_mem hc)
    have hg : s.cons[i]? = some s.cons[i] := List.getElem?_eq_getElem hc
    have hft := flat_take (f := nodesC) hc
    simp
    generalize s.cons[i] = c at *
    have hca := cn_args hcz
    refine AX.seq (AX.pblock (AX.seq (AX.reg ?_)))
    simp [system_Nodes.r6, hg, cncs, ss]
    have B := A.more (ext2 A.lt (.cells [.i .i64 0, .s [], .s [], .i .i64 0, .s [], .sl none 0 0] 6) (.cells [.i .i64 c.op, .s c.a, .s c.b, .i .i64 c.k, .s c.tag, .fs (c.args.map fun x => [.s x])] 6)) (lt2 A.lt _ _)
    have G4 : ((X.add (.cells [.i .i64 0, .s [], .s [], .i .i64 0, .s [], .sl none 0 0] 6)).upd X.next (.cells [.i .i64 c.op, .s c.a, .s c.b, .i .i64 c.k, .s c.tag, .fs (c.args.map fun x => [.s x])] 6)).get X.next = some (.cells [.i .i64 c.op, .s c.a, .s c.b, .i .i64 c.k, .s c.tag, .fs (c.args.map fun x => [.s x])] 6) := by simp
    have hsp := A.sep_new
    generalize (X.add (.cells [.i .i64 0, .s [], .s [], .i .i64 0, .s [], .sl none 0 0] 6)).upd X.next (.cells [.i .i64 c.op, .s c.a, .s c.b, .i .i64 c.k, .s c.tag, .fs (c.args.map fun x => [.s x])] 6) = Z at *
    generalize X.next = id at *
    have hPl := hcl i
    have hP3 : conP s (i + 1) = conP s i ++ cnP c ++ c.args.filter neS := by
      unfold conP
      rw [hft, nodesC_eq, List.append_assoc]
    obtain ⟨v1, X1, e1, A1, G1, S1⟩ := B.app1 hlt c.a (by omega) G4 hsp
    refine AX.seq (AX.reg ?_)
    simp [system_Nodes.r7, G4, repl, -sAppend, e1]
    refine AX.cut (fun F Y => ∃ v2, F = [(1, .fp (sycs s) 0), (3, v2), (5, .p (some (id, 0, 6))), (15, .fs (s.cons.map cncs)), (16, .i .i64 s.cons.length), (17, .i .i64 i)] ∧ Acc H 1 v2 Y (sc1 (conP s i ++ cnP c)) ∧ Y.get id = some (.cells [.i .i64 c.op, .s c.a, .s c.b, .i .i64 c.k, .s c.tag, .fs (c.args.map fun x => [.s x])] 6)) ?_ ?_
    · refine AX.seq (AX.reg ?_)
      simp [system_Nodes.r8, G1]
      refine AX.pcond rfl (fun hd => AX.reg ?_) (fun hd => AX.skip ?_)
      · simp at hd
        obtain ⟨v2, X2, e2, A2, G2, S2⟩ := A1.app1 hlt c.b (by simp; omega) G1 S1
        simp [system_Nodes.r9, G1, repl, -sAppend, e2]
        exact ⟨_, _, .refl _ _, v2, by simp [sycs], by simpa [cnP, hd] using A2, by simpa using G2⟩
      · simp at hd
        exact ⟨_, _, .refl _ _, v1, by simp [sycs], by simpa [cnP, hd] using A1, by simpa using G1⟩
    rintro F Y ⟨v2, rfl, A2, G2⟩
    have hPl2 : (conP s i ++ cnP c).length ≤ 54002 := by
      have : (cnP c).length ≤ 2 := by unfold cnP; split <;> simp
      simp; omega
    generalize conP s i ++ cnP c = P at *
    refine AX.seq (AX.reg ?_)
    simp [system_Nodes.r10, G2]
    generalize c.args = args at *
    refine AX.pblock (AX.loop (SNdInv1 s P args i H) args.length ⟨_, _, .refl _ _, 0, v2, by omega, by omega, by simpa using A2, by simp [sycs, ss]⟩ ?_)
    rintro m F W ⟨k, w, hk, rfl, B2, rfl⟩
    simp only [system_Nodes.l1]
    refine AX.seq (AX.reg ?_)
    simp [system_Nodes.r11]
    refine AX.seq (AX.pcond rfl (fun hd => AX.skip ?_) (fun hd => AX.exit ?_))
    case refine_2 =>
      simp at hd
      rw [List.take_of_length_le hd] at B2
      simp
      refine AX.reg ?_
      simp [system_Nodes.r16, succ_of_lt hc (show s.cons.length ≤ 9223372036854775807 by omega)]
      exact ⟨s.cons.length - (i + 1), by omega, _, _, .refl _ _, i + 1, w, by omega, rfl, by rw [hP3]; exact B2, by simp [sycs]⟩
    simp at hd
    have hga : args[k]? = some args[k] := List.getElem?_eq_getElem hd
    have hta : (args.take (k + 1)).filter neS = (args.take k).filter neS ++ (if neS args[k] then [args[k]] else []) := by
      rw [List.take_add_one, hga, List.filter_append]
      by_cases h : neS args[k] <;> simp [h]
    have hfl : ((args.take k).filter neS).length ≤ 7 := by
      have := List.length_filter_le neS (args.take k)
      have : (args.take k).length ≤ args.length := by simp; omega
      omega
    simp
    refine AX.seq (AX.pblock (AX.seq (AX.reg ?_)))
    simp [system_Nodes.r12, ss, hd]
    generalize args[k] = a at *
    refine AX.seq (AX.reg ?_)
    simp [system_Nodes.r13]
    refine AX.pcond rfl (fun he => AX.reg ?_) (fun he => AX.skip ?_)
    · simp at he
      obtain ⟨w1, W1, e3, B3⟩ := B2.app (bytes := 16) (ys := [[V.s a]]) hlt (by simp) (by omega) (by simp) (by simp [sc1, roomB]; omega)
      simp [system_Nodes.r14, repl, -sAppend, e3]
      refine AX.reg ?_
      simp [system_Nodes.r15, succ_of_lt hd (show args.length ≤ 9223372036854775807 by omega)]
      refine ⟨args.length - (k + 1), by omega, _, _, .refl _ _, k + 1, w1, by omega, rfl, ?_, by simp [sycs, ss]⟩
      rw [hta]
      simpa [sc1, neS, he] using B3
    · simp at he
      simp
      refine AX.reg ?_
      simp [system_Nodes.r15, succ_of_lt hd (show args.length ≤ 9223372036854775807 by omega)]
      refine ⟨args.length - (k + 1), by omega, _, _, .refl _ _, k + 1, w, by omega, rfl, ?_, by simp [sycs, ss]⟩
      rw [hta]
      simpa [sc1, neS, he] using B2
  simp at hc
  have hce : conP s i = s.cons.flatMap nodesC := by unfold conP; rw [List.take_of_length_le hc]
  have hNl : (s.cons.flatMap nodesC).length ≤ 54000 := by rw [← hce]; exact hcl i
  rw [hce] at A
  simp
  refine AX.seq (AX.seq (AX.reg ?_))
  simp [system_Nodes.r17, sycs]
  refine AX.pblock (AX.loop (SNdInv2 s H) s.objs.length ⟨_, _, .refl _ _, 0, v, by omega, by omega, by simpa [obP] using A, by simp⟩ ?_)
  rintro m F Y ⟨j, v2, hj, rfl, A2, rfl⟩
  simp only [system_Nodes.l2]
  refine AX.seq (AX.reg ?_)
  simp [system_Nodes.r18]
  refine AX.seq (AX.pcond rfl (fun hd => AX.skip ?_) (fun hd => AX.exit ?_))
  case refine_2 =>
    simp at hd
    have hoe : obP s false j = s.objs.flatMap fun o => cellsL o false := by unfold obP; rw [List.take_of_length_le hd]
    have hnl : s.cons.flatMap nodesC ++ obP s false j = nodesL s := by rw [hoe]; rfl
    rw [hnl] at A2
    simp
    refine AX.wk (Wk.freeze (fun id => H.next ≤ id) (frzF_cons A2.frz frzF_nil)) ?_
    refine AX.seq (AX.reg ?_)
    simp [system_Nodes.r27]
    refine AC.fix (ISorted_ok (nodesL s) (by have := nodesL_len hb; omega) _) ?_
    simp
    refine AX.ret ?_
    simp [ss]
    exact ⟨Hp.wo_new A2.ext hlt, .refl _⟩
  simp at hd
  have hox := ho _ (List.getElem_mem hd)
  have hoz := hok.2.2.2.1 _ (List.getElem_mem hd)
  have hg : s.objs[j]? = some s.objs[j] := List.getElem?_eq_getElem hd
  have hft := flat_take (f := fun o => cellsL o false) hd
  simp
  generalize s.objs[j] = o at *
  have hkk := ob_kinds hoz
  have hP3 : s.cons.flatMap nodesC ++ obP s false (j + 1) = s.cons.flatMap nodesC ++ obP s false j ++ cellsL o false := by
    unfold obP
    rw [hft, List.append_assoc]
  have hPl : (s.cons.flatMap nodesC ++ obP s false j).length ≤ 92400 := by have := hol j; simp only [List.length_append]; omega
  generalize s.cons.flatMap nodesC ++ obP s false j = P at *
  refine AX.seq (AX.pblock (AX.seq (AX.reg ?_)))
  simp [system_Nodes.r19, hg, obcs]
  have B := A2.more (ext2 A2.lt (.cells [.s [], .s [], .sl none 0 0] 3) (.cells [.s o.name, .s o.kinds, .fs (o.marks.map mkcs)] 3)) (lt2 A2.lt _ _)
  have G4 : ((Y.add (.cells [.s [], .s [], .sl none 0 0] 3)).upd Y.next (.cells [.s o.name, .s o.kinds, .fs (o.marks.map mkcs)] 3)).get Y.next = some (.cells [.s o.name, .s o.kinds, .fs (o.marks.map mkcs)] 3) := by simp
  have hsp := A2.sep_new
  generalize (Y.add (.cells [.s [], .s [], .sl none 0 0] 3)).upd Y.next (.cells [.s o.name, .s o.kinds, .fs (o.marks.map mkcs)] 3) = Z at *
  generalize Y.next = id at *
  refine AX.seq (AX.reg ?_)
  simp [system_Nodes.r20, G4]
  refine AX.pblock (AX.loop (SNdInv3 s P o j id (.cells [.s o.name, .s o.kinds, .fs (o.marks.map mkcs)] 3) H) o.kinds.length ⟨_, _, .refl _ _, 0, v2, by omega, by omega, by simpa [cellsP] using B, G4, hsp, by simp⟩ ?_)
  rintro m F W ⟨k, w, hk, rfl, B2, G5, S5, rfl⟩
  simp only [system_Nodes.l3]
  refine AX.seq (AX.reg ?_)
  simp [system_Nodes.r21]
  refine AX.seq (AX.pcond rfl (fun he => AX.skip ?_) (fun he => AX.exit ?_))
  case refine_2 =>
    simp at he
    have : k = o.kinds.length := by omega
    subst this
    simp
    refine AX.reg ?_
    simp [system_Nodes.r26, succ_of_lt hd (show s.objs.length ≤ 9223372036854775807 by omega)]
    exact ⟨s.objs.length - (j + 1), by omega, _, _, .refl _ _, j + 1, w, by omega, rfl, by rw [hP3]; exact B2, by simp⟩
  simp at he
  have hs3 := cellsP_succ o false k
  have hlen := cellsP_len o false k
  have e2 : ((o.kinds[k].toNat : Int) = 112) = (o.kinds[k] = 112) := u8_ne o.kinds[k] 112 (by omega)
  have hka : kindAt o false k = decide (o.kinds[k] = 112) := by simp [kindAt, he]
  simp
  refine AX.seq (AX.pblock (AX.seq (AX.reg ?_)))
  simp [system_Nodes.r22]
  refine AX.seq (AX.reg ?_)
  simp [system_Nodes.r23, G5, he, e2]
  refine AX.pcond rfl (fun hf => AX.reg ?_) (fun hf => AX.skip ?_)
  · simp at hf
    obtain ⟨w1, W1, e3, B3, G6, S6⟩ := B2.app1 hlt (cellN o.name k) (by simp only [List.length_append]; omega) G5 S5
    simp [system_Nodes.r24, G5]
    refine AC.fix (NCell_ok o.name k (by have := hox.1; omega) _) ?_
    simp [repl, -sAppend, e3]
    refine AX.reg ?_
    simp [system_Nodes.r25, succ_of_lt he (show o.kinds.length ≤ 9223372036854775807 by omega)]
    refine ⟨o.kinds.length - (k + 1), by omega, _, _, .refl _ _, k + 1, w1, by omega, rfl, ?_, G6, S6, by simp⟩
    rw [hs3, hka]
    simpa [hf] using B3
  · simp at hf
    simp
    refine AX.reg ?_
    simp [system_Nodes.r25, succ_of_lt he (show o.kinds.length ≤ 9223372036854775807 by omega)]
    refine ⟨o.kinds.length - (k + 1), by omega, _, _, .refl _ _, k + 1, w, by omega, rfl, ?_, G5, S5, by simp⟩
    rw [hs3, hka]
    simpa [hf] using B2
end Go.Proofs.YtjemhlndmkbneaaGreatDoor
namespace Go.Proofs.YtjemhlndmkbneaaGreatDoor
open Am C
set_option linter.unusedSimpArgs false
set_option linter.unusedVariables false
def SPlInv (s : Sy) (H : Hp) (m : Nat) (F : Fr) (X : Hp) : Prop :=
  ∃ i v, i ≤ s.objs.length ∧ m = s.objs.length - i ∧ Acc H 1 v X (sc1 (obP s true i)) ∧ F = [(1, .fp (sycs s) 0), (3, v), (15, .fs (s.objs.map obcs)), (16, .i .i64 s.objs.length), (17, .i .i64 i)]
def SPlInv1 (s : Sy) (P : List Str) (o : Ob) (i id : Nat) (blk : Blk) (H : Hp) (m : Nat) (F : Fr) (X : Hp) : Prop :=
  ∃ k v, k ≤ o.kinds.length ∧ m = o.kinds.length - k ∧ Acc H 1 v X (sc1 (P ++ cellsP o true k)) ∧ X.get id = some blk ∧ Sep v id ∧
    F = [(1, .fp (sycs s) 0), (3, v), (5, .p (some (id, 0, 3))), (15, .fs (s.objs.map obcs)), (16, .i .i64 s.objs.length), (17, .i .i64 i), (23, .i .i64 o.kinds.length), (24, .i .i64 k)]
def SPlInv2 (s : Sy) (P : List Str) (H : Hp) (m : Nat) (F : Fr) (X : Hp) : Prop :=
  ∃ i v, i ≤ s.fns.length ∧ m = s.fns.length - i ∧ Acc H 1 v X (sc1 (P ++ (s.fns.map Fu.name).take i)) ∧ F = [(1, .fp (sycs s) 0), (3, v), (37, .fs (s.fns.map fucs)), (38, .i .i64 s.fns.length), (39, .i .i64 i)]
def SPlInv3 (s : Sy) (P : List Str) (H : Hp) (m : Nat) (F : Fr) (X : Hp) : Prop :=
  ∃ i v, i ≤ s.cons.length ∧ m = s.cons.length - i ∧ Acc H 1 v X (sc1 (P ++ (s.cons.take i).filterMap adB)) ∧ F = [(3, v), (50, .fs (s.cons.map cncs)), (51, .i .i64 s.cons.length), (52, .i .i64 i)]
theorem SPlaces_ok (s : Sy) (hs : syS s) (H : Hp) : AC Tryz.prog n_system_Places [.agg (sycs s)] H (fun v H' => v = ss (placesS s) ∧ H' = H) := by
  refine AC.codeP system_Places.at system_Places.ok (free_ss _) fun hlt => ?_
  simp only [system_Places]
  refine AX.seq (AX.reg ?_)
  simp [system_Places.r0, sycs]
  refine AX.seq (AX.seq (AX.reg ?_))
  simp [system_Places.r1]
  refine AC.fix (SCheck_ok s hs _) ?_
  simp
  unfold placesS
  refine AX.pcond rfl (fun hb => ?_) (fun hb => AX.skip ?_)
  · simp at hb
    refine AX.seq (AX.reg ?_)
    simp [system_Places.r2]
    refine AX.ret ?_
    simp [hb]
    exact ⟨.refl _, .sl0 _⟩
  simp at hb
  have hok := sys_ok hb
  obtain ⟨_, _, _, ho, _, hcn⟩ := hs
  have hol := obP_len true hb
  rw [if_pos hb]
  have hpl := placesL_eq s
  have hpl2 := placesL_len hb
  generalize placesL s = PL at *
  simp
  refine AX.seq (AX.reg ?_)
  simp [system_Places.r3]
  refine AX.seq (AX.seq (AX.reg ?_))
  simp [system_Places.r4]
  refine AX.pblock (AX.loop (SPlInv s H) s.objs.length ⟨_, _, .refl _ _, 0, .sl none 0 0, by omega, by omega, .nil 1 0 (.refl _) hlt, by simp [sycs]⟩ ?_)
  rintro m F Y ⟨j, v2, hj, rfl, A2, rfl⟩
  simp only [system_Places.l0]
  refine AX.seq (AX.reg ?_)
  simp [system_Places.r5]
  refine AX.seq (AX.pcond rfl (fun hd => AX.skip ?_) (fun hd => AX.exit ?_))
  · simp at hd
    have hox := ho _ (List.getElem_mem hd)
    have hoz := hok.2.2.2.1 _ (List.getElem_mem hd)
    have hg : s.objs[j]? = some s.objs[j] := List.getElem?_eq_getElem hd
    have hft := flat_take (f := fun o => cellsL o true) hd
    simp
    generalize s.objs[j] = o at *
    have hkk := ob_kinds hoz
    have hP3 : obP s true (j + 1) = obP s true j ++ cellsL o true := by
      unfold obP
      rw [hft]
    have hPl := hol j
    generalize obP s true j = P at *
    refine AX.seq (AX.pblock (AX.seq (AX.reg ?_)))
    simp [system_Places.r6, hg, obcs]
    have B := A2.more (ext2 A2.lt (.cells [.s [], .s [], .sl none 0 0] 3) (.cells [.s o.name, .s o.kinds, .fs (o.marks.map mkcs)] 3)) (lt2 A2.lt _ _)
    have G4 : ((Y.add (.cells [.s [], .s [], .sl none 0 0] 3)).upd Y.next (.cells [.s o.name, .s o.kinds, .fs (o.marks.map mkcs)] 3)).get Y.next = some (.cells [.s o.name, .s o.kinds, .fs (o.marks.map mkcs)] 3) := by simp
    have hsp := A2.sep_new
    generalize (Y.add (.cells [.s [], .s [], .sl none 0 0] 3)).upd Y.next (.cells [.s o.name, .s o.kinds, .fs (o.marks.map mkcs)] 3) = Z at *
    generalize Y.next = id at *
    refine AX.seq (AX.reg ?_)
    simp [system_Places.r7, G4]
    refine AX.pblock (AX.loop (SPlInv1 s P o j id (.cells [.s o.name, .s o.kinds, .fs (o.marks.map mkcs)] 3) H) o.kinds.length ⟨_, _, .refl _ _, 0, v2, by omega, by omega, by simpa [cellsP] using B, G4, hsp, by simp [sycs]⟩ ?_)
    rintro m F W ⟨k, w, hk, rfl, B2, G5, S5, rfl⟩
    simp only [system_Places.l1]
    refine AX.seq (AX.reg ?_)
    simp [system_Places.r8]
    refine AX.seq (AX.pcond rfl (fun he => AX.skip ?_) (fun he => AX.exit ?_))
    case refine_2 =>
      simp at he
      have : k = o.kinds.length := by omega
      subst this
      simp
      refine AX.reg ?_
      simp [system_Places.r12, succ_of_lt hd (show s.objs.length ≤ 9223372036854775807 by omega)]
      exact ⟨s.objs.length - (j + 1), by omega, _, _, .refl _ _, j + 1, w, by omega, rfl, by rw [hP3]; exact B2, by simp [sycs]⟩
    simp at he
    have hs3 := cellsP_succ o true k
    have hlen := cellsP_len o true k
    have hka : kindAt o true k = true := by simp [kindAt]
    simp
    refine AX.seq (AX.pblock (AX.seq (AX.reg ?_)))
    simp [system_Places.r9]
    obtain ⟨w1, W1, e3, B3, G6, S6⟩ := B2.app1 hlt (cellN o.name k) (by simp only [List.length_append]; omega) G5 S5
    refine AX.reg ?_
    simp [system_Places.r10, G5]
    refine AC.fix (NCell_ok o.name k (by have := hox.1; omega) _) ?_
    simp [repl, -sAppend, e3]
    refine AX.reg ?_
    simp [system_Places.r11, succ_of_lt he (show o.kinds.length ≤ 9223372036854775807 by omega)]
    refine ⟨o.kinds.length - (k + 1), by omega, _, _, .refl _ _, k + 1, w1, by omega, rfl, ?_, G6, S6, by simp [sycs]⟩
    rw [hs3, hka]
    simpa using B3
  simp at hd
  have hoe : obP s true j = obP s true s.objs.length := by unfold obP; rw [List.take_of_length_le hd, List.take_length]
  rw [hoe] at A2
  have hP0 := hol s.objs.length
  generalize obP s true s.objs.length = P at *
  simp
  refine AX.seq (AX.seq (AX.reg ?_))
  simp [system_Places.r13, sycs]
  refine AX.pblock (AX.loop (SPlInv2 s P H) s.fns.length ⟨_, _, .refl _ _, 0, v2, by omega, by omega, by simpa using A2, by simp [sycs]⟩ ?_)
  rintro m F Y2 ⟨i, v3, hi, rfl, A3, rfl⟩
  simp only [system_Places.l2]
  refine AX.seq (AX.reg ?_)
  simp [system_Places.r14]
  refine AX.seq (AX.pcond rfl (fun he => AX.skip ?_) (fun he => AX.exit ?_))
  · simp at he
    have hg : s.fns[i]? = some s.fns[i] := List.getElem?_eq_getElem he
    have htk : (s.fns.map Fu.name).take (i + 1) = (s.fns.map Fu.name).take i ++ [s.fns[i].name] := by
      rw [List.take_add_one, List.getElem?_map, hg]; rfl
    have htl : ((s.fns.map Fu.name).take i).length ≤ 600 := by simp; omega
    simp
    generalize s.fns[i] = f at *
    refine AX.seq (AX.pblock (AX.seq (AX.reg ?_)))
    simp [system_Places.r15, hg, fucs]
    have B := A3.more (ext2 A3.lt (.cells [.s [], .s [], .s []] 3) (.cells [.s f.name, .s f.kinds, .s f.ret] 3)) (lt2 A3.lt _ _)
    have G4 : ((Y2.add (.cells [.s [], .s [], .s []] 3)).upd Y2.next (.cells [.s f.name, .s f.kinds, .s f.ret] 3)).get Y2.next = some (.cells [.s f.name, .s f.kinds, .s f.ret] 3) := by simp
    have hsp := A3.sep_new
    generalize (Y2.add (.cells [.s [], .s [], .s []] 3)).upd Y2.next (.cells [.s f.name, .s f.kinds, .s f.ret] 3) = Z at *
    generalize Y2.next = id at *
    obtain ⟨w1, W1, e3, B3, G6, S6⟩ := B.app1 hlt f.name (by simp only [List.length_append]; omega) G4 hsp
    refine AX.reg ?_
    simp [system_Places.r16, G4, repl, -sAppend, e3]
    refine AX.reg ?_
    simp [system_Places.r17, succ_of_lt he (show s.fns.length ≤ 9223372036854775807 by omega)]
    refine ⟨s.fns.length - (i + 1), by omega, _, _, .refl _ _, i + 1, w1, by omega, rfl, ?_, by simp [sycs]⟩
    rw [htk, ← List.append_assoc]
    exact B3
  simp at he
  rw [show (s.fns.map Fu.name).take i = s.fns.map Fu.name from List.take_of_length_le (by simpa using he)] at A3
  have hP1 : (P ++ s.fns.map Fu.name).length ≤ 39000 := by simp; omega
  generalize P ++ s.fns.map Fu.name = Q at *
  simp
  refine AX.seq (AX.seq (AX.reg ?_))
  simp [system_Places.r18, sycs]
  refine AX.pblock (AX.loop (SPlInv3 s Q H) s.cons.length ⟨_, _, .refl _ _, 0, v3, by omega, by omega, by simpa using A3, by simp⟩ ?_)
  rintro m F Y3 ⟨q, v4, hq, rfl, A4, rfl⟩
  simp only [system_Places.l3]
  refine AX.seq (AX.reg ?_)
  simp [system_Places.r19]
  refine AX.seq (AX.pcond rfl (fun hf => AX.skip ?_) (fun hf => AX.exit ?_))
  case refine_2 =>
    simp at hf
    rw [List.take_of_length_le hf, ← hpl] at A4
    simp
    refine AX.wk (Wk.freeze (fun id => H.next ≤ id) (frzF_cons A4.frz frzF_nil)) ?_
    refine AX.seq (AX.reg ?_)
    simp [system_Places.r24]
    refine AC.fix (ISorted_ok PL (by omega) _) ?_
    simp
    refine AX.ret ?_
    simp [ss]
    exact ⟨Hp.wo_new A4.ext hlt, .refl _⟩
  simp at hf
  have hg : s.cons[q]? = some s.cons[q] := List.getElem?_eq_getElem hf
  have htk : (s.cons.take (q + 1)).filterMap adB = (s.cons.take q).filterMap adB ++ (adB s.cons[q]).toList := by
    rw [List.take_add_one, hg, List.filterMap_append]
    cases h : adB s.cons[q] <;> simp [h]
  have htl : ((s.cons.take q).filterMap adB).length ≤ 6000 := by
    have := List.length_filterMap_le adB (s.cons.take q)
    have h2 : (s.cons.take q).length ≤ 6000 := by simp; omega
    omega
  simp
  generalize s.cons[q] = c at *
  refine AX.seq (AX.pblock (AX.seq (AX.reg ?_)))
  simp [system_Places.r20, hg, cncs, ss]
  have B := A4.more (ext2 A4.lt (.cells [.i .i64 0, .s [], .s [], .i .i64 0, .s [], .sl none 0 0] 6) (.cells [.i .i64 c.op, .s c.a, .s c.b, .i .i64 c.k, .s c.tag, .fs (c.args.map fun x => [.s x])] 6)) (lt2 A4.lt _ _)
  have G4 : ((Y3.add (.cells [.i .i64 0, .s [], .s [], .i .i64 0, .s [], .sl none 0 0] 6)).upd Y3.next (.cells [.i .i64 c.op, .s c.a, .s c.b, .i .i64 c.k, .s c.tag, .fs (c.args.map fun x => [.s x])] 6)).get Y3.next = some (.cells [.i .i64 c.op, .s c.a, .s c.b, .i .i64 c.k, .s c.tag, .fs (c.args.map fun x => [.s x])] 6) := by simp
  have hsp := A4.sep_new
  generalize (Y3.add (.cells [.i .i64 0, .s [], .s [], .i .i64 0, .s [], .sl none 0 0] 6)).upd Y3.next (.cells [.i .i64 c.op, .s c.a, .s c.b, .i .i64 c.k, .s c.tag, .fs (c.args.map fun x => [.s x])] 6) = Z at *
  generalize Y3.next = id at *
  refine AX.seq (AX.reg ?_)
  simp [system_Places.r21, G4]
  refine AX.pcond rfl (fun hh => AX.reg ?_) (fun hh => AX.skip ?_)
  · simp at hh
    obtain ⟨w1, W1, e3, B3, G6, S6⟩ := B.app1 hlt c.b (by simp only [List.length_append]; omega) G4 hsp
    simp [system_Places.r22, G4, repl, -sAppend, e3]
    refine AX.reg ?_
    simp [system_Places.r23, succ_of_lt hf (show s.cons.length ≤ 9223372036854775807 by omega)]
    refine ⟨s.cons.length - (q + 1), by omega, _, _, .refl _ _, q + 1, w1, by omega, rfl, ?_, by simp⟩
    rw [htk, ← List.append_assoc]
    simpa [adB, hh] using B3
  · simp at hh
    simp
    refine AX.reg ?_
    simp [system_Places.r23, succ_of_lt hf (show s.cons.length ≤ 9223372036854775807 by omega)]
    refine ⟨s.cons.length - (q + 1), by omega, _, _, .refl _ _, q + 1, v4, by omega, rfl, ?_, by simp⟩
    rw [htk]
    simpa [adB, hh] using B
end Go.Proofs.YtjemhlndmkbneaaGreatDoor
namespace Go.Proofs
open Go.Shelf Go.RowKit Go.Sort Go.Lib
def Tryz.growS_ren : Go.Shelf.Ren := ⟨fun | 4 => 30 | n => n, fun | 22 => 44 | 25 => 9 | 3 => 3 | 4 => 4 | 9 => 9 | 20 => 20 | 0 => 0 | n => n, fun | n => n⟩
theorem Tryz.growS : Go.Proofs.Lays8.n4 Tryz.prog Tryz.growS_ren := {
  mixed := by kernel_rfl
  f4 := ⟨Tryz.f30.name, by decide, Tryz.func30.trans (congrArg some (by kernel_rfl))⟩
  t0 := Tryz.underlying0
  a0 := Tryz.isAgg0
  z0 := Tryz.sizeOf0
  v0 := Tryz.zeroValue0
  t3 := Tryz.underlying3
  a3 := Tryz.isAgg3
  z3 := Tryz.sizeOf3
  v3 := Tryz.zeroValue3
  t4 := Tryz.underlying4
  a4 := Tryz.isAgg4
  z4 := Tryz.sizeOf4
  v4 := Tryz.zeroValue4
  t9 := Tryz.underlying9
  a9 := Tryz.isAgg9
  z9 := Tryz.sizeOf9
  v9 := Tryz.zeroValue9
  t20 := Tryz.underlying20
  a20 := Tryz.isAgg20
  z20 := Tryz.sizeOf20
  v20 := Tryz.zeroValue20
  t22 := Tryz.underlying44
  a22 := Tryz.isAgg44
  z22 := Tryz.sizeOf44
  v22 := Tryz.zeroValue44 }
end Go.Proofs
namespace Go.Proofs.YtjemhlndmkbneaaGreatDoor
open Am C
set_option linter.unusedSimpArgs false
set_option linter.unusedVariables false
section
open Go Go.RowKit
theorem Am.flat_inv {α : Type} {sz : Nat} : ∀ {es : List (List α)}, (∀ e ∈ es, e.length = sz) → ∀ {k : Nat} {v : α}, es.flatten[k]? = some v → ∃ i j e, es[i]? = some e ∧ e[j]? = some v ∧ k = i * sz + j
  | [], _, k, v, h => by simp at h
  | e :: es, hs, k, v, h => by
    have h0 := hs e (by simp)
    simp only [List.flatten_cons] at h
    by_cases hk : k < e.length
    · rw [List.getElem?_append_left hk] at h
      exact ⟨0, k, e, rfl, h, by omega⟩
    · rw [List.getElem?_append_right (by omega)] at h
      obtain ⟨i, j, e', h1, h2, h3⟩ := Am.flat_inv (fun x hx => hs x (by simp [hx])) h
      exact ⟨i + 1, j, e', by simpa using h1, h2, by rw [Nat.succ_mul]; omega⟩
theorem Am.AC.rowA {P : Program} {f : FuncId} {args : List V} {H : Hp} {es : List (List V)} {T sz : Nat} (hok : okFn P f = true) (hsz : 0 < sz) (hes : ∀ e ∈ es, e.length = sz)
    (h : ∀ (κ : K) (cs : List Value), Sim κ H → VRs κ args cs → ∃ cv : Nat → Nat → Value, (∀ (κ' : K) (i j : Nat) e v, es[i]? = some e → e[j]? = some v → VR κ' v (cv i j)) ∧
      Calls P f cs.toArray κ.w (fun e w' => ∃ v' xs, e = .returned v' ∧ w'.ownsRow κ.w.heap.size T sz v' es.length xs ∧ (∀ (i j : Nat) e v, es[i]? = some e → e[j]? = some v → xs[i * sz + j]? = some (cv i j)) ∧ RowKit.Below κ.w.heap.size κ.w w')) :
    AC P f args H (fun r H' => Acc H sz r H' es) := by
  refine ⟨hok, fun κ cs S r => ?_⟩
  obtain ⟨cv, hv, hc⟩ := h κ cs S r
  refine hc.mono fun e w' ⟨v', xs, he, ho, hx, hb⟩ => ?_
  obtain ⟨hlen, ⟨rfl, h0⟩ | ⟨g, cap, cur, rfl, hg, hgb, hcap, hmax, hcur, htake⟩⟩ := ho
  · have hnil : es = [] := List.length_eq_zero_iff.1 h0
    subst hnil
    exact ⟨{ κ with w := w' }, .sl none 0 0, .slice none 0 0, H, he, rfl, K.below_le S hb, S.below hb, .sl0 0 none, Acc.nil sz 0 (.refl _) S.lt⟩
  · have S' := S.below hb
    have le := K.below_le S hb
    have hfl := flat_len hes
    have hle : es.flatten.length ≤ cap * sz := by rw [hfl]; exact Nat.mul_le_mul_right _ hcap
    obtain ⟨κ', e1, le2, S3, e2, e3⟩ := Sim.adopt S' (b := g) (o := 0) (ds := es.flatten) hgb (by omega) (fun k v hk => by
      obtain ⟨i, j, e, h1, h2, rfl⟩ := flat_inv hes hk
      have h3 := hx i j e v h1 h2
      rw [← htake, List.getElem?_take] at h3
      split at h3
      · rw [Array.getD_eq_getD_getElem?, Nat.zero_add, ← Array.getElem?_toList, h3]
        exact hv _ i j e v h1 h2
      · cases h3) (.inl (Nat.le_refl _)) (fun hf => by have := S.fz _ hf; omega) (fun k cs m e hg' h1 h2 hp => by
        obtain ⟨⟨a0, t1, f1, q1, _⟩, _⟩ := S.cells k cs m hg' e h1 h2
        have := lt_of_some q1
        have hp' : (κ.pl k e).1 = g := hp
        omega)
    refine ⟨κ', .sl (some (H.next, 0, es.flatten.length)) es.length sz, _, _, he, e1, le.trans le2, S3, ?_, .add S.lt _, Hp.add_lt S.lt _, hes, .inr ⟨H.next, es.flatten.length, Nat.le_refl _, rfl, by simp, Nat.le_refl _⟩⟩
    refine .sl H.next 0 es.flatten.length es.length sz cap (cap * sz) _ e3 hsz ⟨hcap, hmax⟩ (by omega) (by omega) ?_ (by rw [e2]; simp) (fun _ => by rw [e2])
    rw [e2, e1]
    simp only [nCells, hgb, hcur]
end
theorem Grow_ok (n : Nat) (hn : n * 16 ≤ 140737488355328) (H : Hp) : AC Tryz.prog n_slices_Grow_string_string [.sl none 0 0, .i .i64 n] H (fun v H' => Acc H 1 v H' []) := by
  by_cases h0 : n = 0
  · subst h0
    refine AC.lt (by kernel_rfl) fun hlt => ?_
    refine (AC.below (v := .sl none 0 0) (by kernel_rfl) fun κ cs r => ?_).mono fun v H' h => ?_
    · obtain ⟨a, b, rfl, ra, rb⟩ := r.two'
      obtain ⟨_, ad, rfl⟩ := VR.slNil ra
      obtain rfl := vr_i rb
      refine ⟨.slice ad 0 0, fun κ' => .sl0 0 ad, ?_⟩
      exact (Go.Proofs.Any8.slices_Grow_room Tryz.growS ad 0 0 0 κ.w (by omega) (by omega) (by omega) (by omega)).mono fun e w' ⟨he, hw⟩ => ⟨he, by rw [hw]; exact .refl _ _⟩
    · obtain ⟨rfl, rfl⟩ := h
      exact .nil 1 0 (.refl _) hlt
  · refine AC.rowA (T := 9) (by kernel_rfl) (by omega) (fun e he => by cases he) fun κ cs S r => ?_
    obtain ⟨a, b, rfl, ra, rb⟩ := r.two'
    obtain ⟨_, ad, rfl⟩ := VR.slNil ra
    obtain rfl := vr_i rb
    refine ⟨fun _ _ => undef, fun κ' i j e v he => by simp at he, ?_⟩
    obtain ⟨i0, hi, hz, hs, hb⟩ := info_parts (show (Tryz.prog.info? 9).map (fun i => (i.zero, i.size, i.bytes)) = some (some (.string ⟨#[]⟩), 1, 16) by kernel_rfl)
    refine (Go.Proofs.Any8.slices_Grow_grow Tryz.growS i0 (.string ⟨#[]⟩) hi hz (by omega) ad 0 0 n [] κ.w (by omega) (by omega) (by rw [hb]; omega) (by omega) (by simp) (fun _ => rfl) (fun _ _ j v h => by simp at h)).mono fun e w' ⟨he, hw⟩ => ?_
    have h1 := Go.grownCap_ge κ.w (0 + n) 0 9
    have h2 := Go.grownCap_le_maxLen κ.w (0 + n) 0 9 (by unfold Go.maxLen; omega)
    refine ⟨_, [], he, ?_, fun i j e v he => by simp at he, ?_⟩
    · rw [hw]
      refine ⟨rfl, .inr ⟨κ.w.heap.size, Go.grownCap κ.w (0 + n) 0 9, #[] ++ Go.Builtin.zeroCells (Go.Value.string ⟨#[]⟩).cells (0 + n - 0) ++ Go.Builtin.zeroCells (Go.Value.string ⟨#[]⟩).cells (Go.grownCap κ.w (0 + n) 0 9 - (0 + n)), rfl, Nat.le_refl _, ?_, Nat.zero_le _, h2, ?_, rfl⟩⟩
      · exact heap_alloc_self κ.w.drew _
      · simp [Go.size_zeroCells, Go.Value.cells]; simp only [Nat.zero_add] at h1; omega
    · rw [hw]
      exact ((RowKit.Below.refl _ κ.w).drew).alloc (Nat.le_refl _) _
end Go.Proofs.YtjemhlndmkbneaaGreatDoor
namespace Go.Proofs.YtjemhlndmkbneaaGreatDoor
open Am C
set_option linter.unusedSimpArgs false
set_option linter.unusedVariables false
def llV (ls : List (List Str)) : V := .fs (ls.map fun l => [ss l])
def scT (l : List Str) : List (List V) := l.map fun x => [V.s x]
theorem fl_take {ls : List (List Str)} {i : Nat} (h : i < ls.length) : (ls.take (i + 1)).flatten = (ls.take i).flatten ++ ls[i] := by
  rw [List.take_add_one, List.getElem?_eq_getElem h, List.flatten_append]
  simp
theorem fl_le {ls : List (List Str)} (i : Nat) : (ls.take i).flatten.length ≤ ls.flatten.length := by
  conv => rhs; rw [← List.take_append_drop i ls, List.flatten_append, List.length_append]
  omega
def tlN (ls : List (List Str)) (i : Nat) : Nat := (ls.take i).flatten.length
theorem tl_succ {ls : List (List Str)} {i : Nat} (h : i < ls.length) : tlN ls (i + 1) = tlN ls i + ls[i].length := by
  unfold tlN; rw [fl_take h, List.length_append]
theorem tl_le (ls : List (List Str)) (i : Nat) : tlN ls i ≤ ls.flatten.length := fl_le i
def CatInv (ls : List (List Str)) (H : Hp) (m : Nat) (F : Fr) (X : Hp) : Prop :=
  ∃ i, i ≤ ls.length ∧ m = ls.length - i ∧ X = H ∧ F = [(0, llV ls), (3, .i .i64 (tlN ls i : Nat)), (9, llV ls), (10, .i .i64 ls.length), (11, .i .i64 i)]
def CatInv1 (ls : List (List Str)) (H : Hp) (m : Nat) (F : Fr) (X : Hp) : Prop :=
  ∃ i v, i ≤ ls.length ∧ m = ls.length - i ∧ Acc H 1 v X (scT (ls.take i).flatten) ∧ F = [(6, v), (25, llV ls), (26, .i .i64 ls.length), (27, .i .i64 i)]
theorem Concat_ok (ls : List (List Str)) (h1 : ls.length ≤ 1000) (h2 : ls.flatten.length ≤ 1000000) (H : Hp) : AC Tryz.prog n_slices_Concat_string_string [llV ls] H (fun v H' => v = ss ls.flatten ∧ H' = H) := by
  refine AC.codeP slices_Concat_string_string.at slices_Concat_string_string.ok (free_ss _) fun hlt => ?_
  simp only [slices_Concat_string_string]
  refine AX.seq (AX.reg ?_)
  simp [slices_Concat_string_string.r0]
  refine AX.seq (AX.reg ?_)
  simp [slices_Concat_string_string.r1]
  refine AX.seq (AX.seq (AX.reg ?_))
  simp [slices_Concat_string_string.r2, llV]
  refine AX.pblock (AX.loop (CatInv ls H) ls.length ⟨_, _, .refl _ _, 0, by omega, by omega, rfl, by simp [llV, tlN]⟩ ?_)
  rintro m F X ⟨i, hi, rfl, hX, rfl⟩
  obtain rfl := hX.symm
  simp only [slices_Concat_string_string.l0]
  refine AX.seq (AX.reg ?_)
  simp [slices_Concat_string_string.r3]
  refine AX.seq (AX.pcond rfl (fun hd => AX.skip ?_) (fun hd => AX.exit ?_))
  · simp at hd
    have hg : ls[i]? = some ls[i] := List.getElem?_eq_getElem hd
    have hll := tl_succ hd
    have hfl := tl_le ls (i + 1)
    generalize ls[i] = l at *
    have w1 : Go.IntKind.i64.wrap ((tlN ls i : Int) + l.length) = (tlN ls i : Int) + l.length := wrap_i64 (by omega) (by omega)
    simp
    refine AX.seq (AX.pblock (AX.seq (AX.reg ?_)))
    simp [slices_Concat_string_string.r4, llV, hg]
    refine AX.seq (AX.reg ?_)
    simp [slices_Concat_string_string.r5, ss, w1]
    refine AX.seq (AX.reg ?_)
    simp [slices_Concat_string_string.r6]
    refine AX.pcond (t := false) (by simp; omega) (fun h => by simp at h) (fun _ => AX.skip ?_)
    simp
    refine AX.reg ?_
    simp [slices_Concat_string_string.r8, succ_of_lt hd (show ls.length ≤ 9223372036854775807 by omega)]
    exact ⟨ls.length - (i + 1), by omega, _, _, .refl _ _, i + 1, by omega, rfl, rfl, by rw [hll]; simp [llV, ss]⟩
  simp at hd
  have hend := tl_le ls i
  simp
  refine AX.seq (AX.reg ?_)
  simp [slices_Concat_string_string.r9]
  refine (Grow_ok (tlN ls i) (by omega) H).mono ?_
  intro v X A
  simp
  refine AX.seq (AX.seq (AX.reg ?_))
  simp [slices_Concat_string_string.r10, llV]
  refine AX.pblock (AX.loop (CatInv1 ls H) ls.length ⟨_, _, .refl _ _, 0, v, by omega, by omega, by simpa [scT] using A, by simp [llV]⟩ ?_)
  rintro m F Y ⟨j, w, hj, rfl, B, rfl⟩
  simp only [slices_Concat_string_string.l1]
  refine AX.seq (AX.reg ?_)
  simp [slices_Concat_string_string.r11]
  refine AX.seq (AX.pcond rfl (fun he => AX.skip ?_) (fun he => AX.exit ?_))
  case refine_2 =>
    simp at he
    rw [List.take_of_length_le he] at B
    simp
    refine AX.seq (AX.reg ?_)
    simp [slices_Concat_string_string.r15]
    refine AX.ret ?_
    simp
    exact ⟨B.ext, by simpa [ss, scT] using B.frz⟩
  simp at he
  have hg : ls[j]? = some ls[j] := List.getElem?_eq_getElem he
  have hf := fl_take he
  have hfl := fl_le (ls := ls) (j + 1)
  have hlt2 : (ls.take j).flatten.length + ls[j].length ≤ 1000000 := by
    rw [hf, List.length_append] at hfl; omega
  generalize ls[j] = l at *
  obtain ⟨w1, Y1, e1, B1⟩ := B.app (bytes := 16) (ys := l.map fun x => [V.s x]) hlt (by simp) (by omega) (by simp [List.all_eq_true]) (by
    have : (scT (ls.take j).flatten).length = (ls.take j).flatten.length := List.length_map ..
    rw [this, List.length_map]
    unfold roomB; omega)
  have hB : scT (ls.take j).flatten ++ l.map (fun x => [V.s x]) = scT (ls.take (j + 1)).flatten := by
    rw [hf]; unfold scT; rw [List.map_append]
  rw [hB] at B1
  simp
  refine AX.seq (AX.pblock (AX.seq (AX.reg ?_)))
  simp [slices_Concat_string_string.r12, llV, hg]
  refine AX.reg ?_
  simp [slices_Concat_string_string.r13, ss, -sAppend, e1]
  refine AX.reg ?_
  simp [slices_Concat_string_string.r14, succ_of_lt he (show ls.length ≤ 9223372036854775807 by omega)]
  exact ⟨ls.length - (j + 1), by omega, _, _, .refl _ _, j + 1, w1, by omega, rfl, B1, by simp [llV, ss]⟩
end Go.Proofs.YtjemhlndmkbneaaGreatDoor
