/- What the law QueryReach alone needs: QROrd, QLaws, QAll. -/
import Derived.Test.YtggjaoibcfgofaaGreatDoorReach1
namespace Go.Proofs.YtggjaoibcfgofaaGreatDoor
open Am C
set_option linter.unusedSimpArgs false
set_option linter.unusedVariables false
structure RcI (l : List (Str × Str)) (fr : List Str) (o out : List Str) (i : Nat) : Prop where
  ris : Rising out
  sub : ∀ x ∈ o, x ∈ out
  snd : ∀ x ∈ out, ∃ s ∈ fr, RchN l s x
  edg : ∀ (k : Nat) e, k < i → l[k]? = some e → e.1 ∈ o → e.2 ∈ out
def RR0Inv (l : List (Str × Str)) (fr : List Str) (H : Hp) (m : Nat) (F : Fr) (X : Hp) : Prop :=
  ∃ o, m = (namesS l fr).length - o.length ∧ Rising o ∧ (∀ s ∈ fr, s ∈ o) ∧ (∀ x ∈ o, ∃ s ∈ fr, RchN l s x) ∧ X = H ∧ F = [(0, edV l), (5, ss o)]
def RR1Inv (l : List (Str × Str)) (fr : List Str) (o : List Str) (H : Hp) (m : Nat) (F : Fr) (X : Hp) : Prop :=
  ∃ i out, i ≤ l.length ∧ m = l.length - i ∧ RcI l fr o out i ∧ X = H ∧ F = [(0, edV l), (5, ss out), (6, .i .i64 o.length), (7, .i .i64 i)]
theorem RReach_ok (l : List (Str × Str)) (fr : List Str) (hl : l.length ≤ 5000) (hf : fr.length ≤ 5000) (H : Hp) :
    AC Tryz.prog n_weftref32_Reach [edV l, ss fr] H (fun v H' => v = ss (reachS l fr) ∧ H' = H) := by
  refine AC.codeP weftref32_Reach.at weftref32_Reach.ok (free_ss _) fun hlt => ?_
  simp only [weftref32_Reach]
  have hN := namesS_len l fr
  have hNr := namesS_rising l fr
  refine AX.seq (AX.reg ?_)
  simp [weftref32_Reach.r0]
  refine AX.seq (AX.reg ?_)
  simp [weftref32_Reach.r1]
  refine AC.fix (Sorted_ok fr (by omega) H) ?_
  simp
  refine AX.pblock (AX.loop (RR0Inv l fr H) _ ⟨_, _, .refl _ _, sortedS fr, rfl, sortedS_rising _, fun s hs => mem_sortedS.2 hs, fun x hx => ⟨x, mem_sortedS.1 hx, .refl _⟩, rfl, rfl⟩ ?_)
  rintro m F X ⟨o, rfl, ho, hfo, hso, rfl, rfl⟩
  simp only [weftref32_Reach.l0]
  have hol := rising_len ho hNr fun x hx => rch_names (hso x hx)
  refine AX.pblock (AX.seq (AX.reg ?_))
  simp [weftref32_Reach.r2, ss]
  refine AX.seq (AX.seq (AX.reg ?_))
  simp [weftref32_Reach.r3]
  refine AX.pblock (AX.loop (RR1Inv l fr o X) l.length ⟨_, _, .refl _ _, 0, o, by omega, by omega, ⟨ho, fun x h => h, hso, fun k e h => by omega⟩, rfl, by simp [ss]⟩ ?_)
  rintro m F Y ⟨i, out, hi, rfl, I, rfl, rfl⟩
  simp only [weftref32_Reach.l1]
  have houl := rising_len I.ris hNr fun x hx => rch_names (I.snd x hx)
  refine AX.seq (AX.seq (AX.reg ?_))
  simp [weftref32_Reach.r4, edV]
  refine AX.pcond rfl (fun hc => AX.skip ?_) (fun hc => AX.exit ?_)
  · simp at hc
    simp
    refine AX.seq (AX.pblock (AX.seq (AX.reg ?_)))
    simp [weftref32_Reach.r5, edV, hc]
    refine AC.fix (Number_ok out l[i].1 (show out.length ≤ 9223372036854775807 by omega) _) ?_
    simp
    have hcl : l[i]? = some l[i] := List.getElem?_eq_getElem hc
    by_cases hm : l[i].1 ∈ out
    · have h0 : 0 ≤ numV out l[i].1 := by
        have := (not_congr (numV_neg (l := out) (x := l[i].1))).2 (by simpa using hm)
        omega
      refine AX.pcond (t := true) (by simp [h0]) (fun _ => AX.reg ?_) (fun h => by simp at h)
      simp [weftref32_Reach.r6, edV, hc]
      refine AC.fix (Into_ok out l[i].2 (by omega) _) ?_
      simp
      refine AX.reg ?_
      simp [weftref32_Reach.r7, succ_of_lt hc (show l.length ≤ 9223372036854775807 by omega)]
      refine ⟨l.length - (i + 1), by omega, _, _, .refl _ _, i + 1, intoS out l[i].2, by omega, rfl, ⟨intoS_rising I.ris _, fun x hx => mem_intoS.2 (.inr (I.sub x hx)), fun x hx => ?_, fun k e hk he h1 => ?_⟩, rfl, by simp [edV]⟩
      · rcases mem_intoS.1 hx with rfl | hx
        · obtain ⟨s, hs, hr⟩ := I.snd _ hm
          exact ⟨s, hs, hr.tail (by have := List.getElem_mem hc; exact this)⟩
        · exact I.snd x hx
      · by_cases e' : k = i
        · subst e'
          rw [hcl] at he; injection he with he; subst he
          exact mem_intoS.2 (.inl rfl)
        · exact mem_intoS.2 (.inr (I.edg k e (by omega) he h1))
    · have h0 : ¬ 0 ≤ numV out l[i].1 := by
        have := (numV_neg (l := out) (x := l[i].1)).2 hm
        omega
      refine AX.pcond (t := false) (by simp [h0]) (fun h => by simp at h) (fun _ => AX.skip ?_)
      simp
      refine AX.reg ?_
      simp [weftref32_Reach.r7, succ_of_lt hc (show l.length ≤ 9223372036854775807 by omega)]
      refine ⟨l.length - (i + 1), by omega, _, _, .refl _ _, i + 1, out, by omega, rfl, ⟨I.ris, I.sub, I.snd, fun k e hk he h1 => ?_⟩, rfl, by simp [edV]⟩
      by_cases e' : k = i
      · subst e'
        rw [hcl] at he; injection he with he; subst he
        exact absurd (I.sub _ h1) hm
      · exact I.edg k e (by omega) he h1
  simp at hc
  have e : i = l.length := by omega
  rw [e] at I
  simp
  refine AX.seq (AX.reg ?_)
  simp [weftref32_Reach.r8, ss]
  have hge := rising_len ho I.ris I.sub
  by_cases hle : out.length = o.length
  · refine AX.pcond (t := true) (by simp [hle]) (fun _ => AX.seq (AX.reg ?_)) (fun h => by simp at h)
    simp [weftref32_Reach.r9]
    refine AX.ret ?_
    simp
    have hback := rising_full ho I.ris I.sub (by omega)
    have hfin : out = reachS l fr := by
      refine rising_ext I.ris (reachS_rising l fr) fun x => ?_
      rw [mem_reachS]
      refine ⟨I.snd x, ?_⟩
      rintro ⟨s, hs, hr⟩
      have hgo : ∀ y, RchN l s y → y ∈ out := fun y hy => by
        induction hy with
        | refl => exact I.sub _ (hfo _ hs)
        | @tail b c _ e ih =>
          obtain ⟨k, hk⟩ := List.mem_iff_getElem?.1 e
          exact I.edg k _ (List.getElem?_eq_some_iff.1 hk).1 hk (hback _ ih)
      exact hgo x hr
    rw [hfin]
    exact ⟨.refl _, .refl _⟩
  · refine AX.pcond (t := false) (by simp; omega) (fun h => by simp at h) (fun _ => AX.skip ?_)
    simp
    exact ⟨(namesS l fr).length - out.length, by omega, _, _, .refl _ _, out, rfl, I.ris, fun s hs => I.sub s (hfo s hs), I.snd, rfl, by simp [edV, ss]⟩
def RO0Inv (l : List (Str × Str)) (H : Hp) (m : Nat) (F : Fr) (X : Hp) : Prop :=
  ∃ i, i ≤ l.length ∧ m = l.length - i ∧ X = H ∧ F = [(0, edV l), (3, ss (namesS (l.take i) [])), (4, .i .i64 i)]
def RO1Inv (l : List (Str × Str)) (all : List Str) (H : Hp) (m : Nat) (F : Fr) (X : Hp) : Prop :=
  ∃ i v, i ≤ l.length ∧ m = l.length - i ∧ Am.Acc H 2 v X (neC (numE all (l.take i))) ∧ F = [(0, edV l), (3, ss all), (5, v), (6, .i .i64 i)]
def RO2Inv (ps : List (List Nat)) (all : List Str) (H : Hp) (m : Nat) (F : Fr) (X : Hp) : Prop :=
  ∃ i v, i ≤ ps.length ∧ m = ps.length - i ∧ Am.Acc H 1 v X ((ps.take i).map fun p => [ss (nmS all p)]) ∧ F = [(3, ss all), (7, v), (8, ppV ps), (9, .i .i64 i)]
def RO3Inv (ps : List (List Nat)) (all : List Str) (p : List Nat) (v : V) (i : Nat) (X : Hp) (m : Nat) (F : Fr) (Y : Hp) : Prop :=
  ∃ j w, j ≤ p.length ∧ m = p.length - j ∧ Am.Acc X 1 w Y (sc (nmS all (p.take j))) ∧ F = [(3, ss all), (7, v), (8, ppV ps), (9, .i .i64 i), (10, w), (11, .i .i64 j)]
theorem namesS_snoc (l : List (Str × Str)) (e : Str × Str) : namesS (l ++ [e]) [] = intoS (intoS (namesS l []) e.1) e.2 := by
  unfold namesS
  rw [List.nil_append, List.nil_append, flatE_snoc, show flatE l ++ [e.1, e.2] = (flatE l ++ [e.1]) ++ [e.2] by simp, sortedS_snoc, sortedS_snoc]
theorem ROrder_ok (l : List (Str × Str)) (hl : l.length ≤ 10000) (H : Hp) : AC Tryz.prog n_weftref32_Order [edV l] H (fun v H' => v = ssV (orderS l) ∧ H' = H) := by
  refine AC.codeP weftref32_Order.at weftref32_Order.ok (free_ssV _) fun hlt => ?_
  simp only [weftref32_Order]
  refine AX.seq (AX.reg ?_)
  simp [weftref32_Order.r0]
  refine AX.seq (AX.reg ?_)
  simp [weftref32_Order.r1]
  refine AX.seq (AX.seq (AX.reg ?_))
  simp [weftref32_Order.r2]
  refine AX.pblock (AX.loop (RO0Inv l H) l.length ⟨_, _, Wk.frz0 (frzF_cons (.refl _) (frzF_cons (.sl0 _) (frzF_cons (.refl _) frzF_nil))), 0, by omega, by omega, rfl, by simp [ss, namesS, flatE, sortedS]⟩ ?_)
  rintro m F X ⟨i, hi, rfl, rfl, rfl⟩
  simp only [weftref32_Order.l0]
  refine AX.seq (AX.seq (AX.reg ?_))
  simp [weftref32_Order.r3, edV]
  refine AX.pcond rfl (fun hc => AX.skip ?_) (fun hc => AX.exit ?_)
  · simp at hc
    have hNl := namesS_len (l.take i) []
    simp at hNl
    have hIl := intoS_length (namesS (l.take i) []) l[i].1
    simp
    refine AX.seq (AX.pblock (AX.drw ?_))
    simp [weftref32_Order.r4, edV, hc]
    refine callD_pure _ (fun H2 => Into_ok _ _ (by omega) H2) ?_
    simp [edV, hc]
    refine callD_pure _ (fun H2 => Into_ok _ _ (by omega) H2) ?_
    simp
    refine AX.reg ?_
    simp [weftref32_Order.r5, succ_of_lt hc (show l.length ≤ 9223372036854775807 by omega)]
    refine ⟨l.length - (i + 1), by omega, _, _, .refl _ _, i + 1, by omega, rfl, rfl, ?_⟩
    rw [take_snoc hc, namesS_snoc]
    simp [edV]
  simp at hc
  rw [List.take_of_length_le (show l.length ≤ i by omega)]
  clear hc hi
  simp
  have hE := numE_lt l []
  have hal := namesS_len l []
  simp at hal
  have hri := namesS_rising l []
  have hed := names_edges l []
  have hel : (numE (namesS l []) l).length = l.length := by simp [numE]
  unfold orderS
  generalize namesS l [] = all at *
  refine AX.seq (AX.reg ?_)
  simp [weftref32_Order.r6]
  refine AX.seq (AX.seq (AX.reg ?_))
  simp [weftref32_Order.r7]
  refine AX.pblock (AX.loop (RO1Inv l all X) l.length ⟨_, _, .refl _ _, 0, .sl none 0 0, by omega, by omega, by simpa [neC, numE] using Am.Acc.nil 2 0 (.refl _) hlt, rfl⟩ ?_)
  rintro m F Y ⟨i, v, hi, rfl, A, rfl⟩
  simp only [weftref32_Order.l1]
  refine AX.seq (AX.seq (AX.reg ?_))
  simp [weftref32_Order.r8, edV]
  refine AX.pcond rfl (fun hc => AX.skip ?_) (fun hc => AX.exit ?_)
  · simp at hc
    obtain ⟨h1, h2⟩ := hed _ (List.getElem_mem hc)
    obtain ⟨v1, H1, e1, A1⟩ := A.app (bytes := 16) (ys := [[.i .i64 (posS all l[i].1 : Nat), .i .i64 (posS all l[i].2 : Nat)]]) hlt (by simp) (by omega) rfl (by simp [roomB, neC, numE]; omega)
    simp
    refine AX.seq (AX.pblock (AX.drw ?_))
    simp [weftref32_Order.r9, edV, hc]
    refine callD_pure _ (fun H2 => Number_ok _ _ (show all.length ≤ 9223372036854775807 by omega) H2) ?_
    simp [edV, hc]
    refine callD_pure _ (fun H2 => Number_ok _ _ (show all.length ≤ 9223372036854775807 by omega) H2) ?_
    rw [numV_pos hri h1, numV_pos hri h2]
    simp [repl, -sAppend, e1]
    refine AX.reg ?_
    simp [weftref32_Order.r10, succ_of_lt hc (show l.length ≤ 9223372036854775807 by omega)]
    refine ⟨l.length - (i + 1), by omega, _, _, .refl _ _, i + 1, v1, by omega, rfl, ?_, by simp [edV]⟩
    rw [take_snoc hc, show neC (numE all (l.take i ++ [l[i]])) = neC (numE all (l.take i)) ++ [[.i .i64 (posS all l[i].1 : Nat), .i .i64 (posS all l[i].2 : Nat)]] by simp only [neC, numE, List.map_append]; rfl]
    exact A1
  simp at hc
  have e : i = l.length := by omega
  rw [e, List.take_length] at A
  clear e hc hi
  simp
  refine AX.wk (Wk.freeze (fun id => X.next ≤ id) (frzF_cons (.refl _) (frzF_cons A.frz frzF_nil))) ?_
  have hx2 := Hp.wo_new A.ext hlt
  have hl2 := Hp.wo_lt A.lt (fun id => X.next ≤ id)
  generalize Y.wo (fun id => X.next ≤ id) = H2 at hx2 hl2 ⊢
  rw [show V.fs (neC (numE all l)) = neV (numE all l) from rfl]
  generalize numE all l = E at *
  refine AX.seq (AX.reg ?_)
  simp [weftref32_Order.r11]
  refine AX.seq (AX.reg ?_)
  simp [weftref32_Order.r12, ss]
  refine AC.fix (RParts_ok all.length E (by omega) (by omega) hE H2) ?_
  have hps : ∀ p ∈ partsS all.length (warS E all.length), p.length ≤ all.length ∧ ∀ x ∈ p, x < all.length := fun p hp => by
    obtain ⟨i, hi, rfl⟩ := mem_rndS hp
    exact ⟨classS_len _ _ _, fun x hx => (mem_class.1 hx).1⟩
  have hpl : (partsS all.length (warS E all.length)).length ≤ all.length := rndS_len _ _ _
  rw [show ordOf all E = partsS all.length (warS E all.length) from rfl]
  generalize partsS all.length (warS E all.length) = ps at *
  simp [ppV]
  refine AX.seq (AX.seq (AX.reg ?_))
  simp [weftref32_Order.r13]
  clear A
  refine AX.pblock (AX.loop (RO2Inv ps all H2) ps.length ⟨_, _, .refl _ _, 0, .sl none 0 0, by omega, by omega, by simpa using Am.Acc.nil 1 0 (.refl _) hl2, by simp [ppV, ss]⟩ ?_)
  rintro m F X ⟨i, v, hi, rfl, A, rfl⟩
  simp only [weftref32_Order.l2]
  refine AX.seq (AX.seq (AX.reg ?_))
  simp [weftref32_Order.r14, ppV]
  refine AX.pcond rfl (fun hc => AX.skip ?_) (fun hc => AX.exit ?_)
  · simp at hc
    obtain ⟨hp1, hp2⟩ := hps _ (List.getElem_mem hc)
    have htk := take_snoc hc
    simp
    refine AX.seq (AX.pblock (AX.seq (AX.reg ?_)))
    simp [weftref32_Order.r15]
    refine AX.seq (AX.seq (AX.reg ?_))
    simp [weftref32_Order.r16]
    refine AX.pblock (AX.loop (RO3Inv ps all ps[i] v i X) ps[i].length ⟨_, _, .refl _ _, 0, .sl none 0 0, by omega, by omega, by simpa [nmS, sc] using Am.Acc.nil 1 0 (.refl _) A.lt, by simp [ppV, ss]⟩ ?_)
    rintro m F Y ⟨j, w, hj, rfl, B, rfl⟩
    simp only [weftref32_Order.l3]
    refine AX.seq (AX.seq (AX.reg ?_))
    simp [weftref32_Order.r17, ppV, hc, ns]
    refine AX.pcond rfl (fun hc2 => AX.skip ?_) (fun hc2 => AX.exit ?_)
    · simp at hc2
      have hpj := hp2 _ (List.getElem_mem hc2)
      obtain ⟨w1, H1, e1, B1⟩ := B.app (bytes := 16) (ys := [[.s (all[ps[i][j]]'hpj)]]) A.lt (by simp) (by omega) rfl (by simp [roomB, sc, nmS]; omega)
      simp
      refine AX.seq (AX.pblock (AX.reg ?_))
      simp [weftref32_Order.r18, ppV, ns, hc, hc2, ss, hpj, repl, -sAppend, e1]
      refine AX.reg ?_
      simp [weftref32_Order.r19, succ_of_lt hc2 (show ps[i].length ≤ 9223372036854775807 by omega)]
      refine ⟨ps[i].length - (j + 1), by omega, _, _, .refl _ _, j + 1, w1, by omega, rfl, ?_, by simp [ppV, ss, ns]⟩
      rw [take_snoc hc2, show sc (nmS all (ps[i].take j ++ [ps[i][j]])) = sc (nmS all (ps[i].take j)) ++ [[.s (all[ps[i][j]]'hpj)]] by simp only [sc, nmS, List.map_append, List.map_cons, List.map_nil, List.getD_eq_getElem?_getD, List.getElem?_eq_getElem hpj]; rfl]
      exact B1
    simp at hc2
    have e : j = ps[i].length := by omega
    rw [e, List.take_length] at B
    simp
    refine AX.wk (Wk.freeze (fun id => X.next ≤ id) (frzF_cons (.refl _) (frzF_cons (.refl _) (frzF_cons (.refl _) (frzF_cons (.refl _) (frzF_cons B.frz frzF_nil)))))) ?_
    have A2 := A.more (Hp.wo_new B.ext A.lt) (Hp.wo_lt B.lt (fun id => X.next ≤ id))
    generalize Y.wo (fun id => X.next ≤ id) = Y2 at A2 ⊢
    rw [show V.fs (sc (nmS all ps[i])) = ss (nmS all ps[i]) from rfl]
    obtain ⟨v1, H1, e1, A3⟩ := A2.app (bytes := 24) (ys := [[ss (nmS all ps[i])]]) hl2 (by simp) (by omega) rfl (by simp [roomB]; omega)
    have e1' : sAppend Y2 1 24 v (.fs [[.fs ((nmS all ps[i]).map fun x => [.s x])]]) = some (v1, H1) := e1
    refine AX.reg ?_
    simp [weftref32_Order.r20, ss, repl, -sAppend, e1']
    refine AX.reg ?_
    simp [weftref32_Order.r21, succ_of_lt hc (show ps.length ≤ 9223372036854775807 by omega)]
    refine ⟨ps.length - (i + 1), by omega, _, _, .refl _ _, i + 1, v1, by omega, rfl, ?_, by simp [ppV, ss, ns]⟩
    rw [htk, List.map_append]
    exact A3
  simp at hc
  have e : i = ps.length := by omega
  rw [e, List.take_length] at A
  simp
  refine AX.seq (AX.reg ?_)
  simp [weftref32_Order.r22]
  refine AX.ret ?_
  simp
  refine ⟨hx2.trans A.ext, ?_⟩
  rw [show ssV (ps.map (nmS all)) = .fs (ps.map fun p => [ss (nmS all p)]) by simp [ssV, Function.comp_def]]
  exact A.frz.mono fun k h => by have := hx2.1; omega
end Go.Proofs.YtggjaoibcfgofaaGreatDoor
namespace Go.Proofs.YtggjaoibcfgofaaGreatDoor
open Am C Go.Proofs
set_option linter.unusedSimpArgs false
set_option linter.unusedVariables false
def QRInv (o : List (List Str)) (H : Hp) (m : Nat) (F : Fr) (X : Hp) : Prop :=
  ∃ i, i ≤ o.length ∧ m = o.length - i ∧ X = H ∧ F = [(5, ssV o), (6, ssV o), (7, .i .i64 i)]
theorem QueryReach_ok (l : List (Str × Str)) (fr : List Str) (H : Hp) : AC Tryz.prog n_weftlaw32_QueryReach [edV l, ss fr] H (fun v H' => v = .b true ∧ H' = H) := by
  refine AC.code weftlaw32_QueryReach.at weftlaw32_QueryReach.ok ?_
  simp only [weftlaw32_QueryReach]
  refine AX.seq (AX.reg ?_)
  simp [weftlaw32_QueryReach.r0]
  refine AX.seq (AX.seq (AX.reg ?_))
  simp [weftlaw32_QueryReach.r1]
  refine (greatEdges_ok l H).mono ?_
  rintro v H' ⟨⟨g, rfl, hg⟩, rfl⟩
  cases g with
  | true =>
    simp
    refine AX.pcond (t := true) rfl (fun _ => AX.seq (AX.reg ?_)) (fun h => by simp at h)
    simp [weftlaw32_QueryReach.r2]
    refine AX.ret ?_
    simp
  | false =>
  have hl := hg rfl
  simp
  refine (GreatTexts_ok fr H').mono ?_
  rintro v H'' ⟨⟨g, rfl, hg2⟩, rfl⟩
  cases g with
  | true =>
    simp
    refine AX.pcond (t := true) rfl (fun _ => AX.seq (AX.reg ?_)) (fun h => by simp at h)
    simp [weftlaw32_QueryReach.r2]
    refine AX.ret ?_
    simp
  | false =>
  have hf := hg2 rfl
  simp
  refine AX.pcond (t := false) rfl (fun h => by simp at h) (fun _ => AX.skip ?_)
  simp
  obtain ⟨ho1, ho2⟩ := orderS_len l
  refine AX.seq (AX.reg ?_)
  simp [weftlaw32_QueryReach.r3]
  refine AC.fix (edges_ok l (by omega) _) ?_
  simp
  refine (Order_ok l (by omega) _).mono ?_
  rintro v H3 ⟨rfl, rfl, _⟩
  simp
  refine AC.fix (ROrder_ok l (by omega) _) ?_
  simp
  have hrl := reachS_len l fr
  refine AX.seq (AX.seq (AX.reg ?_))
  simp [weftlaw32_QueryReach.r4, ssV]
  refine AC.fix (edges_ok l (by omega) _) ?_
  simp
  refine AC.fix (Reach_ok l fr (by omega) (by omega) _) ?_
  simp
  refine AC.fix (RReach_ok l fr (by omega) (by omega) _) ?_
  simp
  refine AC.fix (Same_ok _ _ (show _ ≤ 9223372036854775807 by omega) _) ?_
  simp
  refine AX.pcond (t := false) rfl (fun h => by simp at h) (fun _ => AX.skip ?_)
  simp
  generalize orderS l = o at *
  refine AX.seq (AX.seq (AX.reg ?_))
  simp [weftlaw32_QueryReach.r6]
  refine AX.pblock (AX.loop (QRInv o H3) o.length ⟨_, _, .refl _ _, 0, by omega, by omega, rfl, by simp [ssV]⟩ ?_)
  rintro m F X ⟨i, hi, rfl, rfl, rfl⟩
  simp only [weftlaw32_QueryReach.l0]
  refine AX.seq (AX.test (decide (i < o.length)) [(5, ssV o), (6, ssV o), (7, .i .i64 i), (44, .b (decide (i < o.length)))] ?_ rfl (fun h => AX.skip ?_) (fun h => AX.exit ?_))
  · by_cases hc : i < o.length <;> simp [weftlaw32_QueryReach.r7, ssV, hc]
  · simp at h
    have hpl := ho2 _ (List.getElem_mem h)
    simp
    refine AX.seq (AX.pblock (AX.seq (AX.drw ?_)))
    simp [weftlaw32_QueryReach.r8, ssV, h]
    refine callD_pure _ (fun H2 => Same_ok o[i] o[i] (show _ ≤ 9223372036854775807 by omega) H2) ?_
    simp
    refine AX.pcond (t := false) rfl (fun h => by simp at h) (fun _ => AX.skip ?_)
    simp
    refine AX.reg ?_
    simp [weftlaw32_QueryReach.r10, i64_succ (show i ≤ 9223372036854775000 by omega)]
    exact ⟨o.length - (i + 1), by omega, _, _, .refl _ _, i + 1, by omega, rfl, rfl, by simp [ssV]⟩
  · simp
    refine AX.seq (AX.reg ?_)
    simp [weftlaw32_QueryReach.r11]
    refine AC.fix (works_ok _) ?_
    simp
    refine AX.ret ?_
    simp
end Go.Proofs.YtggjaoibcfgofaaGreatDoor
namespace Go.Proofs.YtggjaoibcfgofaaGreatDoor
open Am C Go.Proofs
set_option linter.unusedSimpArgs false
set_option linter.unusedVariables false
theorem QueryReach_all (us : List V) (h : ArgsZ [.sl TE, .sl .str] us) : AC Tryz.prog 4 us Hp.none (fun r _ => r = .b true) := by
  obtain ⟨u, us', rfl, hu, u2, us2, rfl, hu2, rfl⟩ := h
  obtain ⟨l, hx⟩ := isZ_edges hu
  obtain ⟨fr, hy, _⟩ := isZ_ss hu2
  injection hx with hx; subst hx
  injection hy with hy; subst hy
  exact (QueryReach_ok l fr _).mono fun v H' h => h.1
end Go.Proofs.YtggjaoibcfgofaaGreatDoor
