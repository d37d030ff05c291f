/- What the law QueryFacts alone needs: Q14c, Q14d, QAl2, QNamM. -/
import Derived.Test.YtggjaoibcfgofaaGreatDoorFacts1
namespace Go.Proofs.YtggjaoibcfgofaaGreatDoor
open Am C
set_option linter.unusedSimpArgs false
set_option linter.unusedVariables false
def textV (d : Nd) : V := if rightN d then .tup [.s (writeN d), .i .i64 0] else .tup [.s [], .i .i64 11]
theorem RTextI_ok (n : Int) (h0 : 0 ≤ n) (hn : n ≤ 9223372036854775807) (H : Hp) : AC Tryz.prog n_weftref01_Text [.i .i64 n] H (fun v H' => v = .s (decS n.toNat) ∧ H' = H) := by
  have := RText_ok n.toNat (by omega) H
  rwa [Int.toNat_of_nonneg h0] at this
theorem Text14_ok (d : Nd) (h1 : d.fn.length ≤ 9223372036854775807) (h2 : d.name.length ≤ 9223372036854775807) (H : Hp) : AC Tryz.prog n_weftref14_Text [nv d] H (fun v H' => v = textV d ∧ H' = H) := by
  refine AC.code weftref14_Text.at weftref14_Text.ok ?_
  simp only [weftref14_Text]
  refine AX.seq (AX.reg ?_)
  simp [weftref14_Text.r0, nv]
  refine AX.seq (AX.seq (AX.reg ?_))
  simp [weftref14_Text.r1, Nd.cs]
  refine AC.fix (Right_ok d h1 h2 _) ?_
  simp
  refine AX.pcond rfl (fun hb => AX.seq (AX.reg ?_)) (fun hb => AX.skip ?_)
  · simp at hb
    simp [weftref14_Text.r2]
    refine AX.ret ?_
    simp [textV, hb]
  simp at hb
  obtain ⟨k1, k7, hcp, hn, hcell, hfn, hnm, hnn⟩ := (rightN_iff d).1 hb
  have ht : textV d = .tup [.s (writeN d), .i .i64 0] := by unfold textV; rw [if_pos hb]
  rw [ht]
  obtain ⟨k, fn, cp, nm, n, cl⟩ := d
  simp only [Nd.cs] at *
  have lfn : fn.length ≤ 16 := by
    rcases hfn with ⟨a, b, c⟩ | ⟨a, b⟩
    · subst b; simp
    · exact nameB_len b
  have lnm : nm.length ≤ 16 := by
    rcases hnm with ⟨a, b⟩ | ⟨a, b⟩
    · exact nameB_len b
    · subst b; simp
  have dl : ∀ x : Int, countB x = true → (decS x.toNat).length ≤ 9 := fun x hx => by
    have := of_decide_eq_true hx
    exact decS_len 8 _ (by omega)
  have lcp := dl _ hcp
  have ln := dl _ hn
  have hcp' := of_decide_eq_true hcp
  have hn' := of_decide_eq_true hn
  simp
  refine AX.seq (AX.reg ?_)
  simp [weftref14_Text.r3]
  refine AX.seq (AX.join (F1 := [(1, .fp [.i .i64 k, .s fn, .i .i64 cp, .s nm, .i .i64 n, .i .i64 cl] 0), (4, .s (fn ++ copyS cp))]) (H1 := H) ?_ ?_)
  · refine AX.seq (AX.reg ?_)
    simp [weftref14_Text.r4]
    refine AX.pcond rfl (fun hb => ?_) (fun hb => AX.skip ?_)
    · simp at hb
      refine AX.reg ?_
      simp [weftref14_Text.r5, show fn.length + 1 ≤ 9223372036854775807 by omega]
      refine AC.fix (RTextI_ok cp (by omega) (by omega) _) ?_
      simp [copyS, hb, show fn.length + 1 + (decS cp.toNat).length ≤ 9223372036854775807 by omega]
    · simp at hb
      simp [copyS, show ¬ 0 < cp by omega]
  have lc : (copyS cp).length ≤ 10 := by unfold copyS; split <;> simp; omega
  have lb : (bodyS ⟨k, fn, cp, nm, n, cl⟩).length ≤ 60 := by
    unfold bodyS
    repeat' split
    all_goals simp
    all_goals omega
  refine AX.seq (AX.join (F1 := [(1, .fp [.i .i64 k, .s fn, .i .i64 cp, .s nm, .i .i64 n, .i .i64 cl] 0), (4, .s (bodyS ⟨k, fn, cp, nm, n, cl⟩))]) (H1 := H) ?_ ?_)
  · clear ht
    rcases (by omega : k = 1 ∨ k = 2 ∨ k = 3 ∨ k = 4 ∨ k = 5 ∨ k = 6 ∨ k = 7) with rfl | rfl | rfl | rfl | rfl | rfl | rfl
    · refine AX.seq (AX.reg ?_)
      simp [weftref14_Text.r6]
      refine AX.pblock ?_
      refine AX.seq (AX.reg ?_)
      simp [weftref14_Text.r7]
      refine AX.pcond (t := true) rfl (fun hb => ?_) (fun hb => by simp at hb)
      refine AX.reg ?_
      simp [weftref14_Text.r8, bodyS, show fn.length + (copyS cp).length ≤ 9223372036854775806 by omega, show fn.length + ((copyS cp).length + 1) + nm.length ≤ 9223372036854775807 by omega]
    · refine AX.seq (AX.reg ?_)
      simp [weftref14_Text.r6]
      refine AX.pblock ?_
      refine AX.seq (AX.reg ?_)
      simp [weftref14_Text.r7]
      refine AX.pcond (t := false) rfl (fun hb => by simp at hb) (fun hb => ?_)
      refine AX.seq (AX.reg ?_)
      simp [weftref14_Text.r9]
      refine AX.pcond (t := true) rfl (fun hb => ?_) (fun hb => by simp at hb)
      refine AX.reg ?_
      simp [weftref14_Text.r10, show fn.length + (copyS cp).length ≤ 9223372036854775806 by omega]
      refine AC.fix (RTextI_ok n (by omega) (by omega) _) ?_
      simp [bodyS, show fn.length + ((copyS cp).length + 1) + (decS n.toNat).length ≤ 9223372036854775807 by omega]
    · refine AX.seq (AX.reg ?_)
      simp [weftref14_Text.r6]
      refine AX.pblock ?_
      refine AX.seq (AX.reg ?_)
      simp [weftref14_Text.r7]
      refine AX.pcond (t := false) rfl (fun hb => by simp at hb) (fun hb => ?_)
      refine AX.seq (AX.reg ?_)
      simp [weftref14_Text.r9]
      refine AX.pcond (t := false) rfl (fun hb => by simp at hb) (fun hb => ?_)
      refine AX.seq (AX.reg ?_)
      simp [weftref14_Text.r11]
      refine AX.pcond (t := true) rfl (fun hb => ?_) (fun hb => by simp at hb)
      refine AX.reg ?_
      simp [weftref14_Text.r12, show fn.length + (copyS cp).length ≤ 9223372036854775806 by omega]
      refine AC.fix (RTextI_ok n (by omega) (by omega) _) ?_
      simp [bodyS, show fn.length + ((copyS cp).length + 1) + (decS n.toNat).length ≤ 9223372036854775807 by omega]
    · refine AX.seq (AX.reg ?_)
      simp [weftref14_Text.r6]
      refine AX.pblock ?_
      refine AX.seq (AX.reg ?_)
      simp [weftref14_Text.r7]
      refine AX.pcond (t := false) rfl (fun hb => by simp at hb) (fun hb => ?_)
      refine AX.seq (AX.reg ?_)
      simp [weftref14_Text.r9]
      refine AX.pcond (t := false) rfl (fun hb => by simp at hb) (fun hb => ?_)
      refine AX.seq (AX.reg ?_)
      simp [weftref14_Text.r11]
      refine AX.pcond (t := false) rfl (fun hb => by simp at hb) (fun hb => ?_)
      refine AX.seq (AX.reg ?_)
      simp [weftref14_Text.r13]
      refine AX.pcond (t := true) rfl (fun hb => ?_) (fun hb => by simp at hb)
      refine AX.reg ?_
      simp [weftref14_Text.r14, bodyS, show fn.length + (copyS cp).length ≤ 9223372036854775805 by omega]
    · refine AX.seq (AX.reg ?_)
      simp [weftref14_Text.r6]
      refine AX.pblock ?_
      refine AX.seq (AX.reg ?_)
      simp [weftref14_Text.r7]
      refine AX.pcond (t := false) rfl (fun hb => by simp at hb) (fun hb => ?_)
      refine AX.seq (AX.reg ?_)
      simp [weftref14_Text.r9]
      refine AX.pcond (t := false) rfl (fun hb => by simp at hb) (fun hb => ?_)
      refine AX.seq (AX.reg ?_)
      simp [weftref14_Text.r11]
      refine AX.pcond (t := false) rfl (fun hb => by simp at hb) (fun hb => ?_)
      refine AX.seq (AX.reg ?_)
      simp [weftref14_Text.r13]
      refine AX.pcond (t := false) rfl (fun hb => by simp at hb) (fun hb => ?_)
      refine AX.seq (AX.reg ?_)
      simp [weftref14_Text.r15]
      refine AX.pcond (t := true) rfl (fun hb => ?_) (fun hb => by simp at hb)
      refine AX.reg ?_
      simp [weftref14_Text.r16, bodyS]
    · refine AX.seq (AX.reg ?_)
      simp [weftref14_Text.r6]
      refine AX.pblock ?_
      refine AX.seq (AX.reg ?_)
      simp [weftref14_Text.r7]
      refine AX.pcond (t := false) rfl (fun hb => by simp at hb) (fun hb => ?_)
      refine AX.seq (AX.reg ?_)
      simp [weftref14_Text.r9]
      refine AX.pcond (t := false) rfl (fun hb => by simp at hb) (fun hb => ?_)
      refine AX.seq (AX.reg ?_)
      simp [weftref14_Text.r11]
      refine AX.pcond (t := false) rfl (fun hb => by simp at hb) (fun hb => ?_)
      refine AX.seq (AX.reg ?_)
      simp [weftref14_Text.r13]
      refine AX.pcond (t := false) rfl (fun hb => by simp at hb) (fun hb => ?_)
      refine AX.seq (AX.reg ?_)
      simp [weftref14_Text.r15]
      refine AX.pcond (t := false) rfl (fun hb => by simp at hb) (fun hb => ?_)
      refine AX.seq (AX.reg ?_)
      simp [weftref14_Text.r17]
      refine AX.pcond (t := true) rfl (fun hb => ?_) (fun hb => by simp at hb)
      refine AX.reg ?_
      simp [weftref14_Text.r18, bodyS, show fn.length + (copyS cp).length ≤ 9223372036854775806 by omega, show fn.length + ((copyS cp).length + 1) + nm.length ≤ 9223372036854775807 by omega]
    · refine AX.seq (AX.reg ?_)
      simp [weftref14_Text.r6]
      refine AX.pblock ?_
      refine AX.seq (AX.reg ?_)
      simp [weftref14_Text.r7]
      refine AX.pcond (t := false) rfl (fun hb => by simp at hb) (fun hb => ?_)
      refine AX.seq (AX.reg ?_)
      simp [weftref14_Text.r9]
      refine AX.pcond (t := false) rfl (fun hb => by simp at hb) (fun hb => ?_)
      refine AX.seq (AX.reg ?_)
      simp [weftref14_Text.r11]
      refine AX.pcond (t := false) rfl (fun hb => by simp at hb) (fun hb => ?_)
      refine AX.seq (AX.reg ?_)
      simp [weftref14_Text.r13]
      refine AX.pcond (t := false) rfl (fun hb => by simp at hb) (fun hb => ?_)
      refine AX.seq (AX.reg ?_)
      simp [weftref14_Text.r15]
      refine AX.pcond (t := false) rfl (fun hb => by simp at hb) (fun hb => ?_)
      refine AX.seq (AX.reg ?_)
      simp [weftref14_Text.r17]
      refine AX.pcond (t := false) rfl (fun hb => by simp at hb) (fun hb => ?_)
      refine AX.seq (AX.reg ?_)
      simp [weftref14_Text.r19]
      refine AX.pcond (t := true) rfl (fun hb => ?_) (fun hb => by simp at hb)
      refine AX.reg ?_
      simp [weftref14_Text.r20, show fn.length + (copyS cp).length ≤ 9223372036854775806 by omega]
      refine AC.fix (RTextI_ok n (by omega) (by omega) _) ?_
      simp [bodyS, show fn.length + ((copyS cp).length + 1) + (decS n.toNat).length ≤ 9223372036854775807 by omega]
  refine AX.seq (AX.join (F1 := [(4, .s (writeN ⟨k, fn, cp, nm, n, cl⟩))]) (H1 := H) ?_ ?_)
  · refine AX.seq (AX.reg ?_)
    simp [weftref14_Text.r21]
    refine AX.pcond rfl (fun hb => ?_) (fun hb => AX.skip ?_)
    · simp at hb
      have hcl : countB cl = true := by
        rcases hcell with c | c
        · omega
        · exact c.2
      have lcl := dl _ hcl
      have hcl' := of_decide_eq_true hcl
      refine AX.reg ?_
      simp [weftref14_Text.r22, show (bodyS ⟨k, fn, cp, nm, n, cl⟩).length + 1 ≤ 9223372036854775807 by omega]
      refine AC.fix (RTextI_ok cl (by omega) (by omega) _) ?_
      simp [writeN, cellS, hb, show (bodyS ⟨k, fn, cp, nm, n, cl⟩).length + 1 + (decS cl.toNat).length ≤ 9223372036854775807 by omega]
    · simp at hb
      simp [writeN, cellS, show ¬ 0 ≤ cl by omega]
  refine AX.seq (AX.reg ?_)
  simp [weftref14_Text.r23]
  refine AX.ret ?_
  simp
end Go.Proofs.YtggjaoibcfgofaaGreatDoor
namespace Go.Proofs.YtggjaoibcfgofaaGreatDoor
open Am C
set_option linter.unusedSimpArgs false
set_option linter.unusedVariables false
structure Pts where
  fn : Str
  cp : Nat
  mark : Str
  tl : Str
  cl : Int
def ptsS (s : Str) : Pts := ⟨(splitS s).1, (partA (splitS s).2).1, (partB (partA (splitS s).2).2).1, (partB (partA (splitS s).2).2).2.1, partC (partB (partA (splitS s).2).2).2.2⟩
theorem partsV_eq (s : Str) : partsV s = .tup [.s (ptsS s).fn, .i .i64 (ptsS s).cp, .s (ptsS s).mark, .s (ptsS s).tl, .i .i64 (ptsS s).cl] := rfl
def candS (s : Str) : List Nd :=
  let p := ptsS s
  let n : Int := (readS p.tl).1
  [⟨1, p.fn, p.cp, p.tl, 0, -1⟩, ⟨2, p.fn, p.cp, [], n, -1⟩, ⟨3, p.fn, p.cp, [], n, -1⟩, ⟨4, p.fn, p.cp, [], 0, -1⟩, ⟨5, [], 0, p.fn, 0, p.cl⟩, ⟨6, p.fn, p.cp, p.tl, 0, p.cl⟩, ⟨7, p.fn, p.cp, [], n, p.cl⟩]
def fitB (s : Str) (d : Nd) : Bool := rightN d && decide (writeN d = s) && (decide ((ptsS s).mark ≠ []) || decide (d.kind = 5))
def readN14 (s : Str) : Option Nd := (candS s).find? (fitB s)
theorem pts_len (s : Str) : (ptsS s).fn.length ≤ s.length ∧ (ptsS s).tl.length ≤ s.length := by
  refine ⟨(splitS_len s).1, ?_⟩
  have h1 := (splitS_len s).2
  have h2 := partA_len (splitS s).2
  have : ∀ r : Str, (partB r).2.1.length ≤ r.length := fun r => by
    cases r with
    | nil => simp [partB]
    | cons c r => simp only [partB]; split
                  · simp
                  · have := splitS_len r; simp; omega
  have h3 := this (partA (splitS s).2).2
  unfold ptsS; simp only; omega
def R14Inv (s : Str) (H : Hp) (m : Nat) (F : Fr) (H' : Hp) : Prop :=
  ∃ i, i ≤ 7 ∧ m = 7 - i ∧ ((candS s).take i).find? (fitB s) = none ∧ H' = H.add (.cells Nd.zero.cs 6) ∧ F = [(0, .s s), (2, .p (some (H.next, 0, 6))), (6, .s (ptsS s).mark), (11, .fs ((candS s).map Nd.cs)), (12, .i .i64 i)]
theorem Read14_ok (s : Str) (hs : s.length ≤ 9223372036854775807) (H : Hp) : AC Tryz.prog n_weftref14_Read [.s s] H (fun v H' => v = rdV (readN14 s) ∧ H' = H) := by
  have hfr : free (rdV (readN14 s)) := by
    unfold rdV; split <;> simp [nv, Nd.cs]
  refine AC.codeP weftref14_Read.at weftref14_Read.ok hfr fun hlt => ?_
  simp only [weftref14_Read]
  refine AX.seq (AX.reg ?_)
  simp [weftref14_Read.r0]
  refine AX.seq (AX.reg ?_)
  simp [weftref14_Read.r1]
  refine AC.fix (parts_ok s hs _) ?_
  simp [partsV_eq]
  have hl := pts_len s
  refine AX.seq (AX.reg ?_)
  simp [weftref14_Read.r2]
  refine AC.fix (RRead_ok (ptsS s).tl (by omega) _) ?_
  simp
  refine AX.seq (AX.reg ?_)
  simp [weftref14_Read.r3, repl, show List.range 7 = [0, 1, 2, 3, 4, 5, 6] from rfl]
  have hcl : (candS s).length = 7 := rfl
  have hcd : ∀ d ∈ candS s, d.fn.length ≤ s.length ∧ d.name.length ≤ s.length := by
    intro d hd
    simp [candS] at hd
    rcases hd with rfl | rfl | rfl | rfl | rfl | rfl | rfl <;> simp <;> omega
  refine AX.seq (AX.seq (AX.reg ?_))
  simp [weftref14_Read.r4]
  refine AX.pblock (AX.loop (R14Inv s H) 7 ⟨_, _, .refl _ _, 0, by omega, by omega, by simp, rfl, rfl⟩ ?_)
  rintro m F H' ⟨i, hi, rfl, hx, rfl, rfl⟩
  simp only [weftref14_Read.l0]
  refine AX.seq (AX.seq (AX.reg ?_))
  simp [weftref14_Read.r5, hcl]
  refine AX.pcond rfl (fun hc => AX.skip ?_) (fun hc => AX.exit ?_)
  case refine_2 =>
    simp at hc
    have e : readN14 s = none := by
      rw [List.take_of_length_le (by omega)] at hx; exact hx
    simp
    refine AX.seq (AX.reg ?_)
    simp [weftref14_Read.r10, Nd.cs, Nd.zero]
    refine AX.ret ?_
    simp [e, rdV, nv, Nd.cs, Nd.zero]
    exact ⟨(Hp.Ext.add hlt _).upd hlt (Nat.le_refl _) _, .refl _⟩
  simp at hc
  obtain ⟨d, hd⟩ : ∃ d, (candS s)[i]? = some d := ⟨_, List.getElem?_eq_getElem (by omega)⟩
  have hdm := hcd d (List.mem_of_getElem? hd)
  simp
  refine AX.seq (AX.pblock (AX.seq (AX.reg ?_)))
  simp [weftref14_Read.r6, hd]
  refine AC.fix (Text14_ok d (by omega) (by omega) _) ?_
  obtain ⟨tx, er, etx, hfit⟩ : ∃ tx er, textV d = .tup [.s tx, .i .i64 er] ∧ fitB s d = (decide (er = 0) && decide (tx = s) && (decide ((ptsS s).mark ≠ []) || decide (d.kind = 5))) := by
    by_cases hr : rightN d = true
    · refine ⟨writeN d, 0, by unfold textV; rw [if_pos hr], ?_⟩
      simp only [fitB, hr]; simp
    · refine ⟨[], 11, by unfold textV; rw [if_neg hr], ?_⟩
      simp [fitB, hr]
  rw [etx]
  simp
  have ek : d.cs[0]? = some (.i .i64 d.kind) := rfl
  have es : tx = s ∨ ¬ tx = s := Classical.em _
  refine AX.test (fitB s d) [(0, .s s), (2, .p (some (H.next, 0, 6))), (6, .s (ptsS s).mark), (11, .fs ((candS s).map Nd.cs)), (12, .i .i64 i), (89, .b (fitB s d))] ?_ rfl (fun hf => AX.seq (AX.reg ?_)) (fun hf => AX.skip ?_)
  · have em : (ptsS s).mark.isEmpty = decide ((ptsS s).mark = []) := by cases (ptsS s).mark <;> simp
    rw [hfit]
    by_cases h1 : er = 0
    · by_cases h2 : tx = s
      · by_cases h3 : (ptsS s).mark = []
        · simp [weftref14_Read.r7, h1, h2, h3, hd, ek]
        · simp [weftref14_Read.r7, h1, h2, h3, em]
      · simp [weftref14_Read.r7, h1, h2, show (tx == s) = false by simpa using h2]
    · simp [weftref14_Read.r7, h1]
  · have e : readN14 s = some d := by
      unfold readN14
      have : candS s = (candS s).take i ++ d :: (candS s).drop (i + 1) := by
        obtain ⟨g1, g2⟩ := List.getElem?_eq_some_iff.1 hd
        rw [← g2, ← List.drop_eq_getElem_cons g1, List.take_append_drop]
      rw [this, List.find?_append, hx]
      simp [hf]
    simp [weftref14_Read.r8, hd]
    refine AX.ret ?_
    simp [e, rdV, nv]
    exact ⟨(Hp.Ext.add hlt _).upd hlt (Nat.le_refl _) _, .refl _⟩
  simp
  refine AX.reg ?_
  simp [weftref14_Read.r9, i64_succ (show i ≤ 9223372036854775000 by omega)]
  refine ⟨7 - (i + 1), by omega, _, _, .refl _ _, i + 1, by omega, rfl, ?_, rfl, by simp⟩
  rw [List.take_add_one, hd, List.find?_append, hx]
  simp [hf]
end Go.Proofs.YtggjaoibcfgofaaGreatDoor
namespace Go.Proofs.YtggjaoibcfgofaaGreatDoor
open Am C
set_option linter.unusedSimpArgs false
set_option linter.unusedVariables false
def OfInv (l : List Fact) (node : Str) (H : Hp) (m : Nat) (F : Fr) (H' : Hp) : Prop :=
  ∃ i, i ≤ l.length ∧ m = l.length - i ∧ (l.take i).find? (fun f => decide (f.1 = node)) = none ∧ H' = H ∧ F = [(0, fsV l), (1, .s node), (5, .i .i64 i)]
theorem find_split {α : Type} {p : α → Bool} {l : List α} {i : Nat} (h : i < l.length) (hp : p l[i] = true) (hn : (l.take i).find? p = none) : l.find? p = some l[i] := by
  have : l = l.take i ++ l[i] :: l.drop (i + 1) := by rw [← List.drop_eq_getElem_cons h, List.take_append_drop]
  conv => lhs; rw [this]
  rw [List.find?_append, hn, List.find?_cons, hp]
  rfl
theorem ROf_ok (l : List Fact) (node : Str) (hl : l.length ≤ 9223372036854775807) (hm : ∀ f ∈ l, f.2.length ≤ 1000000) (H : Hp) : AC Tryz.prog n_weftref17_Of [fsV l, .s node] H (fun v H' => v = ss (ofS l node) ∧ H' = H) := by
  refine AC.codeP weftref17_Of.at weftref17_Of.ok (free_ss _) fun hlt => ?_
  simp only [weftref17_Of]
  refine AX.seq (AX.reg ?_)
  simp [weftref17_Of.r0]
  refine AX.seq (AX.seq (AX.reg ?_))
  simp [weftref17_Of.r1]
  refine AX.pblock (AX.loop (OfInv l node H) l.length ⟨_, _, .refl _ _, 0, by omega, by omega, by simp, rfl, rfl⟩ ?_)
  rintro m F H' ⟨i, hi, rfl, hx, rfl, rfl⟩
  simp only [weftref17_Of.l0]
  refine AX.seq (AX.seq (AX.reg ?_))
  simp [weftref17_Of.r2, fsV]
  refine AX.pcond rfl (fun hc => AX.skip ?_) (fun hc => AX.exit ?_)
  · simp at hc
    have hmi := hm _ (List.getElem_mem hc)
    simp
    refine AX.seq (AX.pblock (AX.seq (AX.reg ?_)))
    simp [weftref17_Of.r3, fsV, hc, fcs]
    refine AX.pcond rfl (fun hd => ?_) (fun hd => AX.skip ?_)
    · simp at hd
      have A0 : Acc H' 1 (.sl none 0 1) H' [] := .nil 1 1 (.refl _) hlt
      obtain ⟨v1, H1, e1, A1⟩ := A0.app (bytes := 16) hlt (en1 l[i].2) (by omega) (ec1 _) (by simp [roomB]; omega)
      refine AX.seq (AX.reg ?_)
      simp [weftref17_Of.r4, fsV, hc, fcs, ss, -sAppend, e1]
      refine AX.ret ?_
      have : ofS l node = l[i].2 := by
        unfold ofS; rw [find_split hc (by simpa using hd) hx]; rfl
      simp [this]
      refine ⟨A1.ext, ?_⟩
      have := A1.frz
      simpa [ss] using this
    simp at hd
    simp
    refine AX.reg ?_
    simp [weftref17_Of.r5, succ_of_lt hc hl]
    refine ⟨l.length - (i + 1), by omega, _, _, .refl _ _, i + 1, by omega, rfl, ?_, rfl, by simp [fsV, fcs]⟩
    rw [List.take_add_one, List.getElem?_eq_getElem hc, List.find?_append, hx]
    simp [hd]
  simp at hc
  rw [List.take_of_length_le hc] at hx
  simp
  refine AX.seq (AX.reg ?_)
  simp [weftref17_Of.r6]
  refine AX.ret ?_
  simp [ofS, hx]
  exact ⟨.refl _, .sl0 _⟩
def RAlInv (x y : List Str) (H : Hp) (m : Nat) (F : Fr) (H' : Hp) : Prop :=
  ∃ i, i ≤ x.length ∧ m = x.length - i ∧ (x.take i).any (fun x => decide (x ∈ y)) = false ∧ H' = H ∧ F = [(7, ss x), (8, ss y), (9, .i .i64 i)]
theorem RAlias_ok (l : List Fact) (a b : Str) (hl : l.length ≤ 9223372036854775807) (hm : ∀ f ∈ l, f.2.length ≤ 1000000) (H : Hp) : AC Tryz.prog n_weftref32_Alias [fsV l, .s a, .s b] H (fun v H' => v = .b (aliasB l a b) ∧ H' = H) := by
  have h1 := ofS_len (node := a) hm
  have h2 := ofS_len (node := b) hm
  refine AC.code weftref32_Alias.at weftref32_Alias.ok ?_
  simp only [weftref32_Alias]
  refine AX.seq (AX.reg ?_)
  simp [weftref32_Alias.r0]
  refine AX.seq (AX.reg ?_)
  simp [weftref32_Alias.r1]
  refine AC.fix (ROf_ok l a hl hm _) ?_
  simp
  refine AC.fix (ROf_ok l b hl hm _) ?_
  unfold aliasB
  generalize ofS l a = x at h1 ⊢
  generalize ofS l b = y at h2 ⊢
  simp
  refine AX.seq (AX.seq (AX.reg ?_))
  simp [weftref32_Alias.r2]
  refine AX.pblock (AX.loop (RAlInv x y H) x.length ⟨_, _, .refl _ _, 0, by omega, by omega, by simp, rfl, rfl⟩ ?_)
  rintro m F H' ⟨i, hi, rfl, hx, rfl, rfl⟩
  simp only [weftref32_Alias.l0]
  refine AX.seq (AX.seq (AX.reg ?_))
  simp [weftref32_Alias.r3, ss]
  refine AX.pcond rfl (fun hc => AX.skip ?_) (fun hc => AX.exit ?_)
  · simp at hc
    simp
    refine AX.seq (AX.pblock (AX.seq (AX.reg ?_)))
    simp [weftref32_Alias.r4, hc]
    refine AC.fix (Number_ok y x[i] (show y.length ≤ 9223372036854775807 by omega) _) ?_
    simp [numV_in]
    refine AX.pcond rfl (fun hd => ?_) (fun hd => AX.skip ?_)
    · simp at hd
      refine AX.seq (AX.reg ?_)
      simp [weftref32_Alias.r5]
      refine AX.ret ?_
      simp
      exact ⟨_, List.getElem_mem hc, hd⟩
    simp at hd
    simp
    refine AX.reg ?_
    simp [weftref32_Alias.r6, succ_of_lt hc (show x.length ≤ 9223372036854775807 by omega)]
    refine ⟨x.length - (i + 1), by omega, _, _, .refl _ _, i + 1, by omega, rfl, ?_, rfl, by simp [ss]⟩
    rw [List.take_add_one, List.getElem?_eq_getElem hc, List.any_append, hx]
    simp [hd]
  simp at hc
  rw [List.take_of_length_le hc] at hx
  simp
  refine AX.seq (AX.reg ?_)
  simp [weftref32_Alias.r7]
  refine AX.ret ?_
  rw [hx]; simp
end Go.Proofs.YtggjaoibcfgofaaGreatDoor
namespace Go.Proofs.YtggjaoibcfgofaaGreatDoor
open Am C
set_option linter.unusedSimpArgs false
set_option linter.unusedVariables false
theorem indexByte_no {l : Str} {c : UInt8} (h : c ∉ l) : Go.Lib.indexByte l c = -1 := by
  induction l with
  | nil => rfl
  | cons b l ih =>
    simp only [List.mem_cons, not_or] at h
    have e : (b == c) = false := by simpa using fun hh : b = c => h.1 hh.symm
    simp [Go.Lib.indexByte, e, ih h.2]
theorem indexByte_at {l r : Str} {c : UInt8} (h : c ∉ l) : Go.Lib.indexByte (l ++ c :: r) c = l.length := by
  induction l with
  | nil => simp [Go.Lib.indexByte]
  | cons b l ih =>
    simp only [List.mem_cons, not_or] at h
    have e : (b == c) = false := by simpa using fun hh : b = c => h.1 hh.symm
    simp only [List.cons_append, Go.Lib.indexByte, e, ih h.2]
    have : ((l.length : Int) == -1) = false := by simp
    simp [this]
theorem split_at {a b : Str} (w : Bool) (hw : wordB (a ++ b) = w) (ha : a.all (inB w) = true) (hb : ∀ c r, b = c :: r → inB w c = false) : splitS (a ++ b) = (a, b) := by
  unfold splitS
  rw [hw]
  have : (a ++ b).takeWhile (inB w) = a ∧ (a ++ b).dropWhile (inB w) = b := by
    have := takeWhile_at (p := inB w) (l := a ++ b) (i := a.length) (by simpa using ha) (by simp) (fun x hx => by
      rw [List.getElem?_append_right (Nat.le_refl _), Nat.sub_self] at hx
      cases b with
      | nil => simp at hx
      | cons c r => simp at hx; subst hx; exact hb _ _ rfl)
    simpa using this
  rw [this.1, this.2]
theorem nameB_parts {s : Str} (h : nameB s = true) : s.length ≤ 16 ∧ wordB s = true ∧ s.all (inB true) = true ∧ s ≠ [] := by
  unfold nameB at h; simp only [Bool.and_eq_true, decide_eq_true_eq] at h
  refine ⟨h.1.1, h.1.2, h.2, fun e => ?_⟩
  subst e; exact absurd h.1.2 (by decide)
theorem wordB_append {a b : Str} (h : a ≠ []) : wordB (a ++ b) = wordB a := by
  cases a with
  | nil => exact absurd rfl h
  | cons c r => rfl
theorem split_name {a b : Str} (h : nameB a = true) (hb : ∀ c r, b = c :: r → inB true c = false) : splitS (a ++ b) = (a, b) := by
  obtain ⟨_, h2, h3, h4⟩ := nameB_parts h
  exact split_at true (by rw [wordB_append h4, h2]) h3 hb
theorem decS_all (n : Nat) : (decS n).all digB = true := by
  induction n using Nat.strongRecOn with
  | ind n ih =>
    have hd : digB (dgB n) = true := by simp [digB, dgB_toNat]; omega
    by_cases h : n < 10
    · rw [decS_small h]; simp [hd]
    · rw [decS_big h, List.all_append, ih (n / 10) (by omega)]; simp [hd]
theorem decS_ne (n : Nat) : decS n ≠ [] := by
  by_cases h : n < 10
  · rw [decS_small h]; simp
  · rw [decS_big h]; simp
theorem wordB_dec (n : Nat) : wordB (decS n) = false := by
  have h := decS_all n
  have h2 := decS_ne n
  cases hd : decS n with
  | nil => exact absurd hd h2
  | cons c r =>
    rw [hd] at h
    simp only [List.all_cons, Bool.and_eq_true] at h
    show letB c = false
    cases hl : letB c with
    | false => rfl
    | true => rw [dig_let c hl] at h; exact absurd h.1 (by decide)
theorem inB_false : inB false = digB := by funext c; simp [inB]
theorem split_dec {n : Nat} {b : Str} (hb : ∀ c r, b = c :: r → digB c = false) : splitS (decS n ++ b) = (decS n, b) :=
  split_at false (by rw [wordB_append (decS_ne n), wordB_dec]) (by rw [inB_false]; exact decS_all n) (by rw [inB_false]; exact hb)
theorem valD_append (l : Str) (c : UInt8) : valD (l ++ [c]) = 10 * valD l + (c.toNat - 48) := by unfold valD; rw [List.foldl_append]; rfl
theorem valD_dec (n : Nat) : valD (decS n) = n := by
  induction n using Nat.strongRecOn with
  | ind n ih =>
    by_cases h : n < 10
    · rw [decS_small h]
      show 10 * 0 + ((dgB n).toNat - 48) = n
      rw [dgB_toNat]; omega
    · rw [decS_big h, valD_append, ih (n / 10) (by omega), dgB_toNat]; omega
theorem decS_head (n : Nat) (h0 : 0 < n) : (decS n)[0]? ≠ some 48 := by
  induction n using Nat.strongRecOn with
  | ind n ih =>
    by_cases h : n < 10
    · rw [decS_small h]
      intro hh; simp at hh
      have := dgB_toNat n
      rw [hh] at this
      have e : (48 : UInt8).toNat = 48 := rfl
      omega
    · rw [decS_big h, List.getElem?_append_left (List.length_pos_iff.2 (decS_ne _))]
      exact ih (n / 10) (by omega) (by omega)
theorem readS_dec {n : Nat} (h : n ≤ 268435456) : readS (decS n) = (n, 0) := by
  have hz : ¬ ((decS n)[0]? = some 48 ∧ 1 < (decS n).length) := by
    rintro ⟨h1, h2⟩
    rcases Nat.eq_zero_or_pos n with h0 | h0
    · subst h0; rw [decS_small (by omega)] at h2; simp at h2
    · exact decS_head n h0 h1
  unfold readS
  rw [if_neg (decS_ne n), if_neg (by rw [decS_all]; simp), if_neg hz, valD_dec, if_neg (by omega)]
theorem no43_name {s : Str} (h : s.all (inB true) = true) : (43 : UInt8) ∉ s := fun hm => by
  have := List.all_eq_true.1 h _ hm
  exact absurd this (by decide)
theorem no43_dec (n : Nat) : (43 : UInt8) ∉ decS n := fun hm => by
  have := List.all_eq_true.1 (decS_all n) _ hm
  exact absurd this (by decide)
def markC (k : Int) : UInt8 := if k = 1 then 46 else if k = 2 then 36 else if k = 3 then 64 else if k = 4 then 40 else if k = 6 then 37 else 35
def tailS (d : Nd) : Str := if d.kind = 4 then [41] else if numB d.kind then decS d.n.toNat else d.name
theorem body_eq {d : Nd} (h : RightN d) (hk : d.kind ≠ 5) : bodyS d = d.fn ++ (copyS d.copy ++ markC d.kind :: tailS d) := by
  have h1 := h.k1; have h7 := h.k7
  obtain ⟨k, fn, cp, nm, n, cl⟩ := d
  simp only at *
  rcases (by omega : k = 1 ∨ k = 2 ∨ k = 3 ∨ k = 4 ∨ k = 6 ∨ k = 7) with rfl | rfl | rfl | rfl | rfl | rfl <;> rfl
theorem cellS_head {c : Int} : ∀ x r, cellS c = x :: r → x = 43 := by
  intro x r h; unfold cellS at h; split at h
  · simp at h; exact h.1.symm
  · cases h
theorem copy_fn {d : Nd} (h : RightN d) : 0 ≤ d.copy ∧ d.copy ≤ 268435456 := of_decide_eq_true h.cp
theorem num_fn {d : Nd} (h : RightN d) : 0 ≤ d.n ∧ d.n ≤ 268435456 := of_decide_eq_true h.n
theorem no43_copy (c : Int) : (43 : UInt8) ∉ copyS c := by
  unfold copyS; split
  · simp only [List.mem_cons, not_or]; exact ⟨by decide, no43_dec _⟩
  · simp
theorem name_cases {d : Nd} (h : RightN d) : d.name = [] ∨ nameB d.name = true := h.nm.elim (fun x => .inr x.2) (fun x => .inl x.2)
theorem no43_nm {d : Nd} (h : RightN d) : (43 : UInt8) ∉ d.name := by
  rcases name_cases h with e | e
  · rw [e]; simp
  · exact no43_name (nameB_parts e).2.2.1
theorem no43_fn {d : Nd} (h : RightN d) : (43 : UInt8) ∉ d.fn := by
  rcases h.fn with ⟨_, e, _⟩ | ⟨_, e⟩
  · rw [e]; simp
  · exact no43_name (nameB_parts e).2.2.1
theorem no43_tail {d : Nd} (h : RightN d) : (43 : UInt8) ∉ tailS d := by
  unfold tailS; split
  · decide
  · split
    · exact no43_dec _
    · exact no43_nm h
theorem no43_body {d : Nd} (h : RightN d) : (43 : UInt8) ∉ bodyS d := by
  by_cases hk : d.kind = 5
  · have : bodyS d = d.name := by unfold bodyS; simp [hk]
    rw [this]; exact no43_nm h
  · rw [body_eq h hk]
    simp only [List.mem_append, List.mem_cons, not_or]
    refine ⟨no43_fn h, no43_copy _, ?_, no43_tail h⟩
    unfold markC; repeat' split
    all_goals decide
theorem kind5 {d : Nd} (h : RightN d) (hk : d.kind = 5) : d.fn = [] ∧ d.copy = 0 ∧ nameB d.name = true ∧ d.n = 0 := by
  rcases h.fn with ⟨_, a, b⟩ | ⟨a, _⟩
  · refine ⟨a, b, ?_, ?_⟩
    · rcases h.nm with ⟨_, x⟩ | ⟨x, _⟩
      · exact x
      · rw [hk] at x; exact absurd x (by decide)
    · rcases h.nn with ⟨x, _⟩ | ⟨_, x⟩
      · rw [hk] at x; exact absurd x (by decide)
      · exact x
  · exact absurd hk a
theorem kindN {d : Nd} (h : RightN d) (hk : d.kind ≠ 5) : nameB d.fn = true := by
  rcases h.fn with ⟨x, _⟩ | ⟨_, x⟩
  · exact absurd x hk
  · exact x
theorem copyS_word (cp : Int) (m : UInt8) (r : Str) (hm : inB true m = false) : ∀ c q, copyS cp ++ m :: r = c :: q → inB true c = false := by
  intro c q h; unfold copyS at h; split at h
  · simp at h; rw [← h.1]; decide
  · simp at h; rw [← h.1]; exact hm
theorem mark_not {k : Int} : inB true (markC k) = false ∧ digB (markC k) = false ∧ markC k ≠ 126 ∧ markC k ≠ 43 := by
  unfold markC; repeat' split
  all_goals decide
theorem tail_ne {d : Nd} (h : RightN d) : d.kind = 1 ∨ d.kind = 6 → nameB d.name = true := fun hk => by
  rcases h.nm with ⟨_, e⟩ | ⟨e, _⟩
  · exact e
  · rcases hk with hk | hk <;> (rw [hk] at e; exact absurd e (by decide))
theorem rkTail_write {d : Nd} (h : RightN d) (hk : d.kind ≠ 5) : rkTail ⟨0, d.fn, d.copy, [], 0, d.cell⟩ (markC d.kind :: tailS d) = (d, true) := by
  have h1 := h.k1; have h7 := h.k7; have hn := num_fn h
  have hnm := h.nm; have hnn := h.nn
  obtain ⟨k, fn, cp, nm, n, cl⟩ := d
  simp only at *
  have rd : readS (decS n.toNat) = (n.toNat, 0) := readS_dec (by omega)
  have en : ((n.toNat : Nat) : Int) = n := by omega
  rcases (by omega : k = 1 ∨ k = 2 ∨ k = 3 ∨ k = 4 ∨ k = 6 ∨ k = 7) with rfl | rfl | rfl | rfl | rfl | rfl <;>
    simp [namedB, numB] at hnm hnn <;>
    simp [rkTail, markC, tailS, marksS, Go.Lib.indexByte, numB, rd, en, hnm, hnn]
theorem rkMid_write {d : Nd} (h : RightN d) (hk : d.kind ≠ 5) : rkMid ⟨0, d.fn, 0, [], 0, d.cell⟩ (copyS d.copy ++ markC d.kind :: tailS d) = (d, true) := by
  have hc := copy_fn h
  have ht := rkTail_write h hk
  by_cases h0 : 0 < d.copy
  · have e : copyS d.copy = 126 :: decS d.copy.toNat := by unfold copyS; rw [if_pos h0]
    have es : splitS (decS d.copy.toNat ++ markC d.kind :: tailS d) = (decS d.copy.toNat, markC d.kind :: tailS d) := split_dec fun c r hh => by injection hh with hh _; rw [← hh]; exact mark_not.2.1
    rw [e, List.cons_append]
    simp only [rkMid, if_true, es, readS_dec (show d.copy.toNat ≤ 268435456 by omega)]
    rw [if_neg (by simp), show ((d.copy.toNat : Nat) : Int) = d.copy by omega]
    exact ht
  · have e : copyS d.copy = [] := by unfold copyS; rw [if_neg h0]
    have e0 : d.copy = 0 := by omega
    rw [e, List.nil_append]
    simp only [rkMid]
    rw [if_neg mark_not.2.2.1]
    rw [e0] at ht
    exact ht
theorem rkHead_write {d : Nd} (h : RightN d) : rkHead d.cell (bodyS d) = (d, true) := by
  by_cases hk : d.kind = 5
  · obtain ⟨a, b, c, e⟩ := kind5 h hk
    have eb : bodyS d = d.name ++ [] := by unfold bodyS; simp [hk]
    have es := split_name (b := []) c (by simp)
    rw [eb]
    simp only [rkHead, es]
    rw [if_pos trivial]
    obtain ⟨k, fn, cp, nm, n, cl⟩ := d
    simp only at *
    subst hk a b e; rfl
  · have es : splitS (bodyS d) = (d.fn, copyS d.copy ++ markC d.kind :: tailS d) := by
      rw [body_eq h hk]
      exact split_name (kindN h hk) (copyS_word _ _ _ mark_not.1)
    simp only [rkHead, es]
    rw [if_neg (by simp)]
    exact rkMid_write h hk
theorem readK_write {d : Nd} (h : RightN d) : readK (writeN d) = (d, true) := by
  have hb := no43_body h
  have hh := rkHead_write h
  unfold readK writeN
  by_cases hc : 0 ≤ d.cell
  · have hc2 : d.cell ≤ 268435456 := by
      rcases h.cell with c | ⟨_, c⟩
      · omega
      · exact (of_decide_eq_true c).2
    have e : cellS d.cell = 43 :: decS d.cell.toNat := by unfold cellS; rw [if_pos hc]
    rw [e, indexByte_at hb]
    have e1 : (bodyS d ++ 43 :: decS d.cell.toNat).drop ((bodyS d).length + 1) = decS d.cell.toNat := by
      rw [← List.drop_drop]; simp
    have e2 : (bodyS d ++ 43 :: decS d.cell.toNat).take (bodyS d).length = bodyS d := by simp
    simp only [Int.toNat_natCast, e1, e2, readS_dec (show d.cell.toNat ≤ 268435456 by omega)]
    rw [if_pos (by omega), if_neg (by simp), show ((d.cell.toNat : Nat) : Int) = d.cell by omega]
    exact hh
  · have e : cellS d.cell = [] := by unfold cellS; rw [if_neg hc]
    have e1 : d.cell = -1 := by
      rcases h.cell with c | ⟨_, c⟩
      · exact c
      · have := of_decide_eq_true c; omega
    rw [e, List.append_nil, indexByte_no hb]
    simp only
    rw [if_neg (by omega), ← e1]
    exact hh
theorem partC_cell {d : Nd} (h : RightN d) : partC (cellS d.cell) = d.cell := by
  unfold cellS
  by_cases hc : 0 ≤ d.cell
  · have hc2 : d.cell ≤ 268435456 := by
      rcases h.cell with c | ⟨_, c⟩
      · omega
      · exact (of_decide_eq_true c).2
    rw [if_pos hc]
    simp only [partC, if_true, readS_dec (show d.cell.toNat ≤ 268435456 by omega)]
    omega
  · rw [if_neg hc]
    simp only [partC]
    rcases h.cell with c | ⟨_, c⟩
    · exact c.symm
    · have := of_decide_eq_true c; omega
theorem cell_not {d : Nd} (w : Bool) : ∀ c r, cellS d.cell = c :: r → inB w c = false := fun c r h => by
  rw [cellS_head c r h]; cases w <;> decide
theorem pts_write {d : Nd} (h : RightN d) : ptsS (writeN d) = if d.kind = 5 then ⟨d.name, 0, [], [], d.cell⟩ else ⟨d.fn, d.copy.toNat, [markC d.kind], if d.kind = 4 then [] else tailS d, d.cell⟩ := by
  by_cases hk : d.kind = 5
  · obtain ⟨a, b, c, e⟩ := kind5 h hk
    have eb : bodyS d = d.name := by unfold bodyS; simp [hk]
    have es : splitS (writeN d) = (d.name, cellS d.cell) := by
      unfold writeN; rw [eb]; exact split_name c (cell_not true)
    rw [if_pos hk]
    have ea : partA (cellS d.cell) = (0, cellS d.cell) := by
      cases hh : cellS d.cell with
      | nil => rfl
      | cons x r =>
        have := cellS_head x r hh; subst this
        simp only [partA]; rw [if_neg (by decide)]
    have eb2 : partB (cellS d.cell) = ([], [], cellS d.cell) := by
      cases hh : cellS d.cell with
      | nil => rfl
      | cons x r =>
        have := cellS_head x r hh; subst this
        simp [partB]
    simp only [ptsS, es, ea, eb2, partC_cell h]
  · rw [if_neg hk]
    have hc := copy_fn h
    have es : splitS (writeN d) = (d.fn, copyS d.copy ++ markC d.kind :: (tailS d ++ cellS d.cell)) := by
      unfold writeN; rw [body_eq h hk, List.append_assoc, List.append_assoc, List.cons_append]
      exact split_name (kindN h hk) (copyS_word _ _ _ mark_not.1)
    have ea : partA (copyS d.copy ++ markC d.kind :: (tailS d ++ cellS d.cell)) = (d.copy.toNat, markC d.kind :: (tailS d ++ cellS d.cell)) := by
      by_cases h0 : 0 < d.copy
      · have e : copyS d.copy = 126 :: decS d.copy.toNat := by unfold copyS; rw [if_pos h0]
        have es : splitS (decS d.copy.toNat ++ markC d.kind :: (tailS d ++ cellS d.cell)) = (decS d.copy.toNat, markC d.kind :: (tailS d ++ cellS d.cell)) := split_dec fun c r hh => by injection hh with hh _; rw [← hh]; exact mark_not.2.1
        rw [e, List.cons_append]
        simp only [partA, if_true, es, readS_dec (show d.copy.toNat ≤ 268435456 by omega)]
      · have e : copyS d.copy = [] := by unfold copyS; rw [if_neg h0]
        have e0 : d.copy.toNat = 0 := by omega
        rw [e, List.nil_append, e0]
        simp only [partA]
        rw [if_neg mark_not.2.2.1]
    have eb : partB (markC d.kind :: (tailS d ++ cellS d.cell)) = ([markC d.kind], if d.kind = 4 then [] else tailS d, cellS d.cell) := by
      simp only [partB]
      rw [if_neg mark_not.2.2.2]
      by_cases h4 : d.kind = 4
      · have ec : cellS d.cell = [] := by
          rcases h.cell with c | ⟨c, _⟩
          · rw [c]; rfl
          · omega
        have et : tailS d = [41] := by unfold tailS; rw [if_pos h4]
        rw [ec, et, if_pos h4, show markC d.kind = 40 by rw [h4]; rfl]
        decide
      · rw [if_neg h4]
        have hm : markC d.kind ≠ 40 := by
          have h1 := h.k1; have h7 := h.k7
          rcases (by omega : d.kind = 1 ∨ d.kind = 2 ∨ d.kind = 3 ∨ d.kind = 6 ∨ d.kind = 7) with e | e | e | e | e <;> (rw [e]; decide)
        rw [if_neg (fun x => hm x.1)]
        have : splitS (tailS d ++ cellS d.cell) = (tailS d, cellS d.cell) := by
          unfold tailS; rw [if_neg h4]
          split
          · exact split_dec (by have := cell_not (d := d) false; rw [inB_false] at this; exact this)
          · rename_i hn
            refine split_name (tail_ne h ?_) (cell_not true)
            have h1 := h.k1; have h7 := h.k7
            simp [numB] at hn; omega
        rw [this]
    simp only [ptsS, es, ea, eb, partC_cell h]
theorem cand_write {d : Nd} (h : RightN d) : d ∈ candS (writeN d) ∧ fitB (writeN d) d = true := by
  have hp := pts_write h
  have h1 := h.k1; have h7 := h.k7; have hn := num_fn h; have hc := copy_fn h
  have hnm := h.nm; have hnn := h.nn; have hcl := h.cell
  have h5 : d.kind = 5 → _ := kind5 h
  have hr := (rightN_iff d).2 h
  refine ⟨?_, ?_⟩
  · unfold candS
    rw [hp]
    obtain ⟨k, fn, cp, nm, n, cl⟩ := d
    simp only at *
    have rd : readS (decS n.toNat) = (n.toNat, 0) := readS_dec (by omega)
    have en : ((n.toNat : Nat) : Int) = n := by omega
    have ec : ((cp.toNat : Nat) : Int) = cp := by omega
    rcases (by omega : k = 1 ∨ k = 2 ∨ k = 3 ∨ k = 4 ∨ k = 5 ∨ k = 6 ∨ k = 7) with rfl | rfl | rfl | rfl | rfl | rfl | rfl <;>
      simp [namedB, numB] at hnm hnn hcl h5 <;>
      simp [tailS, numB, rd, en, ec, hnm, hnn, hcl, h5]
  · unfold fitB
    rw [hr, hp]
    by_cases hk : d.kind = 5 <;> simp [hk]
theorem readN_eq (s : Str) : readN14 s = readN s := by
  unfold readN
  by_cases hc : (readK s).2 = true ∧ rightN (readK s).1 = true ∧ writeN (readK s).1 = s
  · rw [if_pos hc]
    obtain ⟨_, h2, h3⟩ := hc
    have hR := (rightN_iff _).1 h2
    have := cand_write hR
    rw [h3] at this
    unfold readN14
    obtain ⟨d, hd⟩ : ∃ d, (candS s).find? (fitB s) = some d := by
      cases hf : (candS s).find? (fitB s) with
      | some d => exact ⟨d, rfl⟩
      | none => exact absurd this.2 (List.find?_eq_none.1 hf _ this.1)
    rw [hd]
    have hfit := List.find?_some hd
    simp only [fitB, Bool.and_eq_true, decide_eq_true_eq] at hfit
    have k1 := readK_write ((rightN_iff _).1 hfit.1.1)
    rw [hfit.1.2] at k1
    rw [k1]
  · rw [if_neg hc]
    cases hf : readN14 s with
    | none => rfl
    | some d =>
      have hfit := List.find?_some hf
      simp only [fitB, Bool.and_eq_true, decide_eq_true_eq] at hfit
      have k1 := readK_write ((rightN_iff _).1 hfit.1.1)
      rw [hfit.1.2] at k1
      exact absurd ⟨by rw [k1], by rw [k1]; exact hfit.1.1, by rw [k1]; exact hfit.1.2⟩ hc
end Go.Proofs.YtggjaoibcfgofaaGreatDoor
