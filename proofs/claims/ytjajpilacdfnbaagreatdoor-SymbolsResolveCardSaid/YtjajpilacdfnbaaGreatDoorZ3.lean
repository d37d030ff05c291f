/- What the law SymbolsResolve alone needs: Q14c, Q14d, QNamM, S15a. -/
import Derived.Test.YtjajpilacdfnbaaGreatDoorZ2
namespace Go.Proofs.YtjajpilacdfnbaaGreatDoor
open Am C
set_option linter.unusedSimpArgs false
set_option linter.unusedVariables false
def yhd (d : Nd) : V := if y6b d then .tup [.s (y3b d), .i .i64 0] else .tup [.s [], .i .i64 11]
theorem yan (n : Int) (h0 : 0 ≤ n) (hn : n ≤ 9223372036854775807) (H : Hp) : AC Tryz.prog y4f [.i .i64 n] H (fun v H' => v = .s (y4s n.toNat) ∧ H' = H) := by
  have := RText_ok n.toNat (by omega) H
  rwa [Int.toNat_of_nonneg h0] at this
theorem ynk (d : Nd) (h1 : d.fn.length ≤ 9223372036854775807) (h2 : d.name.length ≤ 9223372036854775807) (H : Hp) : AC Tryz.prog y88 [nv d] H (fun v H' => v = yhd d ∧ H' = H) := by
  refine AC.code yb.at yb.ok ?_
  simp only [yb]
  refine AX.sr ?_
  simp [yb.r0, nv]
  refine AX.seq (AX.seq (AX.reg ?_))
  simp [yb.r1, Nd.cs]
  refine AC.fix (Right_ok d h1 h2 _) ?_
  simp
  refine AX.pcond rfl (fun hb => AX.seq (AX.reg ?_)) (fun hb => AX.skip ?_)
  · simp at hb
    simp [yb.r2]
    refine AX.ret ?_
    simp [yhd, hb]
  simp at hb
  obtain ⟨k1, k7, hcp, hn, hcell, hfn, hnm, hnn⟩ := (y7m d).1 hb
  have ht : yhd d = .tup [.s (y3b d), .i .i64 0] := by unfold yhd; rw [if_pos hb]
  rw [ht]
  obtain ⟨k, fn, cp, nm, n, cl⟩ := d
  simp only [Nd.cs] at *
  have lfn : fn.length ≤ 16 := by
    rcases hfn with ⟨a, b, c⟩ | ⟨a, b⟩
    · subst b; simp
    · exact ybo b
  have lnm : nm.length ≤ 16 := by
    rcases hnm with ⟨a, b⟩ | ⟨a, b⟩
    · exact ybo b
    · subst b; simp
  have dl : ∀ x : Int, y69 x = true → (y4s x.toNat).length ≤ 9 := fun x hx => by
    have := of_decide_eq_true hx
    exact y3n 8 _ (by omega)
  have lcp := dl _ hcp
  have ln := dl _ hn
  have hcp' := of_decide_eq_true hcp
  have hn' := of_decide_eq_true hn
  simp
  refine AX.sr ?_
  simp [yb.r3]
  refine AX.seq (AX.join (F1 := [(1, .fp [.i .i64 k, .s fn, .i .i64 cp, .s nm, .i .i64 n, .i .i64 cl] 0), (4, .s (fn ++ y4k cp))]) (H1 := H) ?_ ?_)
  · refine AX.sr ?_
    simp [yb.r4]
    refine AX.pcond rfl (fun hb => ?_) (fun hb => AX.skip ?_)
    · simp at hb
      refine AX.reg ?_
      simp [yb.r5, show fn.length + 1 ≤ 9223372036854775807 by omega]
      refine AC.fix (yan cp (by omega) (by omega) _) ?_
      simp [y4k, hb, show fn.length + 1 + (y4s cp.toNat).length ≤ 9223372036854775807 by omega]
    · simp at hb
      simp [y4k, show ¬ 0 < cp by omega]
  have lc : (y4k cp).length ≤ 10 := by unfold y4k; split <;> simp; omega
  have lb : (y59 ⟨k, fn, cp, nm, n, cl⟩).length ≤ 60 := by
    unfold y59
    repeat' split
    all_goals simp
    all_goals omega
  refine AX.seq (AX.join (F1 := [(1, .fp [.i .i64 k, .s fn, .i .i64 cp, .s nm, .i .i64 n, .i .i64 cl] 0), (4, .s (y59 ⟨k, fn, cp, nm, n, cl⟩))]) (H1 := H) ?_ ?_)
  · clear ht
    rcases (by omega : k = 1 ∨ k = 2 ∨ k = 3 ∨ k = 4 ∨ k = 5 ∨ k = 6 ∨ k = 7) with rfl | rfl | rfl | rfl | rfl | rfl | rfl
    · refine AX.sr ?_
      simp [yb.r6]
      refine AX.pblock ?_
      refine AX.sr ?_
      simp [yb.r7]
      refine AX.pcond (t := true) rfl (fun hb => ?_) (fun hb => by simp at hb)
      refine AX.reg ?_
      simp [yb.r8, y59, show fn.length + (y4k cp).length ≤ 9223372036854775806 by omega, show fn.length + ((y4k cp).length + 1) + nm.length ≤ 9223372036854775807 by omega]
    · refine AX.sr ?_
      simp [yb.r6]
      refine AX.pblock ?_
      refine AX.sr ?_
      simp [yb.r7]
      refine AX.pcond (t := false) rfl (fun hb => by simp at hb) (fun hb => ?_)
      refine AX.sr ?_
      simp [yb.r9]
      refine AX.pcond (t := true) rfl (fun hb => ?_) (fun hb => by simp at hb)
      refine AX.reg ?_
      simp [yb.r10, show fn.length + (y4k cp).length ≤ 9223372036854775806 by omega]
      refine AC.fix (yan n (by omega) (by omega) _) ?_
      simp [y59, show fn.length + ((y4k cp).length + 1) + (y4s n.toNat).length ≤ 9223372036854775807 by omega]
    · refine AX.sr ?_
      simp [yb.r6]
      refine AX.pblock ?_
      refine AX.sr ?_
      simp [yb.r7]
      refine AX.pcond (t := false) rfl (fun hb => by simp at hb) (fun hb => ?_)
      refine AX.sr ?_
      simp [yb.r9]
      refine AX.pcond (t := false) rfl (fun hb => by simp at hb) (fun hb => ?_)
      refine AX.sr ?_
      simp [yb.r11]
      refine AX.pcond (t := true) rfl (fun hb => ?_) (fun hb => by simp at hb)
      refine AX.reg ?_
      simp [yb.r12, show fn.length + (y4k cp).length ≤ 9223372036854775806 by omega]
      refine AC.fix (yan n (by omega) (by omega) _) ?_
      simp [y59, show fn.length + ((y4k cp).length + 1) + (y4s n.toNat).length ≤ 9223372036854775807 by omega]
    · refine AX.sr ?_
      simp [yb.r6]
      refine AX.pblock ?_
      refine AX.sr ?_
      simp [yb.r7]
      refine AX.pcond (t := false) rfl (fun hb => by simp at hb) (fun hb => ?_)
      refine AX.sr ?_
      simp [yb.r9]
      refine AX.pcond (t := false) rfl (fun hb => by simp at hb) (fun hb => ?_)
      refine AX.sr ?_
      simp [yb.r11]
      refine AX.pcond (t := false) rfl (fun hb => by simp at hb) (fun hb => ?_)
      refine AX.sr ?_
      simp [yb.r13]
      refine AX.pcond (t := true) rfl (fun hb => ?_) (fun hb => by simp at hb)
      refine AX.reg ?_
      simp [yb.r14, y59, show fn.length + (y4k cp).length ≤ 9223372036854775805 by omega]
    · refine AX.sr ?_
      simp [yb.r6]
      refine AX.pblock ?_
      refine AX.sr ?_
      simp [yb.r7]
      refine AX.pcond (t := false) rfl (fun hb => by simp at hb) (fun hb => ?_)
      refine AX.sr ?_
      simp [yb.r9]
      refine AX.pcond (t := false) rfl (fun hb => by simp at hb) (fun hb => ?_)
      refine AX.sr ?_
      simp [yb.r11]
      refine AX.pcond (t := false) rfl (fun hb => by simp at hb) (fun hb => ?_)
      refine AX.sr ?_
      simp [yb.r13]
      refine AX.pcond (t := false) rfl (fun hb => by simp at hb) (fun hb => ?_)
      refine AX.sr ?_
      simp [yb.r15]
      refine AX.pcond (t := true) rfl (fun hb => ?_) (fun hb => by simp at hb)
      refine AX.reg ?_
      simp [yb.r16, y59]
    · refine AX.sr ?_
      simp [yb.r6]
      refine AX.pblock ?_
      refine AX.sr ?_
      simp [yb.r7]
      refine AX.pcond (t := false) rfl (fun hb => by simp at hb) (fun hb => ?_)
      refine AX.sr ?_
      simp [yb.r9]
      refine AX.pcond (t := false) rfl (fun hb => by simp at hb) (fun hb => ?_)
      refine AX.sr ?_
      simp [yb.r11]
      refine AX.pcond (t := false) rfl (fun hb => by simp at hb) (fun hb => ?_)
      refine AX.sr ?_
      simp [yb.r13]
      refine AX.pcond (t := false) rfl (fun hb => by simp at hb) (fun hb => ?_)
      refine AX.sr ?_
      simp [yb.r15]
      refine AX.pcond (t := false) rfl (fun hb => by simp at hb) (fun hb => ?_)
      refine AX.sr ?_
      simp [yb.r17]
      refine AX.pcond (t := true) rfl (fun hb => ?_) (fun hb => by simp at hb)
      refine AX.reg ?_
      simp [yb.r18, y59, show fn.length + (y4k cp).length ≤ 9223372036854775806 by omega, show fn.length + ((y4k cp).length + 1) + nm.length ≤ 9223372036854775807 by omega]
    · refine AX.sr ?_
      simp [yb.r6]
      refine AX.pblock ?_
      refine AX.sr ?_
      simp [yb.r7]
      refine AX.pcond (t := false) rfl (fun hb => by simp at hb) (fun hb => ?_)
      refine AX.sr ?_
      simp [yb.r9]
      refine AX.pcond (t := false) rfl (fun hb => by simp at hb) (fun hb => ?_)
      refine AX.sr ?_
      simp [yb.r11]
      refine AX.pcond (t := false) rfl (fun hb => by simp at hb) (fun hb => ?_)
      refine AX.sr ?_
      simp [yb.r13]
      refine AX.pcond (t := false) rfl (fun hb => by simp at hb) (fun hb => ?_)
      refine AX.sr ?_
      simp [yb.r15]
      refine AX.pcond (t := false) rfl (fun hb => by simp at hb) (fun hb => ?_)
      refine AX.sr ?_
      simp [yb.r17]
      refine AX.pcond (t := false) rfl (fun hb => by simp at hb) (fun hb => ?_)
      refine AX.sr ?_
      simp [yb.r19]
      refine AX.pcond (t := true) rfl (fun hb => ?_) (fun hb => by simp at hb)
      refine AX.reg ?_
      simp [yb.r20, show fn.length + (y4k cp).length ≤ 9223372036854775806 by omega]
      refine AC.fix (yan n (by omega) (by omega) _) ?_
      simp [y59, show fn.length + ((y4k cp).length + 1) + (y4s n.toNat).length ≤ 9223372036854775807 by omega]
  refine AX.seq (AX.join (F1 := [(4, .s (y3b ⟨k, fn, cp, nm, n, cl⟩))]) (H1 := H) ?_ ?_)
  · refine AX.sr ?_
    simp [yb.r21]
    refine AX.pcond rfl (fun hb => ?_) (fun hb => AX.skip ?_)
    · simp at hb
      have hcl : y69 cl = true := by
        rcases hcell with c | c
        · omega
        · exact c.2
      have lcl := dl _ hcl
      have hcl' := of_decide_eq_true hcl
      refine AX.reg ?_
      simp [yb.r22, show (y59 ⟨k, fn, cp, nm, n, cl⟩).length + 1 ≤ 9223372036854775807 by omega]
      refine AC.fix (yan cl (by omega) (by omega) _) ?_
      simp [y3b, y51, hb, show (y59 ⟨k, fn, cp, nm, n, cl⟩).length + 1 + (y4s cl.toNat).length ≤ 9223372036854775807 by omega]
    · simp at hb
      simp [y3b, y51, show ¬ 0 ≤ cl by omega]
  refine AX.sr ?_
  simp [yb.r23]
  refine AX.ret ?_
  simp
end Go.Proofs.YtjajpilacdfnbaaGreatDoor
namespace Go.Proofs.YtjajpilacdfnbaaGreatDoor
open Am C
set_option linter.unusedSimpArgs false
set_option linter.unusedVariables false
structure Pts where
  fn : Str
  cp : Nat
  mark : Str
  tl : Str
  cl : Int
def ye2 (s : Str) : Pts := ⟨(y3a s).1, (y9g (y3a s).2).1, (y8z (y9g (y3a s).2).2).1, (y8z (y9g (y3a s).2).2).2.1, yf3 (y8z (y9g (y3a s).2).2).2.2⟩
theorem ylq (s : Str) : ylr s = .tup [.s (ye2 s).fn, .i .i64 (ye2 s).cp, .s (ye2 s).mark, .s (ye2 s).tl, .i .i64 (ye2 s).cl] := rfl
def yba (s : Str) : List Nd :=
  let p := ye2 s
  let n : Int := (y5m p.tl).1
  [⟨1, p.fn, p.cp, p.tl, 0, -1⟩, ⟨2, p.fn, p.cp, [], n, -1⟩, ⟨3, p.fn, p.cp, [], n, -1⟩, ⟨4, p.fn, p.cp, [], 0, -1⟩, ⟨5, [], 0, p.fn, 0, p.cl⟩, ⟨6, p.fn, p.cp, p.tl, 0, p.cl⟩, ⟨7, p.fn, p.cp, [], n, p.cl⟩]
def yju (s : Str) (d : Nd) : Bool := y6b d && decide (y3b d = s) && (decide ((ye2 s).mark ≠ []) || decide (d.kind = 5))
def ya8 (s : Str) : Option Nd := (yba s).find? (yju s)
theorem pts_len (s : Str) : (ye2 s).fn.length ≤ s.length ∧ (ye2 s).tl.length ≤ s.length := by
  refine ⟨(y5n s).1, ?_⟩
  have h1 := (y5n s).2
  have h2 := ygh (y3a s).2
  have : ∀ r : Str, (y8z r).2.1.length ≤ r.length := fun r => by
    cases r with
    | nil => simp [y8z]
    | cons c r => simp only [y8z]; split
                  · simp
                  · have := y5n r; simp; omega
  have h3 := this (y9g (y3a s).2).2
  unfold ye2; simp only; omega
def R14Inv (s : Str) (H : Hp) (m : Nat) (F : Fr) (H' : Hp) : Prop :=
  ∃ i, i ≤ 7 ∧ m = 7 - i ∧ ((yba s).take i).find? (yju s) = none ∧ H' = H.add (.cells Nd.zero.cs 6) ∧ F = [(0, .s s), (2, .p (some (H.next, 0, 6))), (6, .s (ye2 s).mark), (11, .fs ((yba s).map Nd.cs)), (12, .i .i64 i)]
theorem yam (s : Str) (hs : s.length ≤ 9223372036854775807) (H : Hp) : AC Tryz.prog y4q [.s s] H (fun v H' => v = rdV (ya8 s) ∧ H' = H) := by
  have hfr : ybf (rdV (ya8 s)) := by
    unfold rdV; split <;> simp [nv, Nd.cs]
  refine AC.codeP y1i.at y1i.ok hfr fun hlt => ?_
  simp only [y1i]
  refine AX.sr ?_
  simp [y1i.r0]
  refine AX.sr ?_
  simp [y1i.r1]
  refine AC.fix (parts_ok s hs _) ?_
  simp [ylq]
  have hl := pts_len s
  refine AX.sr ?_
  simp [y1i.r2]
  refine AC.fix (yfw (ye2 s).tl (by omega) _) ?_
  simp
  refine AX.sr ?_
  simp [y1i.r3, y8y, show List.range 7 = [0, 1, 2, 3, 4, 5, 6] from rfl]
  have hcl : (yba s).length = 7 := rfl
  have hcd : ∀ d ∈ yba s, d.fn.length ≤ s.length ∧ d.name.length ≤ s.length := by
    intro d hd
    simp [yba] at hd
    rcases hd with rfl | rfl | rfl | rfl | rfl | rfl | rfl <;> simp <;> omega
  refine AX.seq (AX.seq (AX.reg ?_))
  simp [y1i.r4]
  refine AX.pblock (AX.loop (R14Inv s H) 7 ⟨_, _, .refl _ _, 0, by omega, by omega, by simp, rfl, rfl⟩ ?_)
  rintro m F H' ⟨i, hi, rfl, hx, rfl, rfl⟩
  simp only [y1i.l0]
  refine AX.seq (AX.seq (AX.reg ?_))
  simp [y1i.r5, hcl]
  refine AX.pcond rfl (fun hc => AX.skip ?_) (fun hc => AX.exit ?_)
  case refine_2 =>
    simp at hc
    have e : ya8 s = none := by
      rw [List.take_of_length_le (by omega)] at hx; exact hx
    simp
    refine AX.sr ?_
    simp [y1i.r10, Nd.cs, Nd.zero]
    refine AX.ret ?_
    simp [e, rdV, nv, Nd.cs, Nd.zero]
    exact ⟨(Hp.Ext.add hlt _).upd hlt (Nat.le_refl _) _, .refl _⟩
  simp at hc
  obtain ⟨d, hd⟩ : ∃ d, (yba s)[i]? = some d := ⟨_, List.getElem?_eq_getElem (by omega)⟩
  have hdm := hcd d (List.mem_of_getElem? hd)
  simp
  refine AX.seq (AX.pblock (AX.seq (AX.reg ?_)))
  simp [y1i.r6, hd]
  refine AC.fix (ynk d (by omega) (by omega) _) ?_
  obtain ⟨tx, er, etx, hfit⟩ : ∃ tx er, yhd d = .tup [.s tx, .i .i64 er] ∧ yju s d = (decide (er = 0) && decide (tx = s) && (decide ((ye2 s).mark ≠ []) || decide (d.kind = 5))) := by
    by_cases hr : y6b d = true
    · refine ⟨y3b d, 0, by unfold yhd; rw [if_pos hr], ?_⟩
      simp only [yju, hr]; simp
    · refine ⟨[], 11, by unfold yhd; rw [if_neg hr], ?_⟩
      simp [yju, hr]
  rw [etx]
  simp
  have ek : d.cs[0]? = some (.i .i64 d.kind) := rfl
  have es : tx = s ∨ ¬ tx = s := Classical.em _
  refine AX.test (yju s d) [(0, .s s), (2, .p (some (H.next, 0, 6))), (6, .s (ye2 s).mark), (11, .fs ((yba s).map Nd.cs)), (12, .i .i64 i), (89, .b (yju s d))] ?_ rfl (fun hf => AX.seq (AX.reg ?_)) (fun hf => AX.skip ?_)
  · have em : (ye2 s).mark.isEmpty = decide ((ye2 s).mark = []) := by cases (ye2 s).mark <;> simp
    rw [hfit]
    by_cases h1 : er = 0
    · by_cases h2 : tx = s
      · by_cases h3 : (ye2 s).mark = []
        · simp [y1i.r7, h1, h2, h3, hd, ek]
        · simp [y1i.r7, h1, h2, h3, em]
      · simp [y1i.r7, h1, h2, show (tx == s) = false by simpa using h2]
    · simp [y1i.r7, h1]
  · have e : ya8 s = some d := by
      unfold ya8
      have : yba s = (yba s).take i ++ d :: (yba s).drop (i + 1) := by
        obtain ⟨g1, g2⟩ := List.getElem?_eq_some_iff.1 hd
        rw [← g2, ← List.drop_eq_getElem_cons g1, List.take_append_drop]
      rw [this, List.find?_append, hx]
      simp [hf]
    simp [y1i.r8, hd]
    refine AX.ret ?_
    simp [e, rdV, nv]
    exact ⟨(Hp.Ext.add hlt _).upd hlt (Nat.le_refl _) _, .refl _⟩
  simp
  refine AX.reg ?_
  simp [y1i.r9, y2o (show i ≤ 9223372036854775000 by omega)]
  refine ⟨7 - (i + 1), by omega, _, _, .refl _ _, i + 1, by omega, rfl, ?_, rfl, by simp⟩
  rw [List.take_add_one, hd, List.find?_append, hx]
  simp [hf]
end Go.Proofs.YtjajpilacdfnbaaGreatDoor
namespace Go.Proofs.YtjajpilacdfnbaaGreatDoor
open Am C
set_option linter.unusedSimpArgs false
set_option linter.unusedVariables false
theorem yij {a b : Str} (w : Bool) (hw : y6v (a ++ b) = w) (ha : a.all (inB w) = true) (hb : ∀ c r, b = c :: r → inB w c = false) : y3a (a ++ b) = (a, b) := by
  unfold y3a
  rw [hw]
  have : (a ++ b).takeWhile (inB w) = a ∧ (a ++ b).dropWhile (inB w) = b := by
    have := y90 (p := inB w) (l := a ++ b) (i := a.length) (by simpa using ha) (by simp) (fun x hx => by
      rw [List.getElem?_append_right (Nat.le_refl _), Nat.sub_self] at hx
      cases b with
      | nil => simp at hx
      | cons c r => simp at hx; subst hx; exact hb _ _ rfl)
    simpa using this
  rw [this.1, this.2]
theorem yck {a b : Str} (h : a ≠ []) : y6v (a ++ b) = y6v a := by
  cases a with
  | nil => exact absurd rfl h
  | cons c r => rfl
theorem y9c {a b : Str} (h : y5o a = true) (hb : ∀ c r, b = c :: r → inB true c = false) : y3a (a ++ b) = (a, b) := by
  obtain ⟨_, h2, h3, h4⟩ := yb8 h
  exact yij true (by rw [yck h4, h2]) h3 hb
theorem yd4 (n : Nat) : (y4s n).all yaw = true := by
  induction n using Nat.strongRecOn with
  | ind n ih =>
    have hd : yaw (dgB n) = true := by simp [yaw, yai]; omega
    by_cases h : n < 10
    · rw [y6r h]; simp [hd]
    · rw [y9y h, List.all_append, ih (n / 10) (by omega)]; simp [hd]
theorem yfl (n : Nat) : y4s n ≠ [] := by
  by_cases h : n < 10
  · rw [y6r h]; simp
  · rw [y9y h]; simp
theorem yl0 (n : Nat) : y6v (y4s n) = false := by
  have h := yd4 n
  have h2 := yfl n
  cases hd : y4s n with
  | nil => exact absurd hd h2
  | cons c r =>
    rw [hd] at h
    simp only [List.all_cons, Bool.and_eq_true] at h
    show ye7 c = false
    cases hl : ye7 c with
    | false => rfl
    | true => rw [yn2 c hl] at h; exact absurd h.1 (by decide)
theorem ydo : inB false = yaw := by funext c; simp [inB]
theorem yde {n : Nat} {b : Str} (hb : ∀ c r, b = c :: r → yaw c = false) : y3a (y4s n ++ b) = (y4s n, b) :=
  yij false (by rw [yck (yfl n), yl0]) (by rw [ydo]; exact yd4 n) (by rw [ydo]; exact hb)
theorem yhb (l : Str) (c : UInt8) : ybh (l ++ [c]) = 10 * ybh l + (c.toNat - 48) := by unfold ybh; rw [List.foldl_append]; rfl
theorem valD_dec (n : Nat) : ybh (y4s n) = n := by
  induction n using Nat.strongRecOn with
  | ind n ih =>
    by_cases h : n < 10
    · rw [y6r h]
      show 10 * 0 + ((dgB n).toNat - 48) = n
      rw [yai]; omega
    · rw [y9y h, yhb, ih (n / 10) (by omega), yai]; omega
theorem yn3 (n : Nat) (h0 : 0 < n) : (y4s n)[0]? ≠ some 48 := by
  induction n using Nat.strongRecOn with
  | ind n ih =>
    by_cases h : n < 10
    · rw [y6r h]
      intro hh; simp at hh
      have := yai n
      rw [hh] at this
      have e : (48 : UInt8).toNat = 48 := rfl
      omega
    · rw [y9y h, List.getElem?_append_left (List.length_pos_iff.2 (yfl _))]
      exact ih (n / 10) (by omega) (by omega)
theorem y9f {n : Nat} (h : n ≤ 268435456) : y5m (y4s n) = (n, 0) := by
  have hz : ¬ ((y4s n)[0]? = some 48 ∧ 1 < (y4s n).length) := by
    rintro ⟨h1, h2⟩
    rcases Nat.eq_zero_or_pos n with h0 | h0
    · subst h0; rw [y6r (by omega)] at h2; simp at h2
    · exact yn3 n h0 h1
  unfold y5m
  rw [if_neg (yfl n), if_neg (by rw [yd4]; simp), if_neg hz, valD_dec, if_neg (by omega)]
theorem ygk {s : Str} (h : s.all (inB true) = true) : (43 : UInt8) ∉ s := fun hm => by
  have := List.all_eq_true.1 h _ hm
  exact absurd this (by decide)
theorem yit (n : Nat) : (43 : UInt8) ∉ y4s n := fun hm => by
  have := List.all_eq_true.1 (yd4 n) _ hm
  exact absurd this (by decide)
def y8t (k : Int) : UInt8 := if k = 1 then 46 else if k = 2 then 36 else if k = 3 then 64 else if k = 4 then 40 else if k = 6 then 37 else 35
def y8k (d : Nd) : Str := if d.kind = 4 then [41] else if ye4 d.kind then y4s d.n.toNat else d.name
theorem yhz {d : Nd} (h : RightN d) (hk : d.kind ≠ 5) : y59 d = d.fn ++ (y4k d.copy ++ y8t d.kind :: y8k d) := by
  have h1 := h.k1; have h7 := h.k7
  obtain ⟨k, fn, cp, nm, n, cl⟩ := d
  simp only at *
  rcases (by omega : k = 1 ∨ k = 2 ∨ k = 3 ∨ k = 4 ∨ k = 6 ∨ k = 7) with rfl | rfl | rfl | rfl | rfl | rfl <;> rfl
theorem ych {c : Int} : ∀ x r, y51 c = x :: r → x = 43 := by
  intro x r h; unfold y51 at h; split at h
  · simp at h; exact h.1.symm
  · cases h
theorem yhw {d : Nd} (h : RightN d) : 0 ≤ d.copy ∧ d.copy ≤ 268435456 := of_decide_eq_true h.cp
theorem num_fn {d : Nd} (h : RightN d) : 0 ≤ d.n ∧ d.n ≤ 268435456 := of_decide_eq_true h.n
theorem ym2 (c : Int) : (43 : UInt8) ∉ y4k c := by
  unfold y4k; split
  · simp only [List.mem_cons, not_or]; exact ⟨by decide, yit _⟩
  · simp
theorem yjp {d : Nd} (h : RightN d) : d.name = [] ∨ y5o d.name = true := h.nm.elim (fun x => .inr x.2) (fun x => .inl x.2)
theorem ym1 {d : Nd} (h : RightN d) : (43 : UInt8) ∉ d.name := by
  rcases yjp h with e | e
  · rw [e]; simp
  · exact ygk (yb8 e).2.2.1
theorem no43_fn {d : Nd} (h : RightN d) : (43 : UInt8) ∉ d.fn := by
  rcases h.fn with ⟨_, e, _⟩ | ⟨_, e⟩
  · rw [e]; simp
  · exact ygk (yb8 e).2.2.1
theorem ym0 {d : Nd} (h : RightN d) : (43 : UInt8) ∉ y8k d := by
  unfold y8k; split
  · decide
  · split
    · exact yit _
    · exact ym1 h
theorem ym3 {d : Nd} (h : RightN d) : (43 : UInt8) ∉ y59 d := by
  by_cases hk : d.kind = 5
  · have : y59 d = d.name := by unfold y59; simp [hk]
    rw [this]; exact ym1 h
  · rw [yhz h hk]
    simp only [List.mem_append, List.mem_cons, not_or]
    refine ⟨no43_fn h, ym2 _, ?_, ym0 h⟩
    unfold y8t; repeat' split
    all_goals decide
theorem kind5 {d : Nd} (h : RightN d) (hk : d.kind = 5) : d.fn = [] ∧ d.copy = 0 ∧ y5o d.name = true ∧ d.n = 0 := by
  rcases h.fn with ⟨_, a, b⟩ | ⟨a, _⟩
  · refine ⟨a, b, ?_, ?_⟩
    · rcases h.nm with ⟨_, x⟩ | ⟨x, _⟩
      · exact x
      · rw [hk] at x; exact absurd x (by decide)
    · rcases h.nn with ⟨x, _⟩ | ⟨_, x⟩
      · rw [hk] at x; exact absurd x (by decide)
      · exact x
  · exact absurd hk a
theorem kindN {d : Nd} (h : RightN d) (hk : d.kind ≠ 5) : y5o d.fn = true := by
  rcases h.fn with ⟨x, _⟩ | ⟨_, x⟩
  · exact absurd x hk
  · exact x
theorem yeo (cp : Int) (m : UInt8) (r : Str) (hm : inB true m = false) : ∀ c q, y4k cp ++ m :: r = c :: q → inB true c = false := by
  intro c q h; unfold y4k at h; split at h
  · simp at h; rw [← h.1]; decide
  · simp at h; rw [← h.1]; exact hm
theorem y9u {k : Int} : inB true (y8t k) = false ∧ yaw (y8t k) = false ∧ y8t k ≠ 126 ∧ y8t k ≠ 43 := by
  unfold y8t; repeat' split
  all_goals decide
theorem tail_ne {d : Nd} (h : RightN d) : d.kind = 1 ∨ d.kind = 6 → y5o d.name = true := fun hk => by
  rcases h.nm with ⟨_, e⟩ | ⟨e, _⟩
  · exact e
  · rcases hk with hk | hk <;> (rw [hk] at e; exact absurd e (by decide))
theorem yg8 {d : Nd} (h : RightN d) (hk : d.kind ≠ 5) : ya7 ⟨0, d.fn, d.copy, [], 0, d.cell⟩ (y8t d.kind :: y8k d) = (d, true) := by
  have h1 := h.k1; have h7 := h.k7; have hn := num_fn h
  have hnm := h.nm; have hnn := h.nn
  obtain ⟨k, fn, cp, nm, n, cl⟩ := d
  simp only at *
  have rd : y5m (y4s n.toNat) = (n.toNat, 0) := y9f (by omega)
  have en : ((n.toNat : Nat) : Int) = n := by omega
  rcases (by omega : k = 1 ∨ k = 2 ∨ k = 3 ∨ k = 4 ∨ k = 6 ∨ k = 7) with rfl | rfl | rfl | rfl | rfl | rfl <;>
    simp [y8m, ye4] at hnm hnn <;>
    simp [ya7, y8t, y8k, yix, Go.Lib.indexByte, ye4, rd, en, hnm, hnn]
theorem yhg {d : Nd} (h : RightN d) (hk : d.kind ≠ 5) : ydg ⟨0, d.fn, 0, [], 0, d.cell⟩ (y4k d.copy ++ y8t d.kind :: y8k d) = (d, true) := by
  have hc := yhw h
  have ht := yg8 h hk
  by_cases h0 : 0 < d.copy
  · have e : y4k d.copy = 126 :: y4s d.copy.toNat := by unfold y4k; rw [if_pos h0]
    have es : y3a (y4s d.copy.toNat ++ y8t d.kind :: y8k d) = (y4s d.copy.toNat, y8t d.kind :: y8k d) := yde fun c r hh => by injection hh with hh _; rw [← hh]; exact y9u.2.1
    rw [e, List.cons_append]
    simp only [ydg, if_true, es, y9f (show d.copy.toNat ≤ 268435456 by omega)]
    rw [if_neg (by simp), show ((d.copy.toNat : Nat) : Int) = d.copy by omega]
    exact ht
  · have e : y4k d.copy = [] := by unfold y4k; rw [if_neg h0]
    have e0 : d.copy = 0 := by omega
    rw [e, List.nil_append]
    simp only [ydg]
    rw [if_neg y9u.2.2.1]
    rw [e0] at ht
    exact ht
theorem yg9 {d : Nd} (h : RightN d) : y9z d.cell (y59 d) = (d, true) := by
  by_cases hk : d.kind = 5
  · obtain ⟨a, b, c, e⟩ := kind5 h hk
    have eb : y59 d = d.name ++ [] := by unfold y59; simp [hk]
    have es := y9c (b := []) c (by simp)
    rw [eb]
    simp only [y9z, es]
    rw [if_pos trivial]
    obtain ⟨k, fn, cp, nm, n, cl⟩ := d
    simp only at *
    subst hk a b e; rfl
  · have es : y3a (y59 d) = (d.fn, y4k d.copy ++ y8t d.kind :: y8k d) := by
      rw [yhz h hk]
      exact y9c (kindN h hk) (yeo _ _ _ y9u.1)
    simp only [y9z, es]
    rw [if_neg (by simp)]
    exact yhg h hk
theorem ydh {d : Nd} (h : RightN d) : y7n (y3b d) = (d, true) := by
  have hb := ym3 h
  have hh := yg9 h
  unfold y7n y3b
  by_cases hc : 0 ≤ d.cell
  · have hc2 : d.cell ≤ 268435456 := by
      rcases h.cell with c | ⟨_, c⟩
      · omega
      · exact (of_decide_eq_true c).2
    have e : y51 d.cell = 43 :: y4s d.cell.toNat := by unfold y51; rw [if_pos hc]
    rw [e, ycq hb]
    have e1 : (y59 d ++ 43 :: y4s d.cell.toNat).drop ((y59 d).length + 1) = y4s d.cell.toNat := by
      rw [← List.drop_drop]; simp
    have e2 : (y59 d ++ 43 :: y4s d.cell.toNat).take (y59 d).length = y59 d := by simp
    simp only [Int.toNat_natCast, e1, e2, y9f (show d.cell.toNat ≤ 268435456 by omega)]
    rw [if_pos (by omega), if_neg (by simp), show ((d.cell.toNat : Nat) : Int) = d.cell by omega]
    exact hh
  · have e : y51 d.cell = [] := by unfold y51; rw [if_neg hc]
    have e1 : d.cell = -1 := by
      rcases h.cell with c | ⟨_, c⟩
      · exact c
      · have := of_decide_eq_true c; omega
    rw [e, List.append_nil, ycp hb]
    simp only
    rw [if_neg (by omega), ← e1]
    exact hh
theorem yej {d : Nd} (h : RightN d) : yf3 (y51 d.cell) = d.cell := by
  unfold y51
  by_cases hc : 0 ≤ d.cell
  · have hc2 : d.cell ≤ 268435456 := by
      rcases h.cell with c | ⟨_, c⟩
      · omega
      · exact (of_decide_eq_true c).2
    rw [if_pos hc]
    simp only [yf3, if_true, y9f (show d.cell.toNat ≤ 268435456 by omega)]
    omega
  · rw [if_neg hc]
    simp only [yf3]
    rcases h.cell with c | ⟨_, c⟩
    · exact c.symm
    · have := of_decide_eq_true c; omega
theorem yfq {d : Nd} (w : Bool) : ∀ c r, y51 d.cell = c :: r → inB w c = false := fun c r h => by
  rw [ych c r h]; cases w <;> decide
theorem ylm {d : Nd} (h : RightN d) : ye2 (y3b d) = if d.kind = 5 then ⟨d.name, 0, [], [], d.cell⟩ else ⟨d.fn, d.copy.toNat, [y8t d.kind], if d.kind = 4 then [] else y8k d, d.cell⟩ := by
  by_cases hk : d.kind = 5
  · obtain ⟨a, b, c, e⟩ := kind5 h hk
    have eb : y59 d = d.name := by unfold y59; simp [hk]
    have es : y3a (y3b d) = (d.name, y51 d.cell) := by
      unfold y3b; rw [eb]; exact y9c c (yfq true)
    rw [if_pos hk]
    have ea : y9g (y51 d.cell) = (0, y51 d.cell) := by
      cases hh : y51 d.cell with
      | nil => rfl
      | cons x r =>
        have := ych x r hh; subst this
        simp only [y9g]; rw [if_neg (by decide)]
    have eb2 : y8z (y51 d.cell) = ([], [], y51 d.cell) := by
      cases hh : y51 d.cell with
      | nil => rfl
      | cons x r =>
        have := ych x r hh; subst this
        simp [y8z]
    simp only [ye2, es, ea, eb2, yej h]
  · rw [if_neg hk]
    have hc := yhw h
    have es : y3a (y3b d) = (d.fn, y4k d.copy ++ y8t d.kind :: (y8k d ++ y51 d.cell)) := by
      unfold y3b; rw [yhz h hk, List.append_assoc, List.append_assoc, List.cons_append]
      exact y9c (kindN h hk) (yeo _ _ _ y9u.1)
    have ea : y9g (y4k d.copy ++ y8t d.kind :: (y8k d ++ y51 d.cell)) = (d.copy.toNat, y8t d.kind :: (y8k d ++ y51 d.cell)) := by
      by_cases h0 : 0 < d.copy
      · have e : y4k d.copy = 126 :: y4s d.copy.toNat := by unfold y4k; rw [if_pos h0]
        have es : y3a (y4s d.copy.toNat ++ y8t d.kind :: (y8k d ++ y51 d.cell)) = (y4s d.copy.toNat, y8t d.kind :: (y8k d ++ y51 d.cell)) := yde fun c r hh => by injection hh with hh _; rw [← hh]; exact y9u.2.1
        rw [e, List.cons_append]
        simp only [y9g, if_true, es, y9f (show d.copy.toNat ≤ 268435456 by omega)]
      · have e : y4k d.copy = [] := by unfold y4k; rw [if_neg h0]
        have e0 : d.copy.toNat = 0 := by omega
        rw [e, List.nil_append, e0]
        simp only [y9g]
        rw [if_neg y9u.2.2.1]
    have eb : y8z (y8t d.kind :: (y8k d ++ y51 d.cell)) = ([y8t d.kind], if d.kind = 4 then [] else y8k d, y51 d.cell) := by
      simp only [y8z]
      rw [if_neg y9u.2.2.2]
      by_cases h4 : d.kind = 4
      · have ec : y51 d.cell = [] := by
          rcases h.cell with c | ⟨c, _⟩
          · rw [c]; rfl
          · omega
        have et : y8k d = [41] := by unfold y8k; rw [if_pos h4]
        rw [ec, et, if_pos h4, show y8t d.kind = 40 by rw [h4]; rfl]
        decide
      · rw [if_neg h4]
        have hm : y8t d.kind ≠ 40 := by
          have h1 := h.k1; have h7 := h.k7
          rcases (by omega : d.kind = 1 ∨ d.kind = 2 ∨ d.kind = 3 ∨ d.kind = 6 ∨ d.kind = 7) with e | e | e | e | e <;> (rw [e]; decide)
        rw [if_neg (fun x => hm x.1)]
        have : y3a (y8k d ++ y51 d.cell) = (y8k d, y51 d.cell) := by
          unfold y8k; rw [if_neg h4]
          split
          · exact yde (by have := yfq (d := d) false; rw [ydo] at this; exact this)
          · rename_i hn
            refine y9c (tail_ne h ?_) (yfq true)
            have h1 := h.k1; have h7 := h.k7
            simp [ye4] at hn; omega
        rw [this]
    simp only [ye2, es, ea, eb, yej h]
theorem yk0 {d : Nd} (h : RightN d) : d ∈ yba (y3b d) ∧ yju (y3b d) d = true := by
  have hp := ylm h
  have h1 := h.k1; have h7 := h.k7; have hn := num_fn h; have hc := yhw h
  have hnm := h.nm; have hnn := h.nn; have hcl := h.cell
  have h5 : d.kind = 5 → _ := kind5 h
  have hr := (y7m d).2 h
  refine ⟨?_, ?_⟩
  · unfold yba
    rw [hp]
    obtain ⟨k, fn, cp, nm, n, cl⟩ := d
    simp only at *
    have rd : y5m (y4s n.toNat) = (n.toNat, 0) := y9f (by omega)
    have en : ((n.toNat : Nat) : Int) = n := by omega
    have ec : ((cp.toNat : Nat) : Int) = cp := by omega
    rcases (by omega : k = 1 ∨ k = 2 ∨ k = 3 ∨ k = 4 ∨ k = 5 ∨ k = 6 ∨ k = 7) with rfl | rfl | rfl | rfl | rfl | rfl | rfl <;>
      simp [y8m, ye4] at hnm hnn hcl h5 <;>
      simp [y8k, ye4, rd, en, ec, hnm, hnn, hcl, h5]
  · unfold yju
    rw [hr, hp]
    by_cases hk : d.kind = 5 <;> simp [hk]
theorem ybl (s : Str) : ya8 s = y7k s := by
  unfold y7k
  by_cases hc : (y7n s).2 = true ∧ y6b (y7n s).1 = true ∧ y3b (y7n s).1 = s
  · rw [if_pos hc]
    obtain ⟨_, h2, h3⟩ := hc
    have hR := (y7m _).1 h2
    have := yk0 hR
    rw [h3] at this
    unfold ya8
    obtain ⟨d, hd⟩ : ∃ d, (yba s).find? (yju s) = some d := by
      cases hf : (yba s).find? (yju s) with
      | some d => exact ⟨d, rfl⟩
      | none => exact absurd this.2 (List.find?_eq_none.1 hf _ this.1)
    rw [hd]
    have hfit := List.find?_some hd
    simp only [yju, Bool.and_eq_true, decide_eq_true_eq] at hfit
    have k1 := ydh ((y7m _).1 hfit.1.1)
    rw [hfit.1.2] at k1
    rw [k1]
  · rw [if_neg hc]
    cases hf : ya8 s with
    | none => rfl
    | some d =>
      have hfit := List.find?_some hf
      simp only [yju, Bool.and_eq_true, decide_eq_true_eq] at hfit
      have k1 := ydh ((y7m _).1 hfit.1.1)
      rw [hfit.1.2] at k1
      exact absurd ⟨by rw [k1], by rw [k1]; exact hfit.1.1, by rw [k1]; exact hfit.1.2⟩ hc
end Go.Proofs.YtjajpilacdfnbaaGreatDoor
namespace Go.Proofs.YtjajpilacdfnbaaGreatDoor
open Am C
set_option linter.unusedSimpArgs false
set_option linter.unusedVariables false
def KdInv (s : Str) (a b : Int) (H : Hp) (m : Nat) (F : Fr) (H' : Hp) : Prop :=
  ∃ i, i ≤ s.length ∧ m = s.length - i ∧ kpB (s.take i) = true ∧ H' = H ∧ F = [(0, .s s), (1, .i .i64 a), (2, .i .i64 b), (7, .i .i64 i)]
theorem kpB_take {s : Str} {i : Nat} (h : i < s.length) : kpB (s.take (i + 1)) = (kpB (s.take i) && (s[i] == 105 || s[i] == 112)) := by
  unfold kpB
  rw [List.take_add_one, List.getElem?_eq_getElem h, List.all_append]
  simp
theorem kpB_no {s : Str} {i : Nat} (h : i < s.length) (hn : ¬ (s[i] == 105 || s[i] == 112) = true) : kpB s = false := by
  cases hk : kpB s
  · rfl
  · exact absurd (List.all_eq_true.1 hk _ (List.getElem_mem h)) hn
theorem ydw (s : Str) (a b : Int) (hs : s.length ≤ 9223372036854775807) (H : Hp) : AC Tryz.prog y5p [.s s, .i .i64 a, .i .i64 b] H (fun v H' => v = .b (kpB s && (decide (a ≤ s.length) && decide ((s.length : Int) ≤ b))) ∧ H' = H) := by
  refine AC.code y1s.at y1s.ok ?_
  simp only [y1s]
  refine AX.sr ?_
  simp [y1s.r0]
  refine AX.seq (AX.seq (AX.reg ?_))
  simp [y1s.r1]
  refine AX.pblock (AX.loop (KdInv s a b H) s.length ⟨_, _, .refl _ _, 0, by omega, by omega, rfl, rfl, rfl⟩ ?_)
  rintro m F H' ⟨i, hi, rfl, hk, rfl, rfl⟩
  simp only [y1s.l0]
  refine AX.seq (AX.seq (AX.reg ?_))
  simp [y1s.r2]
  refine AX.pcond rfl (fun hb => AX.skip ?_) (fun hb => AX.exit ?_)
  case refine_2 =>
    simp at hb
    rw [List.take_of_length_le hb] at hk
    simp
    refine AX.sr ?_
    by_cases h1 : a ≤ s.length
    · simp [y1s.r6, h1]
      refine AX.ret ?_
      simp [hk, h1]
    · simp [y1s.r6, h1]
      refine AX.ret ?_
      simp [hk, h1]
  simp at hb
  simp
  refine AX.seq (AX.pblock (AX.seq (AX.reg ?_)))
  have e1 : ((s[i].toNat : Int) = 105) = (s[i] = 105) := yl3 s[i] 105 (by omega)
  have e2 : ((s[i].toNat : Int) = 112) = (s[i] = 112) := yl3 s[i] 112 (by omega)
  have hkt := kpB_take hb
  by_cases h1 : s[i] = 105
  · simp [y1s.r3, hb, e1, e2, h1]
    refine AX.pcond (t := false) rfl (fun h => by simp at h) (fun _ => AX.skip ?_)
    simp
    refine AX.reg ?_
    simp [y1s.r5, y2j hb hs]
    exact ⟨s.length - (i + 1), by omega, _, _, .refl _ _, i + 1, by omega, rfl, by rw [hkt, hk]; simp [h1], rfl, by simp⟩
  by_cases h2 : s[i] = 112
  · simp [y1s.r3, hb, e1, e2, h1, h2]
    refine AX.pcond (t := false) rfl (fun h => by simp at h) (fun _ => AX.skip ?_)
    simp
    refine AX.reg ?_
    simp [y1s.r5, y2j hb hs]
    exact ⟨s.length - (i + 1), by omega, _, _, .refl _ _, i + 1, by omega, rfl, by rw [hkt, hk]; simp [h2], rfl, by simp⟩
  simp [y1s.r3, hb, e1, e2, h1, h2]
  refine AX.pcond (t := true) rfl (fun _ => ?_) (fun h => by simp at h)
  refine AX.sr ?_
  simp [y1s.r4]
  refine AX.ret ?_
  simp [kpB_no hb (by simp [h1, h2])]
theorem yc1 (s : Str) (hs : s.length ≤ 9223372036854775807) (H : Hp) : AC Tryz.prog y5f [.s s] H (fun v H' => v = .b (y7c s) ∧ H' = H) := by
  refine AC.codeP y2h.at y2h.ok (by simp) fun hlt => ?_
  simp only [y2h]
  refine AX.sr ?_
  simp [y2h.r0]
  refine AX.sr ?_
  simp [y2h.r1]
  refine AC.fix (yam s hs _) ?_
  rw [ybl]
  cases hr : y7k s with
  | none =>
    simp [rdV, nv, Nd.cs, Nd.zero]
    refine AX.sr ?_
    simp [y2h.r2]
    refine AX.ret ?_
    simp [y7c, hr]
    exact ⟨(Hp.Ext.add hlt _).upd hlt (Nat.le_refl _) _, .refl _⟩
  | some d =>
    simp [rdV, nv, Nd.cs]
    refine AX.sr ?_
    by_cases hk : d.kind ≤ 3
    · simp [y2h.r2, hk]
      refine AX.ret ?_
      simp [y7c, hr, hk]
      exact ⟨(Hp.Ext.add hlt _).upd hlt (Nat.le_refl _) _, .refl _⟩
    · simp [y2h.r2, hk]
      refine AX.ret ?_
      simp [y7c, hr, hk]
      exact ⟨(Hp.Ext.add hlt _).upd hlt (Nat.le_refl _) _, .refl _⟩
theorem yns (s : Str) (hs : s.length ≤ 9223372036854775807) (H : Hp) : AC Tryz.prog y7q [.s s] H (fun v H' => v = .b (ya0 s) ∧ H' = H) := by
  refine AC.codeP y2f.at y2f.ok (by simp) fun hlt => ?_
  simp only [y2f]
  refine AX.sr ?_
  simp [y2f.r0]
  refine AX.sr ?_
  simp [y2f.r1]
  refine AC.fix (yam s hs _) ?_
  rw [ybl]
  cases hr : y7k s with
  | none =>
    simp [rdV, nv, Nd.cs, Nd.zero]
    refine AX.sr ?_
    simp [y2f.r2]
    refine AX.ret ?_
    simp [ya0, hr]
    exact ⟨(Hp.Ext.add hlt _).upd hlt (Nat.le_refl _) _, .refl _⟩
  | some d =>
    simp [rdV, nv, Nd.cs]
    refine AX.sr ?_
    by_cases hk : d.kind = 4
    · simp [y2f.r2, hk]
      refine AX.ret ?_
      simp [ya0, hr, hk]
      exact ⟨(Hp.Ext.add hlt _).upd hlt (Nat.le_refl _) _, .refl _⟩
    · simp [y2f.r2, hk]
      refine AX.ret ?_
      simp [ya0, hr, hk]
      exact ⟨(Hp.Ext.add hlt _).upd hlt (Nat.le_refl _) _, .refl _⟩
theorem ybz (a b : Str) (H : Hp) : AC Tryz.prog y4w [.s a, .s b] H (fun v H' => v = .i .i64 (y8i a b) ∧ H' = H) := by
  refine AC.code y25.at y25.ok ?_
  simp only [y25]
  refine AX.sr ?_
  simp [y25.r0]
  refine AX.seq (AX.pblock (AX.seq (AX.reg ?_)))
  simp [y25.r1]
  refine AX.pcond rfl (fun hb => ?_) (fun hb => ?_)
  · have hb0 := hb
    refine AX.sr ?_
    simp [y25.r2]
    refine AX.ret ?_
    simp [y8i, hb]
  have hb0 := hb
  refine AX.sr ?_
  simp [y25.r3]
  refine AX.pcond rfl (fun hc => ?_) (fun hc => AX.skip ?_)
  · simp at hc
    refine AX.sr ?_
    simp [y25.r4]
    refine AX.ret ?_
    have : a ≠ b := hc.2
    simp [y8i, hb, this]
  simp at hc
  simp
  refine AX.sr ?_
  simp [y25.r5]
  refine AX.ret ?_
  have : a = b := hc hb
  simp [y8i, this, y8u]
theorem yfv (a b : Int) (H : Hp) : AC Tryz.prog y5z [.i .i64 a, .i .i64 b] H (fun v H' => v = .i .i64 (ybg a b) ∧ H' = H) := by
  refine AC.code y28.at y28.ok ?_
  simp only [y28]
  refine AX.sr ?_
  simp [y28.r0]
  refine AX.seq (AX.pblock (AX.seq (AX.reg ?_)))
  simp [y28.r1]
  refine AX.pcond rfl (fun hb => ?_) (fun hb => ?_)
  · simp at hb
    refine AX.sr ?_
    simp [y28.r2]
    refine AX.ret ?_
    simp [ybg, hb]
  simp at hb
  refine AX.sr ?_
  simp [y28.r3]
  refine AX.pcond rfl (fun hc => ?_) (fun hc => AX.skip ?_)
  · simp at hc
    refine AX.sr ?_
    simp [y28.r4]
    refine AX.ret ?_
    simp [ybg, show ¬ a < b by omega, show ¬ a = b by omega]
  simp at hc
  simp
  refine AX.sr ?_
  simp [y28.r5]
  refine AX.ret ?_
  simp [ybg, show ¬ a < b by omega, show a = b by omega]
end Go.Proofs.YtjajpilacdfnbaaGreatDoor
