/- What the law SymbolsResolve alone needs: Am18, Am19, Am25, Q05, Q01a, Q01b, Q01c, Q14a, Q14b. -/
import Derived.Lib.ItoaNum
import Derived.Test.YtjajpilacdfnbaaGreatDoorZ1
namespace Go.Proofs.YtjajpilacdfnbaaGreatDoor.Am
open Go Go.RowKit
set_option linter.unusedSimpArgs false
set_option linter.unusedVariables false
@[simp] theorem nlit_eq' (a n : Nat) : (no_index (OfNat.ofNat n : Int) = (a : Int)) = (OfNat.ofNat n = a) := propext Int.ofNat_inj
section
variable {P : Program} {r : List AStep} {K : Fr → Hp → Prop} {F : Fr} {H : Hp} {d : Option Nat}
section
variable {bs : List Nat} {i j : Nat} {A B C D : Hp} {p q : Hp → Prop}
end
variable {bs : List Nat} {j : Nat} {log : List LogE}
@[simp] theorem grdD_u {b : Bool} {x : ADo} : ymf P (.tup []) b d x bs j r log K F H = ybb P bs (j + 1) r log K (put F d (.tup [])) H := id rfl
end
section
variable {P : Program} {n : Nat} {Q : y6j} {F : Fr} {H : Hp}
end
section
variable {P : Program} {bs alx : List Nat} {N j : Nat} {r : List AStep} {log : List LogA} {als pend : List PendE} {K : Fr → Hp → Prop} {F : Fr} {C : Hp} {d : Option Nat}
section
variable {i j : Nat} {C0 C1 D0 D1 : Hp} {p0 p1 q0 q1 : List PendE} {x y : Hp → Prop}
end
end
end Go.Proofs.YtjajpilacdfnbaaGreatDoor.Am
namespace Go.Proofs.YtjajpilacdfnbaaGreatDoor.Am
open Go Go.RowKit
set_option linter.unusedSimpArgs false
set_option linter.unusedVariables false
theorem yh9 {n : Int} (h0 : 0 ≤ n) (h1 : n < 256) : IntKind.u8.wrap n = n := by
  simp [IntKind.wrap, IntKind.bits, IntKind.signed]; omega
end Go.Proofs.YtjajpilacdfnbaaGreatDoor.Am
namespace Go.Proofs.YtjajpilacdfnbaaGreatDoor.Am
open Go Go.RowKit
set_option linter.unusedSimpArgs false
set_option linter.unusedVariables false
theorem frzF_nil {H : Hp} {S : Nat → Prop} : ∀ t, Frz H S (y66 [] t) (y66 [] t) := fun t => .refl _
theorem ydp {H : Hp} {S : Nat → Prop} {k : Nat} {v v' : V} {F F' : Fr} (h : Frz H S v v') (hs : ∀ t, Frz H S (y66 F t) (y66 F' t)) : ∀ t, Frz H S (y66 ((k, v) :: F) t) (y66 ((k, v') :: F') t) := fun t => by
  simp only [y66]; split
  · exact h
  · exact hs t
theorem Hp.wo_none (H : Hp) : H.wo (fun _ => False) = H := by
  refine Hp.ext' (fun k => ?_) rfl
  simp [Hp.wo]
theorem Wk.frz0 {F F' : Fr} {H : Hp} (h : ∀ t, Frz H (fun _ => False) (y66 F t) (y66 F' t)) : Wk F H F' H := by
  have := Wk.freeze (fun _ => False) h
  rwa [Hp.wo_none] at this
section
variable {P : Program} {n : Nat} {Q : y6j} {F : Fr} {H : Hp}
end
end Go.Proofs.YtjajpilacdfnbaaGreatDoor.Am
namespace Go.Proofs.YtjajpilacdfnbaaGreatDoor
open Am C
set_option linter.unusedSimpArgs false
set_option linter.unusedVariables false
def IntoInv (l : List Str) (x : Str) (H : Hp) (m : Nat) (F : Fr) (H' : Hp) : Prop :=
  ∃ i, i ≤ l.length ∧ m = l.length - i ∧ y78 l x = l.take i ++ y78 (l.drop i) x ∧ H' = H ∧ F = [(0, ss l), (1, .s x), (5, .i .i64 i)]
theorem yfy (l : List Str) (x : Str) (hl : l.length ≤ 1000000) (H : Hp) : AC Tryz.prog y5g [ss l, .s x] H (fun v H' => v = ss (y78 l x) ∧ H' = H) := by
  refine AC.codeP y1t.at y1t.ok (yfh _) fun hlt => ?_
  simp only [y1t]
  refine AX.sr ?_
  simp [y1t.r0]
  refine AX.sr ?_
  simp [y1t.r1]
  refine AX.seq (AX.pblock (AX.loop (IntoInv l x H) l.length ⟨_, _, .refl _ _, 0, by omega, by omega, by simp, rfl, rfl⟩ ?_))
  rintro m F H' ⟨i, hi, rfl, hx, rfl, rfl⟩
  simp only [y1t.l0]
  obtain ⟨b, hb0⟩ : ∃ b, b = decide (i < l.length ∧ ltB (l.getD i []) x = true) := ⟨_, rfl⟩
  refine AX.seq (AX.test b [(0, ss l), (1, .s x), (5, .i .i64 i), (18, .b b)] ?_ rfl (fun hb => AX.skip ?_) (fun hb => AX.exit ?_))
  · by_cases hia : i < l.length <;> simp [y1t.r2, ss, hia, hb0, List.getD_eq_getElem?_getD]
  · subst hb
    have := of_decide_eq_true hb0.symm
    obtain ⟨hia, hlt'⟩ := this
    rw [List.getD_eq_getElem?_getD, List.getElem?_eq_getElem hia] at hlt'
    simp only [Option.getD_some] at hlt'
    simp
    refine AX.pblock (AX.reg ?_)
    simp [y1t.r3, y2j hia (show l.length ≤ 9223372036854775807 by omega)]
    refine ⟨l.length - (i + 1), by omega, _, _, .refl _ _, i + 1, by omega, rfl, ?_, rfl, by simp [ss]⟩
    rw [hx, List.drop_eq_getElem_cons hia, y78, if_pos hlt', List.take_add_one, List.getElem?_eq_getElem hia, List.append_assoc]
    rfl
  subst hb
  have hnl : ¬ (i < l.length ∧ ltB (l.getD i []) x = true) := of_decide_eq_false hb0.symm
  clear hb0
  simp
  obtain ⟨b, hb0⟩ : ∃ b, b = decide (i < l.length ∧ l.getD i [] = x) := ⟨_, rfl⟩
  refine AX.seq (AX.test b [(0, ss l), (1, .s x), (5, .i .i64 i), (32, .b b)] ?_ rfl (fun hb => AX.seq (AX.reg ?_)) (fun hb => AX.skip ?_))
  · by_cases hia : i < l.length <;> simp [y1t.r4, ss, hia, hb0, List.getD_eq_getElem?_getD]
  · subst hb
    obtain ⟨hia, he⟩ := of_decide_eq_true hb0.symm
    rw [List.getD_eq_getElem?_getD, List.getElem?_eq_getElem hia] at he hnl
    simp only [Option.getD_some] at he hnl
    simp [y1t.r5]
    refine AX.ret ?_
    have : y78 l x = l := by
      rw [hx, List.drop_eq_getElem_cons hia, y78, if_neg (fun h => hnl ⟨hia, h⟩), if_pos he, ← List.drop_eq_getElem_cons hia, List.take_append_drop]
    rw [this]
    simp
    exact ⟨.refl _, .refl _⟩
  subst hb
  have hne : ¬ (i < l.length ∧ l.getD i [] = x) := of_decide_eq_false hb0.symm
  have hxx : y78 l x = l.take i ++ ([x] ++ l.drop i) := by
    rw [hx]
    by_cases hia : i < l.length
    · rw [List.getD_eq_getElem?_getD, List.getElem?_eq_getElem hia] at hne hnl
      simp only [Option.getD_some] at hne hnl
      rw [List.drop_eq_getElem_cons hia, y78, if_neg (fun h => hnl ⟨hia, h⟩), if_neg (fun h => hne ⟨hia, h⟩)]; rfl
    · rw [List.drop_of_length_le (by omega)]; rfl
  simp
  have A0 : Acc H' 1 (.sl none 0 1) H' [] := .nil 1 1 (.refl _) hlt
  have en : ∀ l : List Str, ∀ e ∈ l.map (fun x => [V.s x]), e.length = 1 := fun l e he => by
    obtain ⟨x, _, rfl⟩ := List.mem_map.1 he; rfl
  have ec : ∀ l : List Str, (l.map (fun x => [V.s x])).flatten.all y5l = true := fun l => by
    rw [List.all_eq_true]; intro v hv
    obtain ⟨e, he, hv⟩ := List.mem_flatten.1 hv
    obtain ⟨x, _, rfl⟩ := List.mem_map.1 he
    simp at hv; subst hv; rfl
  obtain ⟨v1, H1, e1, A1⟩ := A0.app (bytes := 16) hlt (en (l.take i)) (by omega) (ec _) (by simp [y86]; omega)
  obtain ⟨v2, H2, e2, A2⟩ := A1.app (bytes := 16) hlt (en [x]) (by omega) (ec _) (by simp [y86]; omega)
  obtain ⟨v3, H3, e3, A3⟩ := A2.app (bytes := 16) hlt (en (l.drop i)) (by omega) (ec _) (by simp [y86]; omega)
  rw [List.map_take] at e1
  rw [List.map_drop] at e3
  simp only [List.map_cons, List.map_nil] at e2
  refine AX.sr ?_
  simp [y1t.r6, ss, hi, -y3m, e1]
  refine AX.sr ?_
  simp [y1t.r7, y8y, -y3m, e2]
  refine AX.sr ?_
  simp [y1t.r8, ss, hi, -y3m, e3]
  refine AX.ret ?_
  simp
  refine ⟨A3.ext, ?_⟩
  have := A3.frz
  rw [hxx]
  simpa [ss] using this
end Go.Proofs.YtjajpilacdfnbaaGreatDoor
namespace Go.Proofs.YtjajpilacdfnbaaGreatDoor
open Am C
set_option linter.unusedSimpArgs false
set_option linter.unusedVariables false
section
open Go Go.RowKit
end
theorem yfk (c : UInt8) (H : Hp) : AC Tryz.prog y5r [.i .u8 c.toNat] H (fun v H' => v = .b (yaw c) ∧ H' = H) := by
  refine AC.code y35.at y35.ok ?_
  simp only [y35]
  refine AX.sr ?_
  simp [y35.r0]
  refine AX.sr ?_
  by_cases h : (48 : Int) ≤ c.toNat <;> simp [y35.r1, h]
  all_goals
    refine AX.ret ?_
    simp [yaw]
    omega
theorem yac (c : UInt8) (H : Hp) : AC Tryz.prog y4o [.i .u8 c.toNat] H (fun v H' => v = .b (ye7 c) ∧ H' = H) := by
  refine AC.code y30.at y30.ok ?_
  simp only [y30]
  refine AX.sr ?_
  simp [y30.r0]
  refine AX.sr ?_
  by_cases h : (65 : Int) ≤ c.toNat <;> by_cases h2 : (c.toNat : Int) ≤ 90 <;> by_cases h3 : (97 : Int) ≤ c.toNat <;> by_cases h4 : (c.toNat : Int) ≤ 122 <;> simp [y30.r1, h, h2, h3, h4]
  all_goals
    refine AX.ret ?_
    simp
    apply Bool.eq_iff_iff.2
    simp [ye7]
    omega
def SplitInv (s : Str) (H : Hp) (m : Nat) (F : Fr) (H' : Hp) : Prop :=
  ∃ i, i ≤ s.length ∧ m = s.length - i ∧ (s.take i).all (inB (y6v s)) = true ∧ H' = H ∧ F = [(0, .s s), (4, .b (y6v s)), (5, .i .i64 i)]
theorem yfu (s : Str) (hs : s.length ≤ 9223372036854775807) (H : Hp) : AC Tryz.prog y5s [.s s] H (fun v H' => v = .tup [.s (y3a s).1, .s (y3a s).2] ∧ H' = H) := by
  refine AC.code y1w.at y1w.ok ?_
  simp only [y1w]
  refine AX.sr ?_
  simp [y1w.r0]
  refine AX.stp [(0, .s s), (4, .b (y6v s))] ?_ ?_
  · by_cases h : 0 < s.length
    · simp [y1w.r1, h]
      refine AC.fix (yac _ _) ?_
      simp [y6v, h]
    · simp [y1w.r1, h, y6v]
  refine AX.sr ?_
  simp [y1w.r2]
  refine AX.seq (AX.pblock (AX.loop (SplitInv s H) s.length ⟨_, _, .refl _ _, 0, by omega, by omega, by simp, rfl, rfl⟩ ?_))
  rintro m F H' ⟨i, hi, rfl, hx, rfl, rfl⟩
  simp only [y1w.l0]
  obtain ⟨b, hb0⟩ : ∃ b, b = decide (∃ h : i < s.length, inB (y6v s) s[i] = true) := ⟨_, rfl⟩
  refine AX.seq (AX.test b [(0, .s s), (4, .b (y6v s)), (5, .i .i64 i), (32, .b b)] ?_ rfl (fun hb => AX.skip ?_) (fun hb => AX.exit ?_))
  · by_cases hia : i < s.length
    · simp [y1w.r3, hia]
      refine AC.fix (yfk _ _) ?_
      by_cases hd : yaw s[i] = true
      · simp [hd, hb0, inB, hia]
      · by_cases hw : y6v s = true
        · simp [hd, hw, hia]
          refine AC.fix (yac _ _) ?_
          simp [hd, hw, hb0, inB, hia]
        · simp [hd, hw, hia, hb0, inB]
    · simp [y1w.r3, hia, hb0]
  · subst hb
    obtain ⟨hia, hlt'⟩ := of_decide_eq_true hb0.symm
    simp
    refine AX.pblock (AX.reg ?_)
    simp [y1w.r4, y2j hia hs]
    refine ⟨s.length - (i + 1), by omega, _, _, .refl _ _, i + 1, by omega, rfl, ?_, rfl, by simp⟩
    rw [List.take_add_one, List.getElem?_eq_getElem hia, List.all_append, hx]
    simp [hlt']
  · subst hb
    have hn := of_decide_eq_false hb0.symm
    have := y90 hx hi fun x hx => by
      obtain ⟨h1, h2⟩ := List.getElem?_eq_some_iff.1 hx
      cases hc : inB (y6v s) x with
      | false => rfl
      | true => exact absurd ⟨h1, by rw [h2]; exact hc⟩ hn
    simp
    refine AX.seq (AX.drw ?_)
    simp [y1w.r5, hi]
    refine AX.ret ?_
    simp [y3a, this]
end Go.Proofs.YtjajpilacdfnbaaGreatDoor
namespace Go.Proofs.YtjajpilacdfnbaaGreatDoor
open Am C
set_option linter.unusedSimpArgs false
set_option linter.unusedVariables false
theorem yai (n : Nat) : (dgB n).toNat = 48 + n % 10 := by unfold dgB; rw [UInt8.toNat_ofNat']; omega
def PlainInv (n0 : Nat) (H : Hp) (m : Nat) (F : Fr) (H' : Hp) : Prop :=
  ∃ s, H.Ext H' ∧ (∀ id blk, H'.get id = some blk → id < H'.next) ∧ m < 18446744073709551616 ∧ y4s n0 = (if m < 10 then [] else y4s (m / 10)) ++ s ∧ F = [(0, .i .u64 m), (3, .s s)]
theorem dgB_eq (n : Nat) : Go.IntKind.u8.wrap (48 + Go.IntKind.u8.wrap ((n : Int).tmod 10)) = ((dgB n).toNat : Int) := by
  have h : ((n : Int).tmod 10) = ((n % 10 : Nat) : Int) := by rw [Int.tmod_eq_emod_of_nonneg (by omega)]; omega
  rw [h, yh9 (n := ((n % 10 : Nat) : Int)) (by omega) (by omega), yh9 (by omega) (by omega), yai]; omega
theorem plain_ok (n : Nat) (hn : n < 18446744073709551616) (H : Hp) : AC Tryz.prog y6l [.i .u64 n] H (fun v H' => v = .s (y4s n) ∧ H' = H) := by
  refine AC.codeP y21.at y21.ok (yj2 _) fun hlt => ?_
  simp only [y21]
  refine AX.sr ?_
  simp [y21.r0]
  refine AX.sr ?_
  simp [y21.r1, y8y, dgB_eq]
  refine AX.seq (AX.pblock (AX.loop (PlainInv n H) n ⟨_, _, .refl _ _, [dgB n], .add hlt _, Hp.add_lt hlt _, hn, ?_, rfl⟩ ?_))
  · by_cases h : n < 10
    · simp [h, y6r]
    · simp only [h, if_false]; exact y9y h
  rintro m F H' ⟨s, hx, hlt', hm, hs, rfl⟩
  simp only [y21.l0]
  refine AX.seq (AX.seq (AX.reg ?_))
  simp [y21.r2]
  refine AX.pcond rfl (fun hb => AX.skip ?_) (fun hb => AX.exit ?_)
  case refine_2 =>
    simp at hb
    simp
    refine AX.sr ?_
    simp [y21.r5]
    refine AX.ret ?_
    rw [if_pos (by omega)] at hs
    simp [hs]
    exact ⟨hx, .refl _⟩
  simp at hb
  simp
  have hq : (m : Int).tdiv 10 = ((m / 10 : Nat) : Int) := by rw [Int.tdiv_eq_ediv_of_nonneg (by omega)]; omega
  refine AX.pblock (AX.seq (AX.reg ?_))
  simp [y21.r3, hq, -Int.natCast_ediv, yet (show 0 ≤ ((m / 10 : Nat) : Int) by omega) (by omega)]
  have hl : s.length ≤ 20 := by
    have := y3n 19 n (by omega)
    rw [hs, List.length_append] at this; omega
  refine AX.reg ?_
  simp [y21.r4, y8y, dgB_eq, -Int.natCast_ediv, show 1 + s.length ≤ 9223372036854775807 by omega]
  refine ⟨m / 10, by omega, _, _, .refl _ _, [dgB (m / 10)] ++ s, hx.trans (.add hlt' _), Hp.add_lt hlt' _, by omega, ?_, rfl⟩
  rw [hs, if_neg (by omega)]
  by_cases h : m / 10 < 10
  · simp [h, y6r]
  · rw [if_neg h, y9y h, List.append_assoc]
end Go.Proofs.YtjajpilacdfnbaaGreatDoor
namespace Go.Proofs.YtjajpilacdfnbaaGreatDoor
open Am C
set_option linter.unusedSimpArgs false
set_option linter.unusedVariables false
theorem RText_ok (n : Nat) (hn : n ≤ 9223372036854775807) (H : Hp) : AC Tryz.prog y4f [.i .i64 n] H (fun v H' => v = .s (y4s n) ∧ H' = H) := by
  refine AC.code y2i.at y2i.ok ?_
  simp only [y2i]
  refine AX.sr ?_
  simp [y2i.r0]
  refine AX.seq (AX.seq (AX.reg ?_))
  simp [y2i.r1]
  refine AX.pcond rfl (fun hb => AX.seq (AX.reg ?_)) (fun hb => by simp at hb)
  simp [y2i.r2, yet (show 0 ≤ (n : Int) by omega) (by omega)]
  refine AC.fix (plain_ok n (by omega) _) ?_
  simp
  refine AX.ret ?_
  simp
theorem valD_ge (n : Nat) (s : Str) : n ≤ s.foldl (fun n c => 10 * n + (c.toNat - 48)) n := by
  induction s generalizing n with
  | nil => simp
  | cons c s ih => simp only [List.foldl_cons]; exact Nat.le_trans (by omega) (ih _)
theorem yl1 (s : Str) (i : Nat) : ybh (s.take i) ≤ ybh s := by
  have : ybh s = (s.drop i).foldl (fun n c => 10 * n + (c.toNat - 48)) (ybh (s.take i)) := by
    unfold ybh; rw [← List.foldl_append, List.take_append_drop]
  rw [this]; exact valD_ge _ _
def RReadInv (s : Str) (H : Hp) (m : Nat) (F : Fr) (H' : Hp) : Prop :=
  ∃ i, i ≤ s.length ∧ m = s.length - i ∧ (s.take i).all yaw = true ∧ H' = H ∧ F = [(0, .s s), (4, .i .i64 i)]
def ynr (s : Str) (H : Hp) (m : Nat) (F : Fr) (H' : Hp) : Prop :=
  ∃ i, i ≤ s.length ∧ m = s.length - i ∧ ybh (s.take i) ≤ 268435456 ∧ H' = H ∧ F = [(0, .s s), (5, .i .i64 (ybh (s.take i))), (6, .i .i64 i)]
theorem yfw (s : Str) (hs : s.length ≤ 9223372036854775807) (H : Hp) : AC Tryz.prog y60 [.s s] H (fun v H' => v = .tup [.i .i64 (y5m s).1, .i .i64 (y5m s).2] ∧ H' = H) := by
  refine AC.code yp.at yp.ok ?_
  simp only [yp]
  refine AX.sr ?_
  simp [yp.r0]
  refine AX.seq (AX.seq (AX.reg ?_))
  simp [yp.r1]
  refine AX.pcond rfl (fun hb => ?_) (fun hb => AX.skip ?_)
  · simp at hb
    refine AX.sr ?_
    simp [yp.r2]
    refine AX.ret ?_
    simp [y5m, hb]
  simp at hb
  simp
  refine AX.seq (AX.seq (AX.reg ?_))
  simp [yp.r3]
  refine AX.pblock (AX.loop (RReadInv s H) s.length ⟨_, _, .refl _ _, 0, by omega, by omega, by simp, rfl, rfl⟩ ?_)
  rintro m F H' ⟨i, hi, rfl, hx, rfl, rfl⟩
  simp only [yp.l0]
  refine AX.seq (AX.seq (AX.reg ?_))
  simp [yp.r4]
  refine AX.pcond rfl (fun hc => AX.skip ?_) (fun hc => AX.exit ?_)
  · simp at hc
    simp
    refine AX.seq (AX.pblock (AX.seq (AX.reg ?_)))
    simp [yp.r5, hc]
    refine AC.fix (yfk _ _) ?_
    simp
    refine AX.pcond rfl (fun hd => ?_) (fun hd => AX.skip ?_)
    · simp at hd
      refine AX.sr ?_
      simp [yp.r6]
      refine AX.ret ?_
      have : s.all yaw = false := by
        rw [List.all_eq_false]; exact ⟨_, List.getElem_mem hc, by simp [hd]⟩
      simp [y5m, hb, this]
    simp at hd
    simp
    refine AX.reg ?_
    simp [yp.r7, y2j hc hs]
    refine ⟨s.length - (i + 1), by omega, _, _, .refl _ _, i + 1, by omega, rfl, ?_, rfl, by simp⟩
    rw [List.take_add_one, List.getElem?_eq_getElem hc, List.all_append, hx]
    simp [hd]
  simp at hc
  have hall : s.all yaw = true := by rwa [List.take_of_length_le (by omega)] at hx
  have hp : 0 < s.length := List.length_pos_iff.2 hb
  simp
  refine AX.seq (AX.test (decide (s[0]? = some 48 ∧ 1 < s.length)) [(0, .s s), (27, .b (decide (s[0]? = some 48 ∧ 1 < s.length)))] ?_ rfl (fun hz => AX.seq (AX.reg ?_)) (fun hz => AX.skip ?_))
  · have e : ((s[0].toNat : Int) = 48) = (s[0] = 48) := by
      refine propext ⟨fun h => UInt8.toNat_inj.1 (by have : s[0].toNat = 48 := by omega
                                                     rw [this]; rfl), fun h => by rw [h]; rfl⟩
    by_cases h : s[0] = 48 <;> simp [yp.r8, hp, e, h]
  · simp [yp.r9]
    refine AX.ret ?_
    simp only [decide_eq_true_eq] at hz
    have : y5m s = (0, 3) := by unfold y5m; rw [if_neg hb, if_neg (by simp [hall]), if_pos hz]
    simp [this]
  simp only [decide_eq_false_iff_not] at hz
  have hr : y5m s = if 268435456 < ybh s then (0, 2) else (ybh s, 0) := by unfold y5m; rw [if_neg hb, if_neg (by simp [hall]), if_neg hz]
  simp
  refine AX.sr ?_
  simp [yp.r10]
  refine AX.seq (AX.seq (AX.reg ?_))
  simp [yp.r11]
  refine AX.pblock (AX.loop (ynr s H') s.length ⟨_, _, .refl _ _, 0, by omega, by omega, by simp [ybh], rfl, by simp [ybh]⟩ ?_)
  clear hx hi hc
  rintro m F H ⟨i, hi, rfl, hx, rfl, rfl⟩
  simp only [yp.l1]
  refine AX.seq (AX.seq (AX.reg ?_))
  simp [yp.r12]
  refine AX.pcond rfl (fun hc => AX.skip ?_) (fun hc => AX.exit ?_)
  case refine_2 =>
    simp at hc
    have e : s.take i = s := List.take_of_length_le hc
    rw [e] at hx
    simp
    refine AX.sr ?_
    simp [yp.r17]
    refine AX.ret ?_
    rw [hr, if_neg (by omega), e]; simp
  simp at hc
  have hd : yaw s[i] = true := List.all_eq_true.1 hall _ (List.getElem_mem hc)
  have hd' : 48 ≤ s[i].toNat ∧ s[i].toNat ≤ 57 := of_decide_eq_true hd
  have ev : ybh (s.take (i + 1)) = 10 * ybh (s.take i) + (s[i].toNat - 48) := by
    unfold ybh; rw [List.take_add_one, List.getElem?_eq_getElem hc, List.foldl_append]; rfl
  have e1 : Go.IntKind.i64.wrap (10 * (ybh (s.take i) : Int)) = ((10 * ybh (s.take i) : Nat) : Int) := by rw [y3e (by omega) (by omega)]; omega
  have e2 : Go.IntKind.u8.wrap ((s[i].toNat : Int) - 48) = ((s[i].toNat - 48 : Nat) : Int) := by rw [yh9 (by omega) (by omega)]; omega
  have e3 : Go.IntKind.i64.wrap ((s[i].toNat - 48 : Nat) : Int) = ((s[i].toNat - 48 : Nat) : Int) := by rw [y3e (by omega) (by omega)]
  have e4 : Go.IntKind.i64.wrap (((10 * ybh (s.take i) : Nat) : Int) + ((s[i].toNat - 48 : Nat) : Int)) = ((ybh (s.take (i + 1)) : Nat) : Int) := by rw [ev, y3e (by omega) (by omega)]; omega
  simp
  refine AX.seq (AX.pblock (AX.seq (AX.reg ?_)))
  simp only [yp.r13]
  simp [hc, -Int.natCast_mul, -Int.natCast_add, e1, e2, e3, e4]
  refine AX.sr ?_
  simp [yp.r14]
  refine AX.pcond rfl (fun hd => ?_) (fun hd => AX.skip ?_)
  · simp at hd
    refine AX.sr ?_
    simp [yp.r15]
    refine AX.ret ?_
    have := yl1 s (i + 1)
    rw [hr, if_pos (by omega)]; simp
  simp at hd
  simp
  refine AX.reg ?_
  simp [yp.r16, y2j hc hs]
  exact ⟨s.length - (i + 1), by omega, _, _, .refl _ _, i + 1, by omega, rfl, by omega, rfl, by simp⟩
def RNameInv (s : Str) (H : Hp) (m : Nat) (F : Fr) (H' : Hp) : Prop :=
  ∃ i, i ≤ s.length ∧ m = s.length - i ∧ (s.take i).all (inB true) = true ∧ H' = H ∧ F = [(0, .s s), (3, .i .i64 i)]
theorem yfx (s : Str) (hs : s.length ≤ 9223372036854775807) (H : Hp) : AC Tryz.prog y61 [.s s] H (fun v H' => v = .b (y5o s) ∧ H' = H) := by
  refine AC.code y1p.at y1p.ok ?_
  simp only [y1p]
  refine AX.sr ?_
  simp [y1p.r0]
  refine AX.seq (AX.test (!(decide (s.length ≤ 16) && y6v s)) [(0, .s s), (16, .b (!(decide (s.length ≤ 16) && y6v s)))] ?_ rfl (fun hz => AX.seq (AX.reg ?_)) (fun hz => AX.skip ?_))
  · by_cases h0 : s = []
    · subst h0; simp [y1p.r1, y6v]
    · have hp : 0 < s.length := List.length_pos_iff.2 h0
      have h0' : s.isEmpty = false := by simpa using h0
      by_cases h1 : s.length ≤ 16
      · simp [y1p.r1, h0, h0', h1, hp, show ¬ 16 < s.length by omega]
        refine AC.fix (yac _ _) ?_
        simp [y6v, hp]
      · simp [y1p.r1, h0, h0', h1, hp, show 16 < s.length by omega]
  · simp [y1p.r2]
    refine AX.ret ?_
    have : y5o s = false := by unfold y5o; simp only [Bool.not_eq_true'] at hz; rw [hz]; rfl
    simp [this]
  have hz' : (decide (s.length ≤ 16) && y6v s) = true := by simpa only [Bool.not_eq_false'] using hz
  simp
  refine AX.seq (AX.seq (AX.reg ?_))
  simp [y1p.r3]
  refine AX.pblock (AX.loop (RNameInv s H) s.length ⟨_, _, .refl _ _, 0, by omega, by omega, by simp, rfl, rfl⟩ ?_)
  rintro m F H' ⟨i, hi, rfl, hx, rfl, rfl⟩
  simp only [y1p.l0]
  refine AX.seq (AX.seq (AX.reg ?_))
  simp [y1p.r4]
  refine AX.pcond rfl (fun hc => AX.skip ?_) (fun hc => AX.exit ?_)
  case refine_2 =>
    simp at hc
    rw [List.take_of_length_le hc] at hx
    simp
    refine AX.sr ?_
    simp [y1p.r8]
    refine AX.ret ?_
    have : y5o s = true := by unfold y5o; rw [hz', hx]; rfl
    simp [this]
  simp at hc
  simp
  refine AX.seq (AX.pblock (AX.test (!(inB true s[i])) [(0, .s s), (3, .i .i64 i), (34, .b (!(inB true s[i])))] ?_ rfl (fun hz => AX.seq (AX.reg ?_)) (fun hz => AX.skip ?_)))
  · by_cases h1 : ye7 s[i] = true
    · simp [y1p.r5, hc]
      refine AC.fix (yac _ _) ?_
      simp [h1, inB]
    · simp [y1p.r5, hc]
      refine AC.fix (yac _ _) ?_
      simp [h1, hc]
      refine AC.fix (yfk _ _) ?_
      simp [h1, inB]
  · simp [y1p.r6]
    refine AX.ret ?_
    have : y5o s = false := by
      unfold y5o
      have : s.all (inB true) = false := by rw [List.all_eq_false]; exact ⟨_, List.getElem_mem hc, by simpa using hz⟩
      rw [this, Bool.and_false]
    simp [this]
  · simp
    refine AX.reg ?_
    simp [y1p.r7, y2j hc hs]
    refine ⟨s.length - (i + 1), by omega, _, _, .refl _ _, i + 1, by omega, rfl, ?_, rfl, by simp⟩
    rw [List.take_add_one, List.getElem?_eq_getElem hc, List.all_append, hx]
    simpa using hz
end Go.Proofs.YtjajpilacdfnbaaGreatDoor
namespace Go.Proofs.YtjajpilacdfnbaaGreatDoor
open Am C
set_option linter.unusedSimpArgs false
set_option linter.unusedVariables false
theorem yfm (n : Int) (H : Hp) : AC Tryz.prog y5q [.i .i64 n] H (fun v H' => v = .b (y69 n) ∧ H' = H) := by
  refine AC.code y34.at y34.ok ?_
  simp only [y34]
  refine AX.sr ?_
  simp [y34.r0]
  refine AX.sr ?_
  by_cases h : (0 : Int) ≤ n <;> simp [y34.r1, h]
  all_goals
    refine AX.ret ?_
    simp [y69, h]
theorem Right_ok (d : Nd) (h1 : d.fn.length ≤ 9223372036854775807) (h2 : d.name.length ≤ 9223372036854775807) (H : Hp) : AC Tryz.prog y7t [nv d] H (fun v H' => v = .b (y6b d) ∧ H' = H) := by
  obtain ⟨k, fn, cp, nm, n, cl⟩ := d
  refine AC.code y10.at y10.ok ?_
  simp only [y10]
  refine AX.sr ?_
  simp [y10.r0, nv, Nd.cs]
  refine AX.seq (AX.test (bad1 ⟨k, fn, cp, nm, n, cl⟩) [(1, .fp [.i .i64 k, .s fn, .i .i64 cp, .s nm, .i .i64 n, .i .i64 cl] 0), (35, .b (bad1 ⟨k, fn, cp, nm, n, cl⟩))] ?_ rfl (fun hz => AX.seq (AX.reg ?_)) (fun hz => AX.skip ?_))
  · by_cases a1 : k < 1
    · simp [y10.r1, a1, bad1]
    by_cases a2 : 7 < k
    · simp [y10.r1, a1, a2, bad1]
    simp [y10.r1, a1, a2]
    refine AC.fix (yfm _ _) ?_
    by_cases a3 : y69 cp = true
    case neg => simp [a3, bad1]
    simp [a3]
    refine AC.fix (yfm _ _) ?_
    by_cases a4 : y69 n = true
    case neg => simp [a4, bad1]
    by_cases a5 : cl = -1
    · simp [a4, a5, bad1, a1, a2, a3]
    simp [a4, a5]
    refine AC.fix (yfm _ _) ?_
    simp [bad1, a1, a2, a3, a4, a5]
  · simp [y10.r2]
    refine AX.ret ?_
    simp [y6b, hz]
  simp
  refine AX.stp [(1, .fp [.i .i64 k, .s fn, .i .i64 cp, .s nm, .i .i64 n, .i .i64 cl] 0), (3, .b (y8m k))] ?_ ?_
  · by_cases a1 : k = 1
    · simp [y10.r3, a1, y8m]
    by_cases a2 : k = 5 <;> simp [y10.r3, a1, a2, y8m]
  refine AX.stp [(1, .fp [.i .i64 k, .s fn, .i .i64 cp, .s nm, .i .i64 n, .i .i64 cl] 0), (3, .b (y8m k)), (4, .b (ye4 k))] ?_ ?_
  · by_cases a1 : k = 2
    · simp [y10.r4, a1, ye4]
    by_cases a2 : k = 3 <;> simp [y10.r4, a1, a2, ye4]
  refine AX.seq (AX.pblock (AX.test (bad2 ⟨k, fn, cp, nm, n, cl⟩) [(1, .fp [.i .i64 k, .s fn, .i .i64 cp, .s nm, .i .i64 n, .i .i64 cl] 0), (3, .b (y8m k)), (4, .b (ye4 k)), (62, .b (bad2 ⟨k, fn, cp, nm, n, cl⟩))] ?_ rfl (fun hz2 => AX.seq (AX.reg ?_)) (fun hz2 => ?_)))
  · have e : fn.isEmpty = decide (fn = []) := by cases fn <;> simp
    by_cases a1 : k = 5 <;> by_cases a2 : fn = []
    · by_cases a3 : cp = 0 <;> simp [y10.r5, a1, a2, a3, bad2]
    · simp [y10.r5, a1, a2, e, bad2]
    · simp [y10.r5, a1, a2, e, bad2]
    · simp [y10.r5, a1, a2, e]
      refine AC.fix (yfx _ h1 _) ?_
      by_cases a3 : y5o fn = true <;> simp [a1, a2, a3, e, bad2]
  · simp [y10.r6]
    refine AX.ret ?_
    simp [y6b, hz2]
  simp
  refine AX.test (bad3 ⟨k, fn, cp, nm, n, cl⟩) [(1, .fp [.i .i64 k, .s fn, .i .i64 cp, .s nm, .i .i64 n, .i .i64 cl] 0), (4, .b (ye4 k)), (91, .b (bad3 ⟨k, fn, cp, nm, n, cl⟩))] ?_ rfl (fun hz3 => AX.seq (AX.reg ?_)) (fun hz3 => ?_)
  · have e : nm.isEmpty = decide (nm = []) := by cases nm <;> simp
    by_cases a1 : y8m k = true <;> by_cases a2 : nm = []
    · simp [y10.r7, a1, a2, bad3]
    · simp [y10.r7, a1, a2, e]
      refine AC.fix (yfx _ h2 _) ?_
      simp [a1, a2, e, bad3]
    · simp [y10.r7, a1, a2, e, bad3]
    · simp [y10.r7, a1, a2, e, bad3]
  · simp [y10.r8]
    refine AX.ret ?_
    simp [y6b, hz3]
  simp
  refine AX.test (bad4 ⟨k, fn, cp, nm, n, cl⟩) [(1, .fp [.i .i64 k, .s fn, .i .i64 cp, .s nm, .i .i64 n, .i .i64 cl] 0), (106, .b (bad4 ⟨k, fn, cp, nm, n, cl⟩))] ?_ rfl (fun hz4 => AX.seq (AX.reg ?_)) (fun hz4 => AX.skip ?_)
  · by_cases a3 : k = 3
    · subst a3
      by_cases a2 : n = 0 <;> simp [y10.r9, show ye4 3 = true from rfl, a2, bad4]
    · by_cases a1 : ye4 k = true <;> by_cases a2 : n = 0 <;> simp [y10.r9, a1, a2, a3, bad4]
  · simp [y10.r10]
    refine AX.ret ?_
    simp [y6b, hz4]
  simp
  refine AX.sr ?_
  by_cases a1 : 5 ≤ k <;> simp [y10.r11, a1]
  all_goals
    refine AX.ret ?_
    simp [y6b, hz, hz2, hz3, hz4, a1]
end Go.Proofs.YtjajpilacdfnbaaGreatDoor
namespace Go.Proofs.YtjajpilacdfnbaaGreatDoor
open Am C
set_option linter.unusedSimpArgs false
set_option linter.unusedVariables false
def y9g : Str → Nat × Str
  | [] => (0, [])
  | c :: r => if c = 126 then ((y5m (y3a r).1).1, (y3a r).2) else (0, c :: r)
def y8z : Str → Str × Str × Str
  | [] => ([], [], [])
  | c :: r => if c = 43 then ([], [], c :: r) else ([c], (y3a r).1, if c = 40 ∧ (y3a r).2 = [41] then [] else (y3a r).2)
def yf3 : Str → Int
  | [] => -1
  | c :: r => if c = 43 then (y5m r).1 else -1
def ylr (s : Str) : V :=
  let a := y3a s
  let b := y9g a.2
  let c := y8z b.2
  .tup [.s a.1, .i .i64 b.1, .s c.1, .s c.2.1, .i .i64 (yf3 c.2.2)]
theorem ygh (s : Str) : (y9g s).2.length ≤ s.length := by
  cases s with
  | nil => simp [y9g]
  | cons c r => simp only [y9g]; split
                · have := y5n r; simp; omega
                · simp
theorem yls (s : Str) : (y8z s).2.2.length ≤ s.length := by
  cases s with
  | nil => simp [y8z]
  | cons c r => simp only [y8z]; split
                · simp
                · have := y5n r
                  split
                  · simp
                  · simp; omega
theorem parts_ok (s : Str) (hs : s.length ≤ 9223372036854775807) (H : Hp) : AC Tryz.prog y7s [.s s] H (fun v H' => v = ylr s ∧ H' = H) := by
  refine AC.code yu.at yu.ok ?_
  simp only [yu]
  refine AX.sr ?_
  simp [yu.r0]
  refine AX.sr ?_
  simp [yu.r1]
  refine AC.fix (yfu s hs _) ?_
  simp
  have hr := (y5n s).2
  unfold ylr
  rcases ea : y3a s with ⟨fn, rest⟩
  rw [ea] at hr
  simp only at hr ⊢
  refine AX.sr ?_
  simp [yu.r2]
  refine AX.seq (AX.join (F1 := [(7, .s fn), (8, .s (y9g rest).2), (9, .i .i64 (y9g rest).1), (10, .i .i64 (-1))]) (H1 := H) ?_ ?_)
  · cases rest with
    | nil =>
      refine AX.sr ?_
      simp [yu.r3]
      refine AX.pcond rfl (fun hb => by simp at hb) (fun hb => AX.skip ?_)
      simp [y9g]
    | cons c r =>
      have e := u8_eq c 126 (by omega)
      simp at e hr
      refine AX.sr ?_
      simp [yu.r3, e]
      by_cases hc : c = 126
      · refine AX.pcond (t := true) (by simp [hc]) (fun hb => ?_) (fun hb => by simp at hb)
        refine AX.sr ?_
        simp [yu.r4, show (1 : Int) ≤ (r.length : Int) + 1 by omega]
        refine AC.fix (yfu r (by omega) _) ?_
        simp
        have hl := y5n r
        refine AX.sr ?_
        simp [yu.r5]
        refine AC.fix (yfw _ (by omega) _) ?_
        simp
        refine AX.reg ?_
        simp [yu.r6, y9g, hc]
      · refine AX.pcond (t := false) (by simp [hc]) (fun hb => by simp at hb) (fun hb => AX.skip ?_)
        simp [y9g, hc]
  have hr2 := ygh rest
  rcases eb : y9g rest with ⟨cp, r2⟩
  rw [eb] at hr2
  simp only at hr2 ⊢
  refine AX.sr ?_
  simp [yu.r7]
  refine AX.seq (AX.join (F1 := [(7, .s fn), (8, .s (y8z r2).2.2), (9, .i .i64 cp), (10, .i .i64 (-1)), (13, .s (y8z r2).1), (14, .s (y8z r2).2.1)]) (H1 := H) ?_ ?_)
  · cases r2 with
    | nil =>
      refine AX.sr ?_
      simp [yu.r8]
      refine AX.pcond rfl (fun hb => by simp at hb) (fun hb => AX.skip ?_)
      simp [y8z]
    | cons c r =>
      have e := u8_eq c 43 (by omega)
      simp at e hr2
      refine AX.sr ?_
      simp [yu.r8, e]
      by_cases hc : c = 43
      · refine AX.pcond (t := false) (by simp [hc]) (fun hb => by simp at hb) (fun hb => AX.skip ?_)
        simp [y8z, hc]
      · refine AX.pcond (t := true) (by simp [hc]) (fun hb => ?_) (fun hb => by simp at hb)
        refine AX.sr ?_
        simp [yu.r9, show (1 : Int) ≤ (r.length : Int) + 1 by omega]
        refine AX.sr ?_
        simp [yu.r10, show (1 : Int) ≤ (r.length : Int) + 1 by omega]
        refine AC.fix (yfu r (by omega) _) ?_
        simp
        rcases es : y3a r with ⟨tl, r3⟩
        refine AX.test (decide (c = 40 ∧ r3 = [41])) [(7, .s fn), (8, .s r3), (9, .i .i64 cp), (10, .i .i64 (-1)), (13, .s [c]), (14, .s tl), (59, .b (decide (c = 40 ∧ r3 = [41])))] ?_ rfl (fun hz => AX.reg ?_) (fun hz => AX.skip ?_)
        · by_cases h1 : c = 40
          · simp [yu.r11, h1]
          · simp [yu.r11, h1, show (c == 40) = false by simpa using h1]
        · simp at hz
          simp [yu.r12, y8z, hc, es, hz]
        · simp only [decide_eq_false_iff_not] at hz
          simp [y8z, hc, es]
          intro h1 h2; exact absurd ⟨h1, h2⟩ hz
  have hr3 := yls r2
  rcases ec : y8z r2 with ⟨mk, tl, r3⟩
  rw [ec] at hr3
  simp only at hr3 ⊢
  refine AX.seq (AX.join (F1 := [(7, .s fn), (9, .i .i64 cp), (10, .i .i64 (yf3 r3)), (13, .s mk), (14, .s tl)]) (H1 := H) ?_ ?_)
  · cases r3 with
    | nil =>
      refine AX.sr ?_
      simp [yu.r13]
      refine AX.pcond rfl (fun hb => by simp at hb) (fun hb => AX.skip ?_)
      simp [yf3]
    | cons c r =>
      have e := u8_eq c 43 (by omega)
      simp at e hr3
      refine AX.sr ?_
      simp [yu.r13, e]
      by_cases hc : c = 43
      · refine AX.pcond (t := true) (by simp [hc]) (fun hb => ?_) (fun hb => by simp at hb)
        refine AX.reg ?_
        simp [yu.r14, show (1 : Int) ≤ (r.length : Int) + 1 by omega]
        refine AC.fix (yfw _ (by omega) _) ?_
        simp [yf3, hc]
      · refine AX.pcond (t := false) (by simp [hc]) (fun hb => by simp at hb) (fun hb => AX.skip ?_)
        simp [yf3, hc]
  refine AX.sr ?_
  simp [yu.r15]
  refine AX.ret ?_
  simp
end Go.Proofs.YtjajpilacdfnbaaGreatDoor
