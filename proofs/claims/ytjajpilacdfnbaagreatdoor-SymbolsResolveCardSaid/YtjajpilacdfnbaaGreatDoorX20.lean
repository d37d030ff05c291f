/- Part 20 of the proof of the laws of the queries: QBld, QDig, QDig2, QNam. -/
import Derived.Shelf.Strings.Builder1
import Derived.WalkKit
import Derived.BigCall
import Derived.Test.YtjajpilacdfnbaaGreatDoorX19
namespace Go.Proofs.YtjajpilacdfnbaaGreatDoor
open Go Go.RowKit Go.Shelf
set_option linter.unusedSimpArgs false
set_option linter.unusedVariables false
set_option maxHeartbeats 1000000 in
set_option maxRecDepth 100000 in
theorem ygz (B b : Nat) (bs : List Value) (w : World) (h : Lib.IsBuilder 185 5 B b bs w) :
    Calls Tryz.prog 162 #[.pointer (some ⟨b, 0, none⟩)] w fun e w' => e = .returned (.tuple #[]) ∧ (Lib.BuilderAt 185 5 B b (.pointer (some ⟨b, 0, none⟩)) bs w' ∧ RowKit.Below B w w') := by
  obtain ⟨j, hj, hjs⟩ := Option.map_eq_some_iff.1 (show (Tryz.prog.info? 185).map (·.size) = some 2 by kernel_rfl)
  rcases h with h | h
  · have h0 := h.cell0
    have hsh := h.shape
    have hfz := h.frozen0
    have key : Calls Tryz.prog 162 #[.pointer (some ⟨b, 0, none⟩)] w fun e w' => e = .returned (.tuple #[]) ∧ w' = w.setCell ⟨b, 0, none⟩ (.pointer (some ⟨b, 0, none⟩)) := by
      go_enter Tryz.func162, Tryz.ntmps162
      go_wp2
      rw [Lib.run_to_unsafe w ⟨b, 0, none⟩ Tryz.underlying182 Tryz.underlying207 hj (by rw [hjs]; decide) hsh (Nat.zero_lt_succ 1)]
      simp only [Result.andThen]
      rw [Oper.upon_value]
      go_wp2
      rw [run_callFunc_extern Tryz.func173 (by kernel_rfl) (by kernel_rfl) (by kernel_rfl) (e := Extern.AbiNoEscape.same) (by kernel_rfl)]
      rw [Lib.run_noEscape]
      simp only [Result.andThen]
      rw [Oper.upon_value]
      go_wp2
      rw [Lib.run_from_unsafe w ⟨b, 0, none⟩ Tryz.underlying207 Tryz.underlying182 hj hsh (by kernel_rfl)]
      simp only [Result.andThen]
      rw [Oper.upon_value]
      go_wp2
      go_end0
      exact ⟨rfl, rfl⟩
    refine key.mono ?_
    rintro e w' ⟨rfl, rfl⟩
    exact ⟨rfl, h.used _, (Below.refl B w).setCell (p := ⟨b, 0, none⟩) h.1 _⟩
  · have h0 := h.cell0
    have key : Calls Tryz.prog 162 #[.pointer (some ⟨b, 0, none⟩)] w fun e w' => e = .returned (.tuple #[]) ∧ w' = w := by
      go_enter Tryz.func162, Tryz.ntmps162
      go_wp2
      rw [Lib.run_neq_ptr_same w _ Tryz.underlying182 hj]
      go_wp2
      go_end0
      exact ⟨rfl, rfl⟩
    refine key.mono ?_
    rintro e w' ⟨rfl, rfl⟩
    exact ⟨rfl, h, Below.refl B _⟩
set_option maxHeartbeats 2000000 in
set_option maxRecDepth 100000 in
theorem bld_byte (B b : Nat) (bs : List Value) (c : Int) (w : World) (h : Lib.IsBuilder 185 5 B b bs w) (hlen : bs.length + 1 ≤ 140737488355328) (hBw : B ≤ w.heap.size) :
    Calls Tryz.prog 142 #[.pointer (some ⟨b, 0, none⟩), .int .u8 c] w fun e w' => e = .returned .nilIface ∧ (Lib.BuilderAt 185 5 B b (.pointer (some ⟨b, 0, none⟩)) (bs ++ [.int .u8 c]) w' ∧ RowKit.Below B w w') := by
  obtain ⟨i0, hi, hz0, hz1, hz2⟩ := info_parts (show (Tryz.prog.info? 5).map (fun i => (i.zero, i.size, i.bytes)) = some (some (.int .u8 0), 1, 1) by kernel_rfl)
  have ecc : ∀ args w, (callFunc 162 args).run Tryz.prog w = .ok (.enter 162 args) w := enters_of Tryz.func162 (by kernel_rfl) rfl
  go_enter Tryz.func142, Tryz.ntmps142
  go_wp2_with (go_at_fn 162; refine (ygz B b bs _ h).mono ?_)
  rintro e w1 ⟨rfl, h1, hb1⟩
  obtain ⟨hB, v, hbk, hown, hne⟩ := h1
  have c0 : w1.cell? ⟨b, 0, none⟩ = some (.pointer (some ⟨b, 0, none⟩)) := by rw [Lib.cell_of_heap hbk]; rfl
  have c1 : w1.cell? ⟨b, 1, none⟩ = some v := by rw [Lib.cell_of_heap hbk]; rfl
  go_wp2_with (at_builtin; refine wpList_append_own _ rfl _ _ 183 rfl B 5 i0 (.int .u8 0) 1 1 Tryz.underlying183 hi hz0 hz1 hz2 rfl (by decide) _ _ _ rfl (hown.alloc _) ⟨w1.heap.size, 0, none⟩ 1 1 [.int .u8 c] rfl rfl ?c1 ?c2 ?c3 ?c4 ?c5 ?_)
  case c1 =>
    intro j u hj
    match j, hj with
    | 0, hj => simp at hj; subst hj; simp [Addr.add]
  case c2 => intro u hu; simp at hu; subst hu; rfl
  case c3 => unfold maxLen; omega
  case c4 => omega
  case c5 => have := hb1.size; simp; omega
  intro v' w2 hown' hgrow _
  have hlt : b < w1.heap.size := by
    rcases Nat.lt_or_ge b w1.heap.size with h' | h'
    · exact h'
    · simp [Array.getElem?_eq_none h'] at hbk
  have hb2 : w2.heap[b]? = some (.cells #[.pointer (some ⟨b, 0, none⟩), v] 185 (0, 0)) := by
    rw [hgrow.block b (by simp; omega) (fun e => hne e.symm), Lib.alloc_old w1 _ b hlt]
    exact hbk
  have d0 : w2.cell? ⟨b, 0, none⟩ = some (.pointer (some ⟨b, 0, none⟩)) := by rw [Lib.cell_of_heap hb2]; rfl
  have d1 : w2.cell? ⟨b, 1, none⟩ = some v := by rw [Lib.cell_of_heap hb2]; rfl
  have f1 : w2.frozen? ⟨b, 1, none⟩ = false := Lib.frozen_of_heap hb2 1
  obtain ⟨g, cap, rfl⟩ : ∃ g cap, v' = .slice (some ⟨g, 0, none⟩) (bs.length + 1) cap := by
    rcases hown'.2 with ⟨_, h0⟩ | ⟨g, cap, cur, hv, _⟩
    · omega
    · exact ⟨g, cap, hv⟩
  go_wp2
  go_ret
  refine ⟨rfl, ?_, ?_⟩
  · exact Lib.BuilderAt.put (T := 185) (e := 5) hB hb2 (bs' := bs ++ [.int .u8 c]) (by simpa using hown') (by decide)
  · exact ((hb1.alloc (by have := hb1.size; omega) _).grown hgrow (by have := hb1.size; simp; omega) (fun k hk => (hown.lt k hk).1)).setCell (p := ⟨b, 1, none⟩) hB _
set_option maxHeartbeats 2000000 in
set_option maxRecDepth 100000 in
theorem bld_str (B b : Nat) (bs : List Value) (s : ByteArray) (w : World) (h : Lib.IsBuilder 185 5 B b bs w) (hlen : bs.length + s.size ≤ 140737488355328) (hBw : B ≤ w.heap.size) :
    Calls Tryz.prog 140 #[.pointer (some ⟨b, 0, none⟩), .string s] w fun e w' => e = .returned (.tuple #[.int .i64 s.size, .nilIface]) ∧ (Lib.BuilderAt 185 5 B b (.pointer (some ⟨b, 0, none⟩)) (bs ++ Lib.strCells s) w' ∧ RowKit.Below B w w') := by
  obtain ⟨i0, hi, hz0, hz1, hz2⟩ := info_parts (show (Tryz.prog.info? 5).map (fun i => (i.zero, i.size, i.bytes)) = some (some (.int .u8 0), 1, 1) by kernel_rfl)
  have ecc : ∀ args w, (callFunc 162 args).run Tryz.prog w = .ok (.enter 162 args) w := enters_of Tryz.func162 (by kernel_rfl) rfl
  go_enter Tryz.func140, Tryz.ntmps140
  go_wp2_with (go_at_fn 162; refine (ygz B b bs _ h).mono ?_)
  rintro e w1 ⟨rfl, h1, hb1⟩
  obtain ⟨hB, v, hbk, hown, hne⟩ := h1
  have c0 : w1.cell? ⟨b, 0, none⟩ = some (.pointer (some ⟨b, 0, none⟩)) := by rw [Lib.cell_of_heap hbk]; rfl
  have c1 : w1.cell? ⟨b, 1, none⟩ = some v := by rw [Lib.cell_of_heap hbk]; rfl
  go_wp2_with (at_builtin; refine Lib.wpList_append_own_string _ rfl _ _ 183 9 rfl B 5 i0 Tryz.underlying183 Tryz.underlying9 hi hz0 hz1 hz2 _ _ _ rfl hown s rfl ?c3 ?c4 ?c5 ?_)
  case c3 => unfold maxLen; omega
  case c4 => omega
  case c5 => have := hb1.size; omega
  intro v' w2 hown' hgrow _
  have hlt : b < w1.heap.size := by
    rcases Nat.lt_or_ge b w1.heap.size with h' | h'
    · exact h'
    · simp [Array.getElem?_eq_none h'] at hbk
  have hb2 : w2.heap[b]? = some (.cells #[.pointer (some ⟨b, 0, none⟩), v] 185 (0, 0)) := by
    rw [hgrow.block b hlt (fun e => hne e.symm)]
    exact hbk
  have d0 : w2.cell? ⟨b, 0, none⟩ = some (.pointer (some ⟨b, 0, none⟩)) := by rw [Lib.cell_of_heap hb2]; rfl
  have d1 : w2.cell? ⟨b, 1, none⟩ = some v := by rw [Lib.cell_of_heap hb2]; rfl
  have f1 : w2.frozen? ⟨b, 1, none⟩ = false := Lib.frozen_of_heap hb2 1
  obtain ⟨ao, n', cap, rfl⟩ : ∃ ao n' cap, v' = .slice ao n' cap := by
    rcases hown'.2 with ⟨hv, _⟩ | ⟨g, cap, cur, hv, _⟩
    · exact ⟨_, _, _, hv⟩
    · exact ⟨_, _, _, hv⟩
  go_wp2
  go_ret2
  refine ⟨rfl, ?_, ?_⟩
  · exact Lib.BuilderAt.put (T := 185) (e := 5) hB hb2 (bs' := bs ++ Lib.strCells s) (by simpa [Lib.strCells_length] using hown') (by decide)
  · exact (hb1.grown hgrow (by have := hb1.size; omega) (fun k hk => (hown.lt k hk).1)).setCell (p := ⟨b, 1, none⟩) hB _
end Go.Proofs.YtjajpilacdfnbaaGreatDoor
namespace Go.Proofs.YtjajpilacdfnbaaGreatDoor
open Am C
set_option linter.unusedSimpArgs false
set_option linter.unusedVariables false
def clsN (c : UInt8) : Int := if yaw c then 1 else if ye7 c then 2 else 0
theorem yd5 (c : UInt8) (H : Hp) : AC Tryz.prog y64 [.i .u8 c.toNat] H (fun v H' => v = .i .i64 (clsN c) ∧ H' = H) := by
  refine AC.code y22.at y22.ok ?_
  simp only [y22]
  refine AX.sr ?_
  simp [y22.r0]
  refine AX.sr ?_
  simp [y22.r1]
  refine AX.seq (AX.pblock (AX.seq (AX.pblock (AX.seq (AX.pblock (AX.seq (AX.seq (AX.test (yaw c) [(0, .i .u8 c.toNat), (3, .i .i64 2), (4, .b (yaw c))] ?_ rfl (fun hd => AX.exit ?_) (fun hd => AX.skip ?_)))))))))
  · by_cases h : (48 : Int) ≤ c.toNat <;> simp [y22.r2, h, yaw]
    all_goals omega
  · simp
    refine AX.reg ?_
    simp [y22.r6]
    refine AX.seq (AX.seq (AX.reg ?_))
    simp [y22.r7]
    refine AX.ret ?_
    simp [clsN, hd]
  simp
  refine AX.seq (AX.join (F1 := [(3, .i .i64 2), (11, .b (ye7 c))]) (H1 := H) ?_ ?_)
  · refine AX.test (decide (65 ≤ c.toNat ∧ c.toNat ≤ 90)) [(0, .i .u8 c.toNat), (3, .i .i64 2), (11, .b (decide (65 ≤ c.toNat ∧ c.toNat ≤ 90)))] ?_ rfl (fun h1 => AX.skip ?_) (fun h1 => ?_)
    · by_cases h : (65 : Int) ≤ c.toNat <;> simp [y22.r3, h]
      all_goals omega
    · simp at h1 ⊢; simp [ye7, h1]
    refine AX.test (decide (97 ≤ c.toNat ∧ c.toNat ≤ 122)) [(0, .i .u8 c.toNat), (3, .i .i64 2), (11, .b (decide (97 ≤ c.toNat ∧ c.toNat ≤ 122)))] ?_ rfl (fun h2 => AX.skip ?_) (fun h2 => AX.reg ?_)
    · by_cases h : (97 : Int) ≤ c.toNat <;> simp [y22.r4, h]
      all_goals omega
    · simp at h2 ⊢; simp [ye7, h2]
    · simp only [decide_eq_false_iff_not] at h1 h2
      simp [y22.r5, ye7, h1, h2]
  refine AX.pcond rfl (fun hb => AX.exit ?_) (fun hb => AX.skip ?_)
  · simp
    refine AX.seq (AX.seq (AX.reg ?_))
    simp [y22.r7]
    refine AX.ret ?_
    simp [clsN, hd, hb]
  · simp
    refine AX.exit ?_
    simp
    refine AX.sr ?_
    simp [y22.r8]
    refine AX.ret ?_
    simp [clsN, hd, hb]
theorem cls1 (c : UInt8) : (clsN c = 1) = (yaw c = true) := by
  unfold clsN; by_cases h : yaw c = true
  · simp [h]
  · by_cases h2 : ye7 c = true <;> simp [h, h2]
theorem yn2 (c : UInt8) (h : ye7 c = true) : yaw c = false := by
  simp [ye7, yaw] at *; omega
theorem cls2 (c : UInt8) : (clsN c = 2) = (ye7 c = true) := by
  unfold clsN; by_cases h : yaw c = true
  · have : ¬ ye7 c = true := fun h2 => by rw [yn2 c h2] at h; cases h
    simp [h, this]
  · by_cases h2 : ye7 c = true <;> simp [h, h2]
theorem cls0 (c : UInt8) : (clsN c < 1) = (inB true c = false) := by
  unfold clsN inB; by_cases h : yaw c = true
  · simp [h]
  · by_cases h2 : ye7 c = true <;> simp [h, h2]
theorem ygy (s : Str) (h : s.all yaw = true) (acc : Nat) : Go.Lib.decFrom acc s = some (s.foldl (fun n c => 10 * n + (c.toNat - 48)) acc) := by
  induction s generalizing acc with
  | nil => rfl
  | cons c s ih =>
    simp only [List.all_cons, Bool.and_eq_true] at h
    have hd := of_decide_eq_true h.1
    simp only [Go.Lib.decFrom, Go.Lib.digitVal, if_pos hd, List.foldl_cons]
    rw [ih h.2, Nat.mul_comm]
theorem ync (s : Str) (h : s.all yaw = true) (hne : s ≠ []) : Go.Lib.atoi s = some (ybh s : Int) := by
  cases s with
  | nil => exact absurd rfl hne
  | cons c s =>
    have hd := h
    simp only [List.all_cons, Bool.and_eq_true] at hd
    have hd := of_decide_eq_true hd.1
    have e1 : (c == 45) = false := by
      cases hh : c == 45 with
      | false => rfl
      | true => have := eq_of_beq hh; subst this; simp at hd
    have e2 : (c == 43) = false := by
      cases hh : c == 43 with
      | false => rfl
      | true => have := eq_of_beq hh; subst this; simp at hd
    simp only [Go.Lib.atoi, e1, e2, Go.Lib.decNat]
    rw [show (c :: s).isEmpty = false from rfl, ygy _ h]
    rfl
theorem valD_big (s : Str) (h : s.all yaw = true) : ∀ n k, 10 ^ k ≤ n → 10 ^ (k + s.length) ≤ s.foldl (fun n c => 10 * n + (c.toNat - 48)) n := by
  induction s with
  | nil => intro n k h; simpa using h
  | cons c s ih =>
    intro n k hk
    simp only [List.all_cons, Bool.and_eq_true] at h
    simp only [List.foldl_cons, List.length_cons]
    have := ih h.2 (10 * n + (c.toNat - 48)) (k + 1) (by rw [Nat.pow_succ]; omega)
    rwa [show k + (s.length + 1) = k + 1 + s.length by omega]
theorem yl2 (s : Str) (h : s.all yaw = true) (h0 : s[0]? ≠ some 48) (hl : 9 < s.length) : 268435456 < ybh s := by
  cases s with
  | nil => simp at hl
  | cons c s =>
    simp at h0 hl
    have hc := h
    simp only [List.all_cons, Bool.and_eq_true] at hc
    have hd := of_decide_eq_true hc.1
    have hne : c.toNat ≠ 48 := fun hh => h0 (UInt8.toNat_inj.1 (by rw [hh]; rfl))
    have h1 := valD_big s hc.2 (10 * 0 + (c.toNat - 48)) 0 (by simp; omega)
    have h2 : 10 ^ 9 ≤ 10 ^ (0 + s.length) := Nat.pow_le_pow_right (by omega) (by omega)
    unfold ybh; simp only [List.foldl_cons]; omega
def DReadInv (s : Str) (H : Hp) (m : Nat) (F : Fr) (H' : Hp) : Prop :=
  ∃ i, i ≤ s.length ∧ m = s.length - i ∧ (s.take i).all yaw = true ∧ H' = H ∧ F = [(0, .s s), (10, .i .i64 s.length), (11, .i .i64 i)]
theorem DRead_ok (s : Str) (hs : s.length ≤ 9223372036854775807) (H : Hp) : AC Tryz.prog y9t [.s s] H (fun v H' => v = .tup [.i .i64 (y5m s).1, .i .i64 (y5m s).2] ∧ H' = H) := by
  refine AC.code y1f.at y1f.ok ?_
  simp only [y1f]
  refine AX.sr ?_
  simp [y1f.r0]
  refine AX.seq (AX.seq (AX.reg ?_))
  simp [y1f.r1]
  refine AX.pcond rfl (fun hb => ?_) (fun hb => AX.skip ?_)
  · simp at hb
    refine AX.sr ?_
    simp [y1f.r2]
    refine AX.ret ?_
    simp [y5m, hb]
  simp at hb
  simp
  refine AX.seq (AX.seq (AX.reg ?_))
  simp [y1f.r3]
  refine AX.pblock (AX.loop (DReadInv s H) s.length ⟨_, _, .refl _ _, 0, by omega, by omega, by simp, rfl, rfl⟩ ?_)
  rintro m F H' ⟨i, hi, rfl, hx, rfl, rfl⟩
  simp only [y1f.l0]
  refine AX.sr ?_
  simp [y1f.r4]
  refine AX.seq (AX.pcond rfl (fun hc => AX.skip ?_) (fun hc => AX.exit ?_))
  · simp at hc
    simp
    refine AX.seq (AX.pblock (AX.seq (AX.reg ?_)))
    simp [y1f.r5]
    refine AX.sr ?_
    simp [y1f.r6, hc]
    refine AC.fix (yd5 _ _) ?_
    simp [cls1]
    refine AX.pcond rfl (fun hd => ?_) (fun hd => AX.skip ?_)
    · simp at hd
      refine AX.sr ?_
      simp [y1f.r7]
      refine AX.ret ?_
      have : s.all yaw = false := by
        rw [List.all_eq_false]; exact ⟨_, List.getElem_mem hc, by simp [hd]⟩
      simp [y5m, hb, this]
    simp at hd
    simp
    refine AX.reg ?_
    simp [y1f.r8, y2j hc hs]
    refine ⟨s.length - (i + 1), by omega, _, _, .refl _ _, i + 1, by omega, rfl, ?_, rfl, by simp⟩
    rw [List.take_add_one, List.getElem?_eq_getElem hc, List.all_append, hx]
    simp [hd]
  simp at hc
  have hall : s.all yaw = true := by rwa [List.take_of_length_le (by omega)] at hx
  have hp : 0 < s.length := List.length_pos_iff.2 hb
  simp
  refine AX.seq (AX.pblock (AX.test (decide (s[0]? = some 48 ∧ 1 < s.length)) [(0, .s s), (20, .b (decide (s[0]? = some 48 ∧ 1 < s.length)))] ?_ rfl (fun hz => AX.seq (AX.reg ?_)) (fun hz => ?_)))
  · have e : ((s[0].toNat : Int) = 48) = (s[0] = 48) := by
      refine propext ⟨fun h => UInt8.toNat_inj.1 (by have : s[0].toNat = 48 := by omega
                                                     rw [this]; rfl), fun h => by rw [h]; rfl⟩
    by_cases h : s[0] = 48 <;> simp [y1f.r9, hp, e, h]
  · simp [y1f.r10]
    refine AX.ret ?_
    simp only [decide_eq_true_eq] at hz
    have : y5m s = (0, 3) := by unfold y5m; rw [if_neg hb, if_neg (by simp [hall]), if_pos hz]
    simp [this]
  simp only [decide_eq_false_iff_not] at hz
  have hr : y5m s = if 268435456 < ybh s then (0, 2) else (ybh s, 0) := by unfold y5m; rw [if_neg hb, if_neg (by simp [hall]), if_neg hz]
  simp
  refine AX.sr ?_
  simp [y1f.r11]
  refine AX.pcond rfl (fun hl => ?_) (fun hl => AX.skip ?_)
  · simp at hl
    refine AX.sr ?_
    simp [y1f.r12]
    refine AX.ret ?_
    rw [hr, if_pos (yl2 s hall (fun h => hz ⟨h, by omega⟩) (by omega))]; simp
  simp at hl
  simp
  refine AX.sr ?_
  simp [y1f.r13]
  refine AC.fix (Atoi_ok s _ (by omega) (ync s hall hb) _) ?_
  simp
  refine AX.seq (AX.seq (AX.reg ?_))
  simp [y1f.r14]
  refine AX.pcond rfl (fun hv => ?_) (fun hv => AX.skip ?_)
  · simp at hv
    refine AX.sr ?_
    simp [y1f.r15]
    refine AX.ret ?_
    rw [hr, if_pos (by omega)]; simp
  simp at hv
  simp
  refine AX.sr ?_
  simp [y1f.r16]
  refine AX.ret ?_
  rw [hr, if_neg (by omega)]; simp
theorem ydl (s : Str) (hs : s.length ≤ 9223372036854775807) (H : Hp) : AC Tryz.prog y6x [.s s] H (fun v H' => v = .tup [.i .i64 (y5m s).1, .b (decide ((y5m s).2 = 0))] ∧ H' = H) := by
  refine AC.code y3c.at y3c.ok ?_
  simp only [y3c]
  refine AX.sr ?_
  simp [y3c.r0]
  refine AX.sr ?_
  simp [y3c.r1]
  refine AC.fix (DRead_ok s hs _) ?_
  simp
  refine AX.sr ?_
  simp [y3c.r2]
  refine AX.ret ?_
  simp
end Go.Proofs.YtjajpilacdfnbaaGreatDoor
namespace Go.Proofs.YtjajpilacdfnbaaGreatDoor
open Am C
set_option linter.unusedSimpArgs false
set_option linter.unusedVariables false
def ynz (s : Str) (H : Hp) (m : Nat) (F : Fr) (H' : Hp) : Prop :=
  ∃ i, i ≤ s.length ∧ m = s.length - i ∧ (s.take i).all (inB true) = true ∧ H' = H ∧ F = [(0, .s s), (4, .i .i64 1), (24, .i .i64 s.length), (25, .i .i64 i)]
theorem dig10 (c : UInt8) : List.contains [48, 49, 50, 51, 52, 53, 54, 55, 56, 57] c = yaw c := by
  rw [Bool.eq_iff_iff]
  constructor
  · intro h
    have := List.mem_of_elem_eq_true h
    simp at this
    rcases this with h | h | h | h | h | h | h | h | h | h <;> (subst h; rfl)
  · intro h
    have := of_decide_eq_true h
    obtain ⟨k, hk, rfl⟩ : ∃ k : Nat, k < 10 ∧ c = UInt8.ofNat (48 + k) := ⟨c.toNat - 48, by omega, UInt8.toNat_inj.1 (by rw [UInt8.toNat_ofNat']; omega)⟩
    rcases (by omega : k = 0 ∨ k = 1 ∨ k = 2 ∨ k = 3 ∨ k = 4 ∨ k = 5 ∨ k = 6 ∨ k = 7 ∨ k = 8 ∨ k = 9) with h | h | h | h | h | h | h | h | h | h <;> (subst h; rfl)
theorem y8h {α : Type} {p : α → Bool} {l : List α} : l.dropWhile p = [] ↔ l.all p = true := by
  induction l with
  | nil => simp
  | cons a l ih =>
    by_cases h : p a = true
    · simp only [List.dropWhile_cons, h, if_true, List.all_cons, Bool.true_and]; exact ih
    · simp [h]
theorem ydx (s : Str) (hs : s.length ≤ 9223372036854775807) (H : Hp) : AC Tryz.prog y6y [.s s] H (fun v H' => v = .tup [.s (y3a s).1, .s (y3a s).2] ∧ H' = H) := by
  refine AC.code y1l.at y1l.ok ?_
  simp only [y1l]
  refine AX.sr ?_
  simp [y1l.r0]
  refine AX.seq (AX.seq (AX.reg ?_))
  simp [y1l.r1]
  refine AX.pcond rfl (fun hb => ?_) (fun hb => AX.skip ?_)
  · simp at hb; subst hb
    refine AX.sr ?_
    simp [y1l.r2]
    refine AX.ret ?_
    simp [y3a]
  simp at hb
  have hp : 0 < s.length := List.length_pos_iff.2 hb
  have hw : y6v s = ye7 s[0] := by simp [y6v, hp]
  simp
  refine AX.sr ?_
  simp [y1l.r3]
  refine AX.seq (AX.seq (AX.reg ?_))
  simp [y1l.r4, hp]
  refine AC.fix (yd5 _ _) ?_
  simp [cls2]
  refine AX.pcond rfl (fun hd => ?_) (fun hd => AX.skip ?_)
  · simp at hd
    have e : inB (y6v s) = fun c => List.contains [48, 49, 50, 51, 52, 53, 54, 55, 56, 57] c := by
      funext c; rw [dig10, hw, hd]; simp [inB]
    refine AX.sr ?_
    simp [y1l.r5]
    refine AC.fix (yi3 s [48, 49, 50, 51, 52, 53, 54, 55, 56, 57] (by decide) (by decide) _) ?_
    rw [← e]
    have hl := congrArg List.length (y8c s)
    rw [List.length_append] at hl
    have hr : s.dropWhile (inB (y6v s)) = (y3a s).2 := rfl
    rw [hr]
    have e1 : Go.IntKind.i64.wrap ((s.length : Int) - ((y3a s).2.length : Int)) = ((y3a s).1.length : Nat) := by rw [y3e (by omega) (by omega)]; omega
    have e2 : s.take (y3a s).1.length = (y3a s).1 := by
      conv => lhs; arg 2; rw [← y8c s]
      simp
    simp
    refine AX.sr ?_
    simp [y1l.r6, e1, e2, show (y3a s).1.length ≤ s.length by omega]
    refine AX.ret ?_
    simp
  simp at hd
  have hw' : y6v s = true := by rw [hw, hd]
  simp
  refine AX.seq (AX.seq (AX.reg ?_))
  simp [y1l.r7]
  refine AX.pblock (AX.loop (ynz s H) s.length ⟨_, _, .refl _ _, 0, by omega, by omega, by simp, rfl, rfl⟩ ?_)
  rintro m F H' ⟨i, hi, rfl, hx, rfl, rfl⟩
  simp only [y1l.l0]
  refine AX.sr ?_
  simp [y1l.r8]
  refine AX.seq (AX.pcond rfl (fun hc => AX.skip ?_) (fun hc => AX.exit ?_))
  · simp at hc
    simp
    refine AX.seq (AX.pblock (AX.seq (AX.reg ?_)))
    simp [y1l.r9]
    refine AX.sr ?_
    simp [y1l.r10, hc]
    refine AC.fix (yd5 _ _) ?_
    simp [cls0]
    refine AX.pcond rfl (fun hd => ?_) (fun hd => AX.skip ?_)
    · simp at hd
      have := y90 (p := inB true) hx hi fun x hx => by
        obtain ⟨h1, h2⟩ := List.getElem?_eq_some_iff.1 hx
        rw [← h2]; exact hd
      refine AX.seq (AX.drw ?_)
      simp [y1l.r11, hi]
      refine AX.ret ?_
      simp [y3a, hw', this]
    simp at hd
    simp
    refine AX.reg ?_
    simp [y1l.r12, y2j hc hs]
    refine ⟨s.length - (i + 1), by omega, _, _, .refl _ _, i + 1, by omega, rfl, ?_, rfl, by simp⟩
    rw [List.take_add_one, List.getElem?_eq_getElem hc, List.all_append, hx]
    simp [hd]
  simp at hc
  have := y90 (p := inB true) hx hi fun x hx => by
    obtain ⟨h1, h2⟩ := List.getElem?_eq_some_iff.1 hx
    omega
  rw [List.take_of_length_le hc, List.drop_of_length_le hc] at this
  simp
  refine AX.sr ?_
  simp [y1l.r13]
  refine AX.ret ?_
  simp [y3a, hw', this]
theorem yc5 (s : Str) (hs : s.length ≤ 9223372036854775807) (H : Hp) : AC Tryz.prog y6p [.s s] H (fun v H' => v = .b (y5o s) ∧ H' = H) := by
  refine AC.code y2t.at y2t.ok ?_
  simp only [y2t]
  refine AX.sr ?_
  simp [y2t.r0]
  refine AX.sr ?_
  simp [y2t.r1]
  refine AC.fix (ydx s hs _) ?_
  simp
  have h1 : (y3a s).2 = [] ↔ s.all (inB (y6v s)) = true := by
    exact y8h
  have h2 : (y3a s).2 = [] → (y3a s).1 = s := fun h => by have := y8c s; rwa [h, List.append_nil] at this
  generalize (y3a s).1 = hd at h1 h2 ⊢
  generalize (y3a s).2 = rs at h1 h2 ⊢
  refine AX.stp [(2, .b (y5o s))] ?_ ?_
  · by_cases a2 : rs = []
    · have a0 := h2 a2
      subst a0
      by_cases a1 : hd = []
      · subst a1; simp [y2t.r2, y5o, y6v]
      have hp : 0 < hd.length := List.length_pos_iff.2 a1
      have e : hd.isEmpty = false := by simpa using a1
      by_cases a3 : hd.length ≤ 16
      · simp [y2t.r2, a1, a2, a3, e, hp]
        refine AC.fix (yd5 _ _) ?_
        have hw : y6v hd = ye7 hd[0] := by simp [y6v, hp]
        simp [cls2, y5o, a3, hw]
        intro hl
        rw [hw, hl] at h1
        simpa using (h1.1 a2)
      · simp [y2t.r2, a1, a2, a3, e, y5o]
    · have e : rs.isEmpty = false := by simpa using a2
      have hn : y5o s = false := by
        unfold y5o
        cases hw : y6v s with
        | false => simp
        | true =>
          rw [hw] at h1
          have : s.all (inB true) = false := by
            cases hh : s.all (inB true) with
            | false => rfl
            | true => exact absurd (h1.2 hh) a2
          simp [this]
      by_cases a1 : hd = []
      · subst a1; simp [y2t.r2, hn]
      · have e2 : hd.isEmpty = false := by simpa using a1
        simp [y2t.r2, a1, a2, e, e2, hn]
  refine AX.ret ?_
  simp
end Go.Proofs.YtjajpilacdfnbaaGreatDoor
namespace Go.Proofs.YtjajpilacdfnbaaGreatDoor
open Am C
set_option linter.unusedSimpArgs false
set_option linter.unusedVariables false
def yeb (c : Int) : Bool := decide (-1 ≤ c ∧ c ≤ 268435456)
theorem yak (d : Nd) (H : Hp) : AC Tryz.prog y56 [nv d] H (fun v H' => v = .b (yeb d.cell) ∧ H' = H) := by
  refine AC.code y2g.at y2g.ok ?_
  simp only [y2g]
  refine AX.sr ?_
  simp [y2g.r0, nv, Nd.cs]
  refine AX.sr ?_
  by_cases h : (-1 : Int) ≤ d.cell <;> simp [y2g.r1, h]
  all_goals
    refine AX.ret ?_
    simp [yeb, h]
def y5k (d : Nd) : Bool :=
  if d.kind = 5 then decide (d.fn = []) && decide (d.copy = 0) && y5o d.name && decide (d.n = 0) && yeb d.cell
  else y5o d.fn && y69 d.copy &&
    (if d.kind = 6 then y5o d.name && decide (d.n = 0) && yeb d.cell
    else if d.kind = 1 then y5o d.name && decide (d.n = 0) && decide (d.cell = -1)
    else if d.kind = 7 then decide (1 ≤ d.n ∧ d.n ≤ 268435456) && decide (d.name = []) && yeb d.cell
    else if d.kind = 4 then decide (d.name = []) && decide (d.n = 0) && decide (d.cell = -1)
    else if d.kind = 3 then decide (1 ≤ d.n ∧ d.n ≤ 268435456) && decide (d.name = []) && decide (d.cell = -1)
    else if d.kind = 2 then decide (0 ≤ d.n ∧ d.n ≤ 268435456) && decide (d.name = []) && decide (d.cell = -1)
    else false)
theorem ylg (d : Nd) : y5k d = y6b d := by
  rw [Bool.eq_iff_iff, y7m]
  obtain ⟨k, fn, cp, nm, n, cl⟩ := d
  by_cases hk : 1 ≤ k ∧ k ≤ 7
  · have hcl : ∀ c, yeb c = true ↔ c = -1 ∨ y69 c = true := fun c => by simp [yeb, y69]; omega
    rcases (by omega : k = 1 ∨ k = 2 ∨ k = 3 ∨ k = 4 ∨ k = 5 ∨ k = 6 ∨ k = 7) with rfl | rfl | rfl | rfl | rfl | rfl | rfl
    all_goals
      constructor
      · intro h
        simp [y5k, yeb, y69] at h
        constructor <;> simp [y8m, ye4, y69, yeb, h] <;> omega
      · intro ⟨a1, a2, a3, a4, a5, a6, a7, a8⟩
        simp [y8m, ye4, y69] at a3 a4 a5 a6 a7 a8
        simp [y5k, a6, a7, a8, yeb, y69]
        try omega
  · constructor
    · intro h
      have h1 : k ≠ 1 ∧ k ≠ 2 ∧ k ≠ 3 ∧ k ≠ 4 ∧ k ≠ 5 ∧ k ≠ 6 ∧ k ≠ 7 := by omega
      simp [y5k, h1] at h
    · intro h
      exact absurd ⟨h.k1, h.k7⟩ hk
theorem right_ok (d : Nd) (h1 : d.fn.length ≤ 9223372036854775807) (h2 : d.name.length ≤ 9223372036854775807) (H : Hp) : AC Tryz.prog y7h [nv d] H (fun v H' => v = .b (y6b d) ∧ H' = H) := by
  rw [← ylg]
  obtain ⟨k, fn, cp, nm, n, cl⟩ := d
  refine AC.codeP y4.at y4.ok (ymk _) fun hlt => ?_
  simp only [y4]
  refine AX.sr ?_
  simp [y4.r0, nv, Nd.cs]
  refine AX.sr ?_
  simp [y4.r1]
  refine AX.cut (fun F X => H.Ext X ∧ X.get H.next = some (.cells [.i .i64 0, .s [], .i .i64 0, .s nm, .i .i64 n, .i .i64 cl] 6) ∧ F = [(1, .fp [.i .i64 k, .s fn, .i .i64 cp, .s nm, .i .i64 n, .i .i64 cl] 0), (3, .p (some (H.next, 0, 6)))]) ?_ ?_
  · refine AX.reg ?_
    simp [y4.r2]
    exact ⟨_, _, .refl _ _, (Hp.Ext.add hlt _).upd hlt (Nat.le_refl _) _, by simp, rfl⟩
  rintro F X ⟨hx, hg, rfl⟩
  refine AX.seq (AX.test (decide (k ≠ 5) && (!y5o fn || !y69 cp)) [(1, .fp [.i .i64 k, .s fn, .i .i64 cp, .s nm, .i .i64 n, .i .i64 cl] 0), (3, .p (some (H.next, 0, 6))), (27, .b (decide (k ≠ 5) && (!y5o fn || !y69 cp)))] ?_ rfl (fun hz => AX.seq (AX.reg ?_)) (fun hz => AX.skip ?_))
  · by_cases a1 : k = 5
    · simp [y4.r3, a1]
    · simp [y4.r3, a1]
      refine AC.fix (yc5 _ h1 _) ?_
      by_cases a2 : y5o fn = true
      · by_cases a3 : cp < 0
        · simp [a1, a2, a3, y69, show ¬ 0 ≤ cp by omega]
        · simp [a1, a2, a3, y69, show 0 ≤ cp by omega]
          by_cases a4 : 268435456 < cp <;> simp [a4] <;> omega
      · simp [a1, a2]
  · simp [y4.r4]
    refine AX.ret ?_
    simp only [Bool.and_eq_true, decide_eq_true_eq, Bool.or_eq_true, Bool.not_eq_true'] at hz
    have : y5k ⟨k, fn, cp, nm, n, cl⟩ = false := by
      unfold y5k; simp only [if_neg hz.1]
      rcases hz.2 with h | h <;> simp [h]
    simp [this]
    exact ⟨hx, .refl _⟩
  simp
  refine AX.sr ?_
  simp [y4.r5]
  refine AX.seq (AX.seq (AX.reg ?_))
  simp [y4.r6]
  refine AX.pblock (AX.seq (AX.pblock (AX.seq (AX.pblock (AX.seq (AX.pblock (AX.seq (AX.pblock (AX.seq (AX.pblock (AX.seq (AX.pblock (AX.seq (AX.pblock (AX.seq (AX.seq (AX.seq (AX.reg ?_))))))))))))))))))
  have hz5 : k ≠ 5 → y5o fn = true ∧ y69 cp = true := fun h => by
    simp [h] at hz; exact hz
  have en : (n == 0) = decide (n = 0) := by by_cases h : n = 0 <;> simp [h]
  have ec : (cl == -1) = decide (cl = -1) := by by_cases h : cl = -1 <;> simp [h]
  by_cases h5 : k = 5
  · subst h5
    simp [y4.r7]
    refine AX.pcond (t := true) rfl (fun hb => AX.exit ?_) (fun hb => by simp at hb)
    simp
    refine AX.test (decide (fn ≠ []) || decide (cp ≠ 0)) ([(1, .fp [.i .i64 5, .s fn, .i .i64 cp, .s nm, .i .i64 n, .i .i64 cl] 0), (3, .p (some (H.next, 0, 6))), (51, .b (decide (fn ≠ []) || decide (cp ≠ 0)))]) ?_ rfl (fun hf => AX.seq (AX.reg ?_)) (fun hf => AX.skip ?_)
    · have e : fn.isEmpty = decide (fn = []) := by cases fn <;> simp
      by_cases c1 : fn = [] <;> simp [y4.r14, c1, e]
    · simp [y4.r15]
      refine AX.ret ?_
      have : y5k ⟨5, fn, cp, nm, n, cl⟩ = false := by
        unfold y5k; simp only [if_true]
        simp at hf
        rcases hf with h | h <;> simp [h]
      simp [this]
      exact ⟨hx, .refl _⟩
    have hf' : fn = [] ∧ cp = 0 := by simpa using hf
    simp
    refine AX.seq (AX.seq (AX.reg ?_))
    simp [y4.r16]
    refine AC.fix (yc5 _ h2 _) ?_
    by_cases b1 : y5o nm = true
    case neg =>
      simp [b1]
      refine AX.ret ?_
      simp [y5k, b1]
      exact ⟨hx, .refl _⟩
    by_cases b2 : n = 0
    case neg =>
      simp [b1, hg, y5c, y8w, en, ec, b2]
      refine AX.ret ?_
      simp [y5k, b2]
      exact ⟨hx, .refl _⟩
    subst b2
    simp [b1, hg, y5c, y8w, en, ec]
    refine AC.fix (yak ⟨5, fn, cp, nm, 0, cl⟩ _) ?_
    simp
    refine AX.ret ?_
    simp [y5k, b1, hf']
    exact ⟨hx, .refl _⟩
  by_cases h6 : k = 6
  · subst h6
    have hf := hz5 (by omega)
    simp [y4.r7]
    refine AX.pcond (t := false) rfl (fun hb => by simp at hb) (fun hb => AX.skip ?_)
    simp
    refine AX.seq (AX.seq (AX.reg ?_))
    simp [y4.r8]
    refine AX.pcond (t := true) rfl (fun hb => AX.exit ?_) (fun hb => by simp at hb)
    simp
    refine AX.seq (AX.seq (AX.reg ?_))
    simp [y4.r16]
    refine AC.fix (yc5 _ h2 _) ?_
    by_cases b1 : y5o nm = true
    case neg =>
      simp [b1]
      refine AX.ret ?_
      simp [y5k, b1]
      exact ⟨hx, .refl _⟩
    by_cases b2 : n = 0
    case neg =>
      simp [b1, hg, y5c, y8w, en, ec, b2]
      refine AX.ret ?_
      simp [y5k, b2]
      exact ⟨hx, .refl _⟩
    subst b2
    simp [b1, hg, y5c, y8w, en, ec]
    refine AC.fix (yak ⟨6, fn, cp, nm, 0, cl⟩ _) ?_
    simp
    refine AX.ret ?_
    simp [y5k, b1, hf]
    exact ⟨hx, .refl _⟩
  by_cases h1 : k = 1
  · subst h1
    have hf := hz5 (by omega)
    simp [y4.r7]
    refine AX.pcond (t := false) rfl (fun hb => by simp at hb) (fun hb => AX.skip ?_)
    simp
    refine AX.seq (AX.seq (AX.reg ?_))
    simp [y4.r8]
    refine AX.pcond (t := false) rfl (fun hb => by simp at hb) (fun hb => AX.skip ?_)
    simp
    refine AX.seq (AX.seq (AX.reg ?_))
    simp [y4.r9]
    refine AX.pcond (t := true) rfl (fun hb => AX.exit ?_) (fun hb => by simp at hb)
    simp
    refine AX.seq (AX.seq (AX.reg ?_))
    simp [y4.r17]
    refine AC.fix (yc5 _ h2 _) ?_
    by_cases b1 : y5o nm = true
    case neg =>
      simp [b1]
      refine AX.ret ?_
      simp [y5k, b1]
      exact ⟨hx, .refl _⟩
    by_cases b2 : n = 0 <;> by_cases b3 : cl = -1 <;> simp [b1, hg, y5c, y8w, en, ec, b2, b3]
    all_goals
      refine AX.ret ?_
      simp [y5k, b1, b2, b3, hf]
      exact ⟨hx, .refl _⟩
  by_cases h7 : k = 7
  · subst h7
    have hf := hz5 (by omega)
    simp [y4.r7]
    refine AX.pcond (t := false) rfl (fun hb => by simp at hb) (fun hb => AX.skip ?_)
    simp
    refine AX.seq (AX.seq (AX.reg ?_))
    simp [y4.r8]
    refine AX.pcond (t := false) rfl (fun hb => by simp at hb) (fun hb => AX.skip ?_)
    simp
    refine AX.seq (AX.seq (AX.reg ?_))
    simp [y4.r9]
    refine AX.pcond (t := false) rfl (fun hb => by simp at hb) (fun hb => AX.skip ?_)
    simp
    refine AX.seq (AX.seq (AX.reg ?_))
    simp [y4.r10]
    refine AX.pcond (t := true) rfl (fun hb => AX.exit ?_) (fun hb => by simp at hb)
    simp
    refine AX.seq (AX.seq (AX.reg ?_))
    by_cases b1 : 1 ≤ n
    case neg =>
      simp [y4.r18, b1]
      refine AX.ret ?_
      simp [y5k, b1]
      exact ⟨hx, .refl _⟩
    by_cases b2 : n ≤ 268435456
    case neg =>
      simp [y4.r18, b1, b2]
      refine AX.ret ?_
      simp [y5k, b1, b2]
      exact ⟨hx, .refl _⟩
    by_cases b3 : nm = []
    case neg =>
      simp [y4.r18, b1, b2, hg, y5c, y8w, en, ec, b3, show nm.isEmpty = false by simpa using b3]
      refine AX.ret ?_
      simp [y5k, b1, b2, b3]
      exact ⟨hx, .refl _⟩
    subst b3
    simp [y4.r18, b1, b2, hg, y5c, y8w, en, ec]
    refine AC.fix (yak ⟨7, fn, cp, [], n, cl⟩ _) ?_
    simp
    refine AX.ret ?_
    simp [y5k, b1, b2, hf]
    exact ⟨hx, .refl _⟩
  by_cases h4 : k = 4
  · subst h4
    have hf := hz5 (by omega)
    simp [y4.r7]
    refine AX.pcond (t := false) rfl (fun hb => by simp at hb) (fun hb => AX.skip ?_)
    simp
    refine AX.seq (AX.seq (AX.reg ?_))
    simp [y4.r8]
    refine AX.pcond (t := false) rfl (fun hb => by simp at hb) (fun hb => AX.skip ?_)
    simp
    refine AX.seq (AX.seq (AX.reg ?_))
    simp [y4.r9]
    refine AX.pcond (t := false) rfl (fun hb => by simp at hb) (fun hb => AX.skip ?_)
    simp
    refine AX.seq (AX.seq (AX.reg ?_))
    simp [y4.r10]
    refine AX.pcond (t := false) rfl (fun hb => by simp at hb) (fun hb => AX.skip ?_)
    simp
    refine AX.seq (AX.seq (AX.reg ?_))
    simp [y4.r11]
    refine AX.pcond (t := true) rfl (fun hb => AX.exit ?_) (fun hb => by simp at hb)
    simp
    refine AX.seq (AX.seq (AX.reg ?_))
    have e : nm.isEmpty = decide (nm = []) := by cases nm <;> simp
    by_cases b1 : nm = [] <;> by_cases b2 : n = 0 <;> by_cases b3 : cl = -1 <;> simp [y4.r19, hg, y5c, y8w, en, ec, b1, b2, b3, e]
    all_goals
      refine AX.ret ?_
      simp [y5k, b1, b2, b3, hf]
      exact ⟨hx, .refl _⟩
  by_cases h3 : k = 3
  · subst h3
    have hf := hz5 (by omega)
    simp [y4.r7]
    refine AX.pcond (t := false) rfl (fun hb => by simp at hb) (fun hb => AX.skip ?_)
    simp
    refine AX.seq (AX.seq (AX.reg ?_))
    simp [y4.r8]
    refine AX.pcond (t := false) rfl (fun hb => by simp at hb) (fun hb => AX.skip ?_)
    simp
    refine AX.seq (AX.seq (AX.reg ?_))
    simp [y4.r9]
    refine AX.pcond (t := false) rfl (fun hb => by simp at hb) (fun hb => AX.skip ?_)
    simp
    refine AX.seq (AX.seq (AX.reg ?_))
    simp [y4.r10]
    refine AX.pcond (t := false) rfl (fun hb => by simp at hb) (fun hb => AX.skip ?_)
    simp
    refine AX.seq (AX.seq (AX.reg ?_))
    simp [y4.r11]
    refine AX.pcond (t := false) rfl (fun hb => by simp at hb) (fun hb => AX.skip ?_)
    simp
    refine AX.seq (AX.seq (AX.reg ?_))
    simp [y4.r12]
    refine AX.pcond (t := true) rfl (fun hb => AX.exit ?_) (fun hb => by simp at hb)
    simp
    refine AX.reg ?_
    simp [y4.r20]
    refine AX.seq (AX.seq (AX.reg ?_))
    have e : nm.isEmpty = decide (nm = []) := by cases nm <;> simp
    by_cases b1 : 1 ≤ n
    case neg =>
      simp [y4.r21, b1]
      refine AX.ret ?_
      simp [y5k, b1]
      exact ⟨hx, .refl _⟩
    by_cases b2 : n ≤ 268435456
    case neg =>
      simp [y4.r21, b1, b2]
      refine AX.ret ?_
      simp [y5k, b1, b2]
      exact ⟨hx, .refl _⟩
    by_cases b3 : nm = [] <;> by_cases b4 : cl = -1 <;> simp [y4.r21, b1, b2, hg, y5c, y8w, en, ec, b3, b4, e]
    all_goals
      refine AX.ret ?_
      simp [y5k, b1, b2, b3, b4, hf]
      exact ⟨hx, .refl _⟩
  by_cases h2 : k = 2
  · subst h2
    have hf := hz5 (by omega)
    simp [y4.r7]
    refine AX.pcond (t := false) rfl (fun hb => by simp at hb) (fun hb => AX.skip ?_)
    simp
    refine AX.seq (AX.seq (AX.reg ?_))
    simp [y4.r8]
    refine AX.pcond (t := false) rfl (fun hb => by simp at hb) (fun hb => AX.skip ?_)
    simp
    refine AX.seq (AX.seq (AX.reg ?_))
    simp [y4.r9]
    refine AX.pcond (t := false) rfl (fun hb => by simp at hb) (fun hb => AX.skip ?_)
    simp
    refine AX.seq (AX.seq (AX.reg ?_))
    simp [y4.r10]
    refine AX.pcond (t := false) rfl (fun hb => by simp at hb) (fun hb => AX.skip ?_)
    simp
    refine AX.seq (AX.seq (AX.reg ?_))
    simp [y4.r11]
    refine AX.pcond (t := false) rfl (fun hb => by simp at hb) (fun hb => AX.skip ?_)
    simp
    refine AX.seq (AX.seq (AX.reg ?_))
    simp [y4.r12]
    refine AX.pcond (t := false) rfl (fun hb => by simp at hb) (fun hb => AX.skip ?_)
    simp
    refine AX.sr ?_
    simp [y4.r13]
    refine AX.pcond (t := true) rfl (fun hb => AX.exit ?_) (fun hb => by simp at hb)
    simp
    refine AX.seq (AX.seq (AX.reg ?_))
    have e : nm.isEmpty = decide (nm = []) := by cases nm <;> simp
    by_cases b1 : 0 ≤ n
    case neg =>
      simp [y4.r21, b1]
      refine AX.ret ?_
      simp [y5k, b1]
      exact ⟨hx, .refl _⟩
    by_cases b2 : n ≤ 268435456
    case neg =>
      simp [y4.r21, b1, b2]
      refine AX.ret ?_
      simp [y5k, b1, b2]
      exact ⟨hx, .refl _⟩
    by_cases b3 : nm = [] <;> by_cases b4 : cl = -1 <;> simp [y4.r21, b1, b2, hg, y5c, y8w, en, ec, b3, b4, e]
    all_goals
      refine AX.ret ?_
      simp [y5k, b1, b2, b3, b4, hf]
      exact ⟨hx, .refl _⟩
  simp [y4.r7, h5]
  refine AX.pcond (t := false) rfl (fun hb => by simp at hb) (fun hb => AX.skip ?_)
  simp
  refine AX.seq (AX.seq (AX.reg ?_))
  simp [y4.r8, h6]
  refine AX.pcond (t := false) rfl (fun hb => by simp at hb) (fun hb => AX.skip ?_)
  simp
  refine AX.seq (AX.seq (AX.reg ?_))
  simp [y4.r9, h1]
  refine AX.pcond (t := false) rfl (fun hb => by simp at hb) (fun hb => AX.skip ?_)
  simp
  refine AX.seq (AX.seq (AX.reg ?_))
  simp [y4.r10, h7]
  refine AX.pcond (t := false) rfl (fun hb => by simp at hb) (fun hb => AX.skip ?_)
  simp
  refine AX.seq (AX.seq (AX.reg ?_))
  simp [y4.r11, h4]
  refine AX.pcond (t := false) rfl (fun hb => by simp at hb) (fun hb => AX.skip ?_)
  simp
  refine AX.seq (AX.seq (AX.reg ?_))
  simp [y4.r12, h3]
  refine AX.pcond (t := false) rfl (fun hb => by simp at hb) (fun hb => AX.skip ?_)
  simp
  refine AX.sr ?_
  simp [y4.r13, h2]
  refine AX.pcond (t := false) rfl (fun hb => by simp at hb) (fun hb => AX.skip ?_)
  simp
  refine AX.exit ?_
  simp
  refine AX.sr ?_
  simp [y4.r22]
  refine AX.ret ?_
  simp [y5k, h5, h6, h1, h7, h4, h3, h2]
  exact ⟨hx, .refl _⟩
end Go.Proofs.YtjajpilacdfnbaaGreatDoor
