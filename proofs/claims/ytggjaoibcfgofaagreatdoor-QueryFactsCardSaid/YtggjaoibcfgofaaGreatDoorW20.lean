/- Part 20 of the proof of the laws of the queries: Q17, QAl, QAl2, QBld, QDig, QDig2. -/
import Derived.Shelf.Strings.Builder1
import Derived.WalkKit
import Derived.BigCall
import Derived.Test.YtggjaoibcfgofaaGreatDoorW17
namespace Go.Proofs.YtggjaoibcfgofaaGreatDoor
open Am C
set_option linter.unusedSimpArgs false
set_option linter.unusedVariables false
abbrev Fact := Str × List Str
def fcs (f : Fact) : List V := [.s f.1, ss f.2]
def fsV (l : List Fact) : V := .fs (l.map fcs)
def ofS (l : List Fact) (node : Str) : List Str := ((l.find? fun f => decide (f.1 = node)).map (·.2)).getD []
def IdxInv (l : List Str) (x : Str) (H : Hp) (m : Nat) (F : Fr) (H' : Hp) : Prop :=
  ∃ i, i ≤ l.length ∧ m = l.length - i ∧ x ∉ l.take i ∧ H' = H ∧ F = [(0, ss l), (1, .s x), (7, .i .i64 l.length), (8, .i .i64 i)]
theorem Index_ok (l : List Str) (x : Str) (hl : l.length ≤ 9223372036854775807) (H : Hp) : AC Tryz.prog n_slices_Index_string_string [ss l, .s x] H (fun v H' => v = .i .i64 (numV l x) ∧ H' = H) := by
  refine AC.code slices_Index_string_string.at slices_Index_string_string.ok ?_
  simp only [slices_Index_string_string]
  refine AX.seq (AX.reg ?_)
  simp [slices_Index_string_string.r0]
  refine AX.seq (AX.seq (AX.reg ?_))
  simp [slices_Index_string_string.r1, ss]
  refine AX.pblock (AX.loop (IdxInv l x H) l.length ⟨_, _, .refl _ _, 0, by omega, by omega, by simp, rfl, rfl⟩ ?_)
  rintro m F H' ⟨i, hi, rfl, hx, rfl, rfl⟩
  simp only [slices_Index_string_string.l0]
  refine AX.seq (AX.reg ?_)
  simp [slices_Index_string_string.r2]
  refine AX.seq (AX.pcond rfl (fun hc => AX.skip ?_) (fun hc => AX.exit ?_))
  · simp at hc
    simp
    refine AX.seq (AX.pblock (AX.seq (AX.reg ?_)))
    simp [slices_Index_string_string.r3]
    refine AX.seq (AX.reg ?_)
    simp [slices_Index_string_string.r4, ss, hc]
    refine AX.pcond rfl (fun hd => ?_) (fun hd => AX.skip ?_)
    · simp at hd
      refine AX.seq (AX.reg ?_)
      simp [slices_Index_string_string.r5]
      refine AX.ret ?_
      simp
      exact (numV_at (by rw [List.getElem?_eq_getElem hc, hd]) hx).symm
    simp at hd
    simp
    refine AX.reg ?_
    simp [slices_Index_string_string.r6, succ_of_lt hc hl]
    refine ⟨l.length - (i + 1), by omega, _, _, .refl _ _, i + 1, by omega, rfl, ?_, rfl, by simp [ss]⟩
    rw [List.take_add_one, List.getElem?_eq_getElem hc]
    intro hm
    rcases List.mem_append.1 hm with hm | hm
    · exact hx hm
    · simp at hm; exact hd hm
  simp at hc
  rw [List.take_of_length_le hc] at hx
  have h1 := numV_neg.2 hx
  have h2 := numV_ge l x
  simp
  refine AX.seq (AX.reg ?_)
  simp [slices_Index_string_string.r7]
  refine AX.ret ?_
  simp; omega
theorem numV_in (l : List Str) (x : Str) : (0 ≤ numV l x) = (x ∈ l) := by
  have h2 := numV_ge l x
  refine propext ⟨fun h => Classical.byContradiction fun hc => by have := numV_neg.2 hc; omega, fun h => ?_⟩
  rcases Int.lt_or_le (numV l x) 0 with h3 | h3
  · exact absurd h (numV_neg.1 h3)
  · exact h3
theorem Contains_ok (l : List Str) (x : Str) (hl : l.length ≤ 9223372036854775807) (H : Hp) : AC Tryz.prog n_slices_Contains_string_string [ss l, .s x] H (fun v H' => v = .b (decide (x ∈ l)) ∧ H' = H) := by
  refine AC.code slices_Contains_string_string.at slices_Contains_string_string.ok ?_
  simp only [slices_Contains_string_string]
  refine AX.seq (AX.reg ?_)
  simp [slices_Contains_string_string.r0]
  refine AX.seq (AX.reg ?_)
  simp [slices_Contains_string_string.r1]
  refine AC.fix (Index_ok l x hl _) ?_
  simp [numV_in]
  refine AX.ret ?_
  simp
@[simp] theorem fcs_len (f : Fact) : (fcs f).length = 2 := rfl
@[simp] theorem fcs_take (f : Fact) : (fcs f).take 2 = fcs f := rfl
def idxP {α : Type} (p : α → Bool) : List α → Int
  | [] => -1
  | y :: r => if p y then 0 else if idxP p r < 0 then -1 else idxP p r + 1
theorem idxP_none {α : Type} {p : α → Bool} {l : List α} (h : l.find? p = none) : idxP p l = -1 := by
  induction l with
  | nil => rfl
  | cons y r ih =>
    simp only [List.find?_cons] at h
    cases hp : p y with
    | true => rw [hp] at h; cases h
    | false => rw [hp] at h; simp [idxP, hp, ih h]
theorem idxP_at {α : Type} {p : α → Bool} {l : List α} {i : Nat} {x : α} (h : l[i]? = some x) (hp : p x = true) (hn : (l.take i).find? p = none) : idxP p l = i := by
  induction l generalizing i with
  | nil => simp at h
  | cons y r ih =>
    cases i with
    | zero => simp at h; subst h; simp [idxP, hp]
    | succ i =>
      simp only [List.getElem?_cons_succ] at h
      simp only [List.take_succ_cons, List.find?_cons] at hn
      cases hy : p y with
      | true => rw [hy] at hn; cases hn
      | false =>
        rw [hy] at hn
        have := ih h hn
        simp only [idxP, hy, this]
        simp
theorem find_at {α : Type} {p : α → Bool} {l : List α} {x : α} (h : l.find? p = some x) : ∃ i : Nat, i < l.length ∧ l[i]? = some x ∧ idxP p l = i := by
  induction l with
  | nil => cases h
  | cons y r ih =>
    simp only [List.find?_cons] at h
    cases hp : p y with
    | true => rw [hp] at h; injection h with h; subst h; exact ⟨0, by simp, rfl, by simp [idxP, hp]⟩
    | false =>
      rw [hp] at h
      obtain ⟨i, h1, h2, h3⟩ := ih h
      exact ⟨i + 1, by simp; omega, by simpa using h2, by simp only [idxP, hp, h3]; simp⟩
theorem find1_ok (f : Fact) (id : Nat) (node : Str) (H : Hp) (hb : H.get id = some (.cells [.s node] 1)) : AC Tryz.prog n_least_find_1 [.agg (fcs f), .p (some (id, 0, 1))] H (fun v H' => v = .b (decide (f.1 = node)) ∧ H' = H) := by
  refine AC.code least_find_1.at least_find_1.ok ?_
  simp only [least_find_1]
  refine AX.seq (AX.reg ?_)
  simp [least_find_1.r0, fcs]
  refine AX.seq (AX.reg ?_)
  simp [least_find_1.r1, hb]
  refine AX.ret ?_
  by_cases h : f.1 = node
  · simp [h]
  · simp [h]
def IdxFInv (l : List Fact) (g : V) (p : Fact → Bool) (H : Hp) (m : Nat) (F : Fr) (H' : Hp) : Prop :=
  ∃ i, i ≤ l.length ∧ m = l.length - i ∧ (l.take i).find? p = none ∧ H' = H ∧ F = [(0, fsV l), (1, g), (7, .i .i64 l.length), (8, .i .i64 i)]
theorem IndexFunc_ok (l : List Fact) (f : Go.FuncId) (caps : List V) (p : Fact → Bool) (hl : l.length ≤ 9223372036854775807) (H : Hp) (hf : ∀ x ∈ l, AC Tryz.prog f (.agg (fcs x) :: caps) H (fun v H' => v = .b (p x) ∧ H' = H)) :
    AC Tryz.prog n_slices_IndexFunc_api_Fact_api_Fact [fsV l, .fn f caps] H (fun v H' => v = .i .i64 (idxP p l) ∧ H' = H) := by
  refine AC.code slices_IndexFunc_api_Fact_api_Fact.at slices_IndexFunc_api_Fact_api_Fact.ok ?_
  simp only [slices_IndexFunc_api_Fact_api_Fact]
  refine AX.seq (AX.reg ?_)
  simp [slices_IndexFunc_api_Fact_api_Fact.r0]
  refine AX.seq (AX.seq (AX.reg ?_))
  simp [slices_IndexFunc_api_Fact_api_Fact.r1, fsV]
  refine AX.pblock (AX.loop (IdxFInv l (.fn f caps) p H) l.length ⟨_, _, .refl _ _, 0, by omega, by omega, by simp, rfl, rfl⟩ ?_)
  rintro m F H' ⟨i, hi, rfl, hx, rfl, rfl⟩
  simp only [slices_IndexFunc_api_Fact_api_Fact.l0]
  refine AX.seq (AX.reg ?_)
  simp [slices_IndexFunc_api_Fact_api_Fact.r2]
  refine AX.seq (AX.pcond rfl (fun hc => AX.skip ?_) (fun hc => AX.exit ?_))
  · simp at hc
    simp
    refine AX.seq (AX.pblock (AX.seq (AX.reg ?_)))
    simp [slices_IndexFunc_api_Fact_api_Fact.r3]
    refine AX.seq (AX.reg ?_)
    simp [slices_IndexFunc_api_Fact_api_Fact.r4, fsV, hc]
    refine AC.fix (hf _ (List.getElem_mem hc)) ?_
    simp
    refine AX.pcond rfl (fun hd => ?_) (fun hd => AX.skip ?_)
    · refine AX.seq (AX.reg ?_)
      simp [slices_IndexFunc_api_Fact_api_Fact.r5]
      refine AX.ret ?_
      simp
      exact (idxP_at (List.getElem?_eq_getElem hc) hd hx).symm
    simp
    refine AX.reg ?_
    simp [slices_IndexFunc_api_Fact_api_Fact.r6, succ_of_lt hc hl]
    refine ⟨l.length - (i + 1), by omega, _, _, .refl _ _, i + 1, by omega, rfl, ?_, rfl, by simp [fsV]⟩
    rw [List.take_add_one, List.getElem?_eq_getElem hc, List.find?_append, hx]
    simp [hd]
  simp at hc
  rw [List.take_of_length_le hc] at hx
  simp
  refine AX.seq (AX.reg ?_)
  simp [slices_IndexFunc_api_Fact_api_Fact.r7]
  refine AX.ret ?_
  simp [idxP_none hx]
theorem find_ok (l : List Fact) (node : Str) (hl : l.length ≤ 9223372036854775807) (H : Hp) : AC Tryz.prog n_least_find [fsV l, .s node] H (fun v H' => v = ss (ofS l node) ∧ H' = H) := by
  refine AC.codeP least_find.at least_find.ok (free_ss _) fun hlt => ?_
  simp only [least_find]
  refine AX.seq (AX.reg ?_)
  simp [least_find.r0]
  refine AX.seq (AX.reg ?_)
  simp [least_find.r1]
  refine AC.fix (IndexFunc_ok l _ _ (fun f => decide (f.1 = node)) hl _ fun x _ => find1_ok x _ node _ (by simp)) ?_
  simp
  refine AX.seq (AX.seq (AX.reg ?_))
  simp [least_find.r2]
  cases hf : l.find? (fun f => decide (f.1 = node)) with
  | none =>
    have e := idxP_none hf
    simp only [e]
    refine AX.pcond (t := true) rfl (fun _ => AX.seq (AX.reg ?_)) (fun h => by simp at h)
    simp [least_find.r3]
    refine AX.ret ?_
    simp [ofS, hf]
    exact ⟨.add hlt _, .sl0 _⟩
  | some x =>
    obtain ⟨i, h1, h2, h3⟩ := find_at hf
    simp only [h3]
    refine AX.pcond (t := false) (by simp) (fun h => by simp at h) (fun _ => AX.skip ?_)
    simp
    refine AX.seq (AX.reg ?_)
    simp [least_find.r4, fsV, h2, fcs]
    refine AX.ret ?_
    simp [ofS, hf]
    exact ⟨.add hlt _, .refl _⟩
theorem LOf_ok (l : List Fact) (node : Str) (hl : l.length ≤ 9223372036854775807) (hm : ∀ f ∈ l, f.2.length ≤ 1000000) (H : Hp) : AC Tryz.prog n_least_Of [fsV l, .s node] H (fun v H' => v = ss (ofS l node) ∧ H' = H) := by
  refine AC.code least_Of.at least_Of.ok ?_
  simp only [least_Of]
  refine AX.seq (AX.reg ?_)
  simp [least_Of.r0]
  refine AX.seq (AX.reg ?_)
  simp [least_Of.r1]
  refine AC.fix (find_ok l node hl _) ?_
  simp
  refine AC.fix (CloneS_ok _ ?_ _) ?_
  · unfold ofS
    cases hf : l.find? (fun f => decide (f.1 = node)) with
    | none => simp
    | some x => have := hm x (List.mem_of_find?_eq_some hf); simp; omega
  simp
  refine AX.ret ?_
  simp
end Go.Proofs.YtggjaoibcfgofaaGreatDoor
namespace Go.Proofs.YtggjaoibcfgofaaGreatDoor
open Am C
set_option linter.unusedSimpArgs false
set_option linter.unusedVariables false
def IdxGInv (l : List Str) (g : V) (p : Str → Bool) (H : Hp) (m : Nat) (F : Fr) (H' : Hp) : Prop :=
  ∃ i, i ≤ l.length ∧ m = l.length - i ∧ (l.take i).find? p = none ∧ H' = H ∧ F = [(0, ss l), (1, g), (7, .i .i64 l.length), (8, .i .i64 i)]
theorem IndexFuncS_ok (l : List Str) (f : Go.FuncId) (caps : List V) (p : Str → Bool) (hl : l.length ≤ 9223372036854775807) (H : Hp) (hf : ∀ x ∈ l, AC Tryz.prog f (.s x :: caps) H (fun v H' => v = .b (p x) ∧ H' = H)) :
    AC Tryz.prog n_slices_IndexFunc_string_string [ss l, .fn f caps] H (fun v H' => v = .i .i64 (idxP p l) ∧ H' = H) := by
  refine AC.code slices_IndexFunc_string_string.at slices_IndexFunc_string_string.ok ?_
  simp only [slices_IndexFunc_string_string]
  refine AX.seq (AX.reg ?_)
  simp [slices_IndexFunc_string_string.r0]
  refine AX.seq (AX.seq (AX.reg ?_))
  simp [slices_IndexFunc_string_string.r1, ss]
  refine AX.pblock (AX.loop (IdxGInv l (.fn f caps) p H) l.length ⟨_, _, .refl _ _, 0, by omega, by omega, by simp, rfl, rfl⟩ ?_)
  rintro m F H' ⟨i, hi, rfl, hx, rfl, rfl⟩
  simp only [slices_IndexFunc_string_string.l0]
  refine AX.seq (AX.reg ?_)
  simp [slices_IndexFunc_string_string.r2]
  refine AX.seq (AX.pcond rfl (fun hc => AX.skip ?_) (fun hc => AX.exit ?_))
  · simp at hc
    simp
    refine AX.seq (AX.pblock (AX.seq (AX.reg ?_)))
    simp [slices_IndexFunc_string_string.r3]
    refine AX.seq (AX.reg ?_)
    simp [slices_IndexFunc_string_string.r4, ss, hc]
    refine AC.fix (hf _ (List.getElem_mem hc)) ?_
    simp
    refine AX.pcond rfl (fun hd => ?_) (fun hd => AX.skip ?_)
    · refine AX.seq (AX.reg ?_)
      simp [slices_IndexFunc_string_string.r5]
      refine AX.ret ?_
      simp
      exact (idxP_at (List.getElem?_eq_getElem hc) hd hx).symm
    simp
    refine AX.reg ?_
    simp [slices_IndexFunc_string_string.r6, succ_of_lt hc hl]
    refine ⟨l.length - (i + 1), by omega, _, _, .refl _ _, i + 1, by omega, rfl, ?_, rfl, by simp [ss]⟩
    rw [List.take_add_one, List.getElem?_eq_getElem hc, List.find?_append, hx]
    simp [hd]
  simp at hc
  rw [List.take_of_length_le hc] at hx
  simp
  refine AX.seq (AX.reg ?_)
  simp [slices_IndexFunc_string_string.r7]
  refine AX.ret ?_
  simp [idxP_none hx]
theorem ContainsFunc_ok (l : List Str) (f : Go.FuncId) (caps : List V) (p : Str → Bool) (hl : l.length ≤ 9223372036854775807) (H : Hp) (hf : ∀ x ∈ l, AC Tryz.prog f (.s x :: caps) H (fun v H' => v = .b (p x) ∧ H' = H)) :
    AC Tryz.prog n_slices_ContainsFunc_string_string [ss l, .fn f caps] H (fun v H' => v = .b (l.any p) ∧ H' = H) := by
  refine AC.code slices_ContainsFunc_string_string.at slices_ContainsFunc_string_string.ok ?_
  simp only [slices_ContainsFunc_string_string]
  refine AX.seq (AX.reg ?_)
  simp [slices_ContainsFunc_string_string.r0]
  refine AX.seq (AX.reg ?_)
  simp [slices_ContainsFunc_string_string.r1]
  refine AC.fix (IndexFuncS_ok l f caps p hl _ hf) ?_
  simp
  refine AX.ret ?_
  have e : decide (0 ≤ idxP p l) = l.any p := by
    cases hf : l.find? p with
    | none =>
      rw [idxP_none hf]
      have : l.any p = false := by rw [List.any_eq_false]; intro x hx; exact List.find?_eq_none.1 hf x hx
      rw [this]; rfl
    | some x =>
      obtain ⟨i, h1, h2, h3⟩ := find_at hf
      rw [h3]
      have : l.any p = true := List.any_eq_true.2 ⟨x, List.mem_of_find?_eq_some hf, List.find?_some hf⟩
      rw [this]; simp
  simp [e]
theorem Alias1_ok (l : List Str) (x : Str) (id : Nat) (hl : l.length ≤ 9223372036854775807) (H : Hp) (hb : H.get id = some (.cells [ss l] 1)) : AC Tryz.prog n_query_Alias_1 [.s x, .p (some (id, 0, 1))] H (fun v H' => v = .b (decide (x ∈ l)) ∧ H' = H) := by
  refine AC.code query_Alias_1.at query_Alias_1.ok ?_
  simp only [query_Alias_1]
  refine AX.seq (AX.reg ?_)
  simp [query_Alias_1.r0]
  refine AX.seq (AX.reg ?_)
  simp [query_Alias_1.r1, hb]
  refine AC.fix (Contains_ok l x hl _) ?_
  simp
  refine AX.ret ?_
  simp
def aliasB (l : List Fact) (a b : Str) : Bool := (ofS l a).any fun x => decide (x ∈ ofS l b)
theorem ofS_len {l : List Fact} {node : Str} {n : Nat} (hm : ∀ f ∈ l, f.2.length ≤ n) : (ofS l node).length ≤ n := by
  unfold ofS
  cases hf : l.find? (fun f => decide (f.1 = node)) with
  | none => simp
  | some x => exact hm x (List.mem_of_find?_eq_some hf)
theorem Alias_ok (l : List Fact) (a b : Str) (hl : l.length ≤ 9223372036854775807) (hm : ∀ f ∈ l, f.2.length ≤ 1000000) (H : Hp) : AC Tryz.prog n_query_Alias [fsV l, .s a, .s b] H (fun v H' => v = .b (aliasB l a b) ∧ H' = H) := by
  have h1 := ofS_len (node := a) hm
  have h2 := ofS_len (node := b) hm
  refine AC.codeP query_Alias.at query_Alias.ok (free_b _) fun hlt => ?_
  simp only [query_Alias]
  refine AX.seq (AX.reg ?_)
  simp [query_Alias.r0]
  refine AX.seq (AX.reg ?_)
  simp [query_Alias.r1]
  refine AC.fix (LOf_ok l b hl hm _) ?_
  simp [ss]
  refine AX.seq (AX.reg ?_)
  simp [query_Alias.r2]
  refine AC.fix (LOf_ok l a hl hm _) ?_
  simp
  refine AC.fix (ContainsFunc_ok (ofS l a) _ _ (fun x => decide (x ∈ ofS l b)) (by omega) _ fun x _ => Alias1_ok (ofS l b) x _ (by omega) _ (by simp [ss])) ?_
  simp
  refine AX.ret ?_
  simp [aliasB]
  exact ⟨(Hp.Ext.add hlt _).upd hlt (Nat.le_refl _) _, .refl _⟩
end Go.Proofs.YtggjaoibcfgofaaGreatDoor
namespace Go.Proofs.YtggjaoibcfgofaaGreatDoor
open Am C
set_option linter.unusedSimpArgs false
set_option linter.unusedVariables false
theorem en1 (l : List Str) : ∀ e ∈ l.map (fun x => [V.s x]), e.length = 1 := ss_len l
theorem ec1 (l : List Str) : (l.map (fun x => [V.s x])).flatten.all isCell = true := by
  rw [List.all_eq_true]; intro v hv
  obtain ⟨e, he, hv⟩ := List.mem_flatten.1 hv
  obtain ⟨x, _, rfl⟩ := List.mem_map.1 he
  simp at hv; subst hv; rfl
end Go.Proofs.YtggjaoibcfgofaaGreatDoor
namespace Go.Proofs.YtggjaoibcfgofaaGreatDoor
open Go Go.RowKit Go.Shelf
set_option linter.unusedSimpArgs false
set_option linter.unusedVariables false
set_option maxHeartbeats 1000000 in
set_option maxRecDepth 100000 in
theorem bld_check (B b : Nat) (bs : List Value) (w : World) (h : Lib.IsBuilder 116 5 B b bs w) :
    Calls Tryz.prog 87 #[.pointer (some ⟨b, 0, none⟩)] w fun e w' => e = .returned (.tuple #[]) ∧ (Lib.BuilderAt 116 5 B b (.pointer (some ⟨b, 0, none⟩)) bs w' ∧ RowKit.Below B w w') := by
  obtain ⟨j, hj, hjs⟩ := Option.map_eq_some_iff.1 (show (Tryz.prog.info? 116).map (·.size) = some 2 by kernel_rfl)
  rcases h with h | h
  · have h0 := h.cell0
    have hsh := h.shape
    have hfz := h.frozen0
    have key : Calls Tryz.prog 87 #[.pointer (some ⟨b, 0, none⟩)] w fun e w' => e = .returned (.tuple #[]) ∧ w' = w.setCell ⟨b, 0, none⟩ (.pointer (some ⟨b, 0, none⟩)) := by
      go_enter Tryz.func87, Tryz.ntmps87
      go_wp2
      rw [Lib.run_to_unsafe w ⟨b, 0, none⟩ Tryz.underlying113 Tryz.underlying153 hj (by rw [hjs]; decide) hsh (Nat.zero_lt_succ 1)]
      simp only [Result.andThen]
      rw [Oper.upon_value]
      go_wp2
      rw [run_callFunc_extern Tryz.func104 (by kernel_rfl) (by kernel_rfl) (by kernel_rfl) (e := Extern.AbiNoEscape.same) (by kernel_rfl)]
      rw [Lib.run_noEscape]
      simp only [Result.andThen]
      rw [Oper.upon_value]
      go_wp2
      rw [Lib.run_from_unsafe w ⟨b, 0, none⟩ Tryz.underlying153 Tryz.underlying113 hj hsh (by kernel_rfl)]
      simp only [Result.andThen]
      rw [Oper.upon_value]
      go_wp2
      go_end0
      exact ⟨rfl, rfl⟩
    refine key.mono ?_
    rintro e w' ⟨rfl, rfl⟩
    exact ⟨rfl, h.used _, (Below.refl B w).setCell (p := ⟨b, 0, none⟩) h.1 _⟩
  · have h0 := h.cell0
    have key : Calls Tryz.prog 87 #[.pointer (some ⟨b, 0, none⟩)] w fun e w' => e = .returned (.tuple #[]) ∧ w' = w := by
      go_enter Tryz.func87, Tryz.ntmps87
      go_wp2
      rw [Lib.run_neq_ptr_same w _ Tryz.underlying113 hj]
      go_wp2
      go_end0
      exact ⟨rfl, rfl⟩
    refine key.mono ?_
    rintro e w' ⟨rfl, rfl⟩
    exact ⟨rfl, h, Below.refl B _⟩
set_option maxHeartbeats 2000000 in
set_option maxRecDepth 100000 in
theorem bld_byte (B b : Nat) (bs : List Value) (c : Int) (w : World) (h : Lib.IsBuilder 116 5 B b bs w) (hlen : bs.length + 1 ≤ 140737488355328) (hBw : B ≤ w.heap.size) :
    Calls Tryz.prog 68 #[.pointer (some ⟨b, 0, none⟩), .int .u8 c] w fun e w' => e = .returned .nilIface ∧ (Lib.BuilderAt 116 5 B b (.pointer (some ⟨b, 0, none⟩)) (bs ++ [.int .u8 c]) w' ∧ RowKit.Below B w w') := by
  obtain ⟨i0, hi, hz0, hz1, hz2⟩ := info_parts (show (Tryz.prog.info? 5).map (fun i => (i.zero, i.size, i.bytes)) = some (some (.int .u8 0), 1, 1) by kernel_rfl)
  have ecc : ∀ args w, (callFunc 87 args).run Tryz.prog w = .ok (.enter 87 args) w := enters_of Tryz.func87 (by kernel_rfl) rfl
  go_enter Tryz.func68, Tryz.ntmps68
  go_wp2_with (go_at_fn 87; refine (bld_check B b bs _ h).mono ?_)
  rintro e w1 ⟨rfl, h1, hb1⟩
  obtain ⟨hB, v, hbk, hown, hne⟩ := h1
  have c0 : w1.cell? ⟨b, 0, none⟩ = some (.pointer (some ⟨b, 0, none⟩)) := by rw [Lib.cell_of_heap hbk]; rfl
  have c1 : w1.cell? ⟨b, 1, none⟩ = some v := by rw [Lib.cell_of_heap hbk]; rfl
  go_wp2_with (at_builtin; refine wpList_append_own _ rfl _ _ 114 rfl B 5 i0 (.int .u8 0) 1 1 Tryz.underlying114 hi hz0 hz1 hz2 rfl (by decide) _ _ _ rfl (hown.alloc _) ⟨w1.heap.size, 0, none⟩ 1 1 [.int .u8 c] rfl rfl ?c1 ?c2 ?c3 ?c4 ?c5 ?_)
  case c1 =>
    intro j u hj
    match j, hj with
    | 0, hj => simp at hj; subst hj; simp [Addr.add]
  case c2 => intro u hu; simp at hu; subst hu; rfl
  case c3 => unfold maxLen; omega
  case c4 => omega
  case c5 => have := hb1.size; simp; omega
  intro v' w2 hown' hgrow _
  have hlt : b < w1.heap.size := by
    rcases Nat.lt_or_ge b w1.heap.size with h' | h'
    · exact h'
    · simp [Array.getElem?_eq_none h'] at hbk
  have hb2 : w2.heap[b]? = some (.cells #[.pointer (some ⟨b, 0, none⟩), v] 116 (0, 0)) := by
    rw [hgrow.block b (by simp; omega) (fun e => hne e.symm), Lib.alloc_old w1 _ b hlt]
    exact hbk
  have d0 : w2.cell? ⟨b, 0, none⟩ = some (.pointer (some ⟨b, 0, none⟩)) := by rw [Lib.cell_of_heap hb2]; rfl
  have d1 : w2.cell? ⟨b, 1, none⟩ = some v := by rw [Lib.cell_of_heap hb2]; rfl
  have f1 : w2.frozen? ⟨b, 1, none⟩ = false := Lib.frozen_of_heap hb2 1
  obtain ⟨g, cap, rfl⟩ : ∃ g cap, v' = .slice (some ⟨g, 0, none⟩) (bs.length + 1) cap := by
    rcases hown'.2 with ⟨_, h0⟩ | ⟨g, cap, cur, hv, _⟩
    · omega
    · exact ⟨g, cap, hv⟩
  go_wp2
  go_ret
  refine ⟨rfl, ?_, ?_⟩
  · exact Lib.BuilderAt.put (T := 116) (e := 5) hB hb2 (bs' := bs ++ [.int .u8 c]) (by simpa using hown') (by decide)
  · exact ((hb1.alloc (by have := hb1.size; omega) _).grown hgrow (by have := hb1.size; simp; omega) (fun k hk => (hown.lt k hk).1)).setCell (p := ⟨b, 1, none⟩) hB _
set_option maxHeartbeats 2000000 in
set_option maxRecDepth 100000 in
theorem bld_str (B b : Nat) (bs : List Value) (s : ByteArray) (w : World) (h : Lib.IsBuilder 116 5 B b bs w) (hlen : bs.length + s.size ≤ 140737488355328) (hBw : B ≤ w.heap.size) :
    Calls Tryz.prog 66 #[.pointer (some ⟨b, 0, none⟩), .string s] w fun e w' => e = .returned (.tuple #[.int .i64 s.size, .nilIface]) ∧ (Lib.BuilderAt 116 5 B b (.pointer (some ⟨b, 0, none⟩)) (bs ++ Lib.strCells s) w' ∧ RowKit.Below B w w') := by
  obtain ⟨i0, hi, hz0, hz1, hz2⟩ := info_parts (show (Tryz.prog.info? 5).map (fun i => (i.zero, i.size, i.bytes)) = some (some (.int .u8 0), 1, 1) by kernel_rfl)
  have ecc : ∀ args w, (callFunc 87 args).run Tryz.prog w = .ok (.enter 87 args) w := enters_of Tryz.func87 (by kernel_rfl) rfl
  go_enter Tryz.func66, Tryz.ntmps66
  go_wp2_with (go_at_fn 87; refine (bld_check B b bs _ h).mono ?_)
  rintro e w1 ⟨rfl, h1, hb1⟩
  obtain ⟨hB, v, hbk, hown, hne⟩ := h1
  have c0 : w1.cell? ⟨b, 0, none⟩ = some (.pointer (some ⟨b, 0, none⟩)) := by rw [Lib.cell_of_heap hbk]; rfl
  have c1 : w1.cell? ⟨b, 1, none⟩ = some v := by rw [Lib.cell_of_heap hbk]; rfl
  go_wp2_with (at_builtin; refine Lib.wpList_append_own_string _ rfl _ _ 114 9 rfl B 5 i0 Tryz.underlying114 Tryz.underlying9 hi hz0 hz1 hz2 _ _ _ rfl hown s rfl ?c3 ?c4 ?c5 ?_)
  case c3 => unfold maxLen; omega
  case c4 => omega
  case c5 => have := hb1.size; omega
  intro v' w2 hown' hgrow _
  have hlt : b < w1.heap.size := by
    rcases Nat.lt_or_ge b w1.heap.size with h' | h'
    · exact h'
    · simp [Array.getElem?_eq_none h'] at hbk
  have hb2 : w2.heap[b]? = some (.cells #[.pointer (some ⟨b, 0, none⟩), v] 116 (0, 0)) := by
    rw [hgrow.block b hlt (fun e => hne e.symm)]
    exact hbk
  have d0 : w2.cell? ⟨b, 0, none⟩ = some (.pointer (some ⟨b, 0, none⟩)) := by rw [Lib.cell_of_heap hb2]; rfl
  have d1 : w2.cell? ⟨b, 1, none⟩ = some v := by rw [Lib.cell_of_heap hb2]; rfl
  have f1 : w2.frozen? ⟨b, 1, none⟩ = false := Lib.frozen_of_heap hb2 1
  obtain ⟨ao, n', cap, rfl⟩ : ∃ ao n' cap, v' = .slice ao n' cap := by
    rcases hown'.2 with ⟨hv, _⟩ | ⟨g, cap, cur, hv, _⟩
    · exact ⟨_, _, _, hv⟩
    · exact ⟨_, _, _, hv⟩
  go_wp2
  go_ret2
  refine ⟨rfl, ?_, ?_⟩
  · exact Lib.BuilderAt.put (T := 116) (e := 5) hB hb2 (bs' := bs ++ Lib.strCells s) (by simpa [Lib.strCells_length] using hown') (by decide)
  · exact (hb1.grown hgrow (by have := hb1.size; omega) (fun k hk => (hown.lt k hk).1)).setCell (p := ⟨b, 1, none⟩) hB _
end Go.Proofs.YtggjaoibcfgofaaGreatDoor
namespace Go.Proofs.YtggjaoibcfgofaaGreatDoor
open Am C
set_option linter.unusedSimpArgs false
set_option linter.unusedVariables false
def clsN (c : UInt8) : Int := if digB c then 1 else if letB c then 2 else 0
theorem class_ok (c : UInt8) (H : Hp) : AC Tryz.prog n_digits_class [.i .u8 c.toNat] H (fun v H' => v = .i .i64 (clsN c) ∧ H' = H) := by
  refine AC.code digits_class.at digits_class.ok ?_
  simp only [digits_class]
  refine AX.seq (AX.reg ?_)
  simp [digits_class.r0]
  refine AX.seq (AX.reg ?_)
  simp [digits_class.r1]
  refine AX.seq (AX.pblock (AX.seq (AX.pblock (AX.seq (AX.pblock (AX.seq (AX.seq (AX.test (digB c) [(0, .i .u8 c.toNat), (3, .i .i64 2), (4, .b (digB c))] ?_ rfl (fun hd => AX.exit ?_) (fun hd => AX.skip ?_)))))))))
  · by_cases h : (48 : Int) ≤ c.toNat <;> simp [digits_class.r2, h, digB]
    all_goals omega
  · simp
    refine AX.reg ?_
    simp [digits_class.r6]
    refine AX.seq (AX.seq (AX.reg ?_))
    simp [digits_class.r7]
    refine AX.ret ?_
    simp [clsN, hd]
  simp
  refine AX.seq (AX.join (F1 := [(3, .i .i64 2), (11, .b (letB c))]) (H1 := H) ?_ ?_)
  · refine AX.test (decide (65 ≤ c.toNat ∧ c.toNat ≤ 90)) [(0, .i .u8 c.toNat), (3, .i .i64 2), (11, .b (decide (65 ≤ c.toNat ∧ c.toNat ≤ 90)))] ?_ rfl (fun h1 => AX.skip ?_) (fun h1 => ?_)
    · by_cases h : (65 : Int) ≤ c.toNat <;> simp [digits_class.r3, h]
      all_goals omega
    · simp at h1 ⊢; simp [letB, h1]
    refine AX.test (decide (97 ≤ c.toNat ∧ c.toNat ≤ 122)) [(0, .i .u8 c.toNat), (3, .i .i64 2), (11, .b (decide (97 ≤ c.toNat ∧ c.toNat ≤ 122)))] ?_ rfl (fun h2 => AX.skip ?_) (fun h2 => AX.reg ?_)
    · by_cases h : (97 : Int) ≤ c.toNat <;> simp [digits_class.r4, h]
      all_goals omega
    · simp at h2 ⊢; simp [letB, h2]
    · simp only [decide_eq_false_iff_not] at h1 h2
      simp [digits_class.r5, letB, h1, h2]
  refine AX.pcond rfl (fun hb => AX.exit ?_) (fun hb => AX.skip ?_)
  · simp
    refine AX.seq (AX.seq (AX.reg ?_))
    simp [digits_class.r7]
    refine AX.ret ?_
    simp [clsN, hd, hb]
  · simp
    refine AX.exit ?_
    simp
    refine AX.seq (AX.reg ?_)
    simp [digits_class.r8]
    refine AX.ret ?_
    simp [clsN, hd, hb]
theorem cls1 (c : UInt8) : (clsN c = 1) = (digB c = true) := by
  unfold clsN; by_cases h : digB c = true
  · simp [h]
  · by_cases h2 : letB c = true <;> simp [h, h2]
theorem dig_let (c : UInt8) (h : letB c = true) : digB c = false := by
  simp [letB, digB] at *; omega
theorem cls2 (c : UInt8) : (clsN c = 2) = (letB c = true) := by
  unfold clsN; by_cases h : digB c = true
  · have : ¬ letB c = true := fun h2 => by rw [dig_let c h2] at h; cases h
    simp [h, this]
  · by_cases h2 : letB c = true <;> simp [h, h2]
theorem cls0 (c : UInt8) : (clsN c < 1) = (inB true c = false) := by
  unfold clsN inB; by_cases h : digB c = true
  · simp [h]
  · by_cases h2 : letB c = true <;> simp [h, h2]
theorem decFrom_valD (s : Str) (h : s.all digB = true) (acc : Nat) : Go.Lib.decFrom acc s = some (s.foldl (fun n c => 10 * n + (c.toNat - 48)) acc) := by
  induction s generalizing acc with
  | nil => rfl
  | cons c s ih =>
    simp only [List.all_cons, Bool.and_eq_true] at h
    have hd := of_decide_eq_true h.1
    simp only [Go.Lib.decFrom, Go.Lib.digitVal, if_pos hd, List.foldl_cons]
    rw [ih h.2, Nat.mul_comm]
theorem atoi_valD (s : Str) (h : s.all digB = true) (hne : s ≠ []) : Go.Lib.atoi s = some (valD s : Int) := by
  cases s with
  | nil => exact absurd rfl hne
  | cons c s =>
    have hd := h
    simp only [List.all_cons, Bool.and_eq_true] at hd
    have hd := of_decide_eq_true hd.1
    have e1 : (c == 45) = false := by
      cases hh : c == 45 with
      | false => rfl
      | true => have := eq_of_beq hh; subst this; simp at hd
    have e2 : (c == 43) = false := by
      cases hh : c == 43 with
      | false => rfl
      | true => have := eq_of_beq hh; subst this; simp at hd
    simp only [Go.Lib.atoi, e1, e2, Go.Lib.decNat]
    rw [show (c :: s).isEmpty = false from rfl, decFrom_valD _ h]
    rfl
theorem valD_big (s : Str) (h : s.all digB = true) : ∀ n k, 10 ^ k ≤ n → 10 ^ (k + s.length) ≤ s.foldl (fun n c => 10 * n + (c.toNat - 48)) n := by
  induction s with
  | nil => intro n k h; simpa using h
  | cons c s ih =>
    intro n k hk
    simp only [List.all_cons, Bool.and_eq_true] at h
    simp only [List.foldl_cons, List.length_cons]
    have := ih h.2 (10 * n + (c.toNat - 48)) (k + 1) (by rw [Nat.pow_succ]; omega)
    rwa [show k + (s.length + 1) = k + 1 + s.length by omega]
theorem valD_long (s : Str) (h : s.all digB = true) (h0 : s[0]? ≠ some 48) (hl : 9 < s.length) : 268435456 < valD s := by
  cases s with
  | nil => simp at hl
  | cons c s =>
    simp at h0 hl
    have hc := h
    simp only [List.all_cons, Bool.and_eq_true] at hc
    have hd := of_decide_eq_true hc.1
    have hne : c.toNat ≠ 48 := fun hh => h0 (UInt8.toNat_inj.1 (by rw [hh]; rfl))
    have h1 := valD_big s hc.2 (10 * 0 + (c.toNat - 48)) 0 (by simp; omega)
    have h2 : 10 ^ 9 ≤ 10 ^ (0 + s.length) := Nat.pow_le_pow_right (by omega) (by omega)
    unfold valD; simp only [List.foldl_cons]; omega
def DReadInv (s : Str) (H : Hp) (m : Nat) (F : Fr) (H' : Hp) : Prop :=
  ∃ i, i ≤ s.length ∧ m = s.length - i ∧ (s.take i).all digB = true ∧ H' = H ∧ F = [(0, .s s), (10, .i .i64 s.length), (11, .i .i64 i)]
theorem DRead_ok (s : Str) (hs : s.length ≤ 9223372036854775807) (H : Hp) : AC Tryz.prog n_digits_Read [.s s] H (fun v H' => v = .tup [.i .i64 (readS s).1, .i .i64 (readS s).2] ∧ H' = H) := by
  refine AC.code digits_Read.at digits_Read.ok ?_
  simp only [digits_Read]
  refine AX.seq (AX.reg ?_)
  simp [digits_Read.r0]
  refine AX.seq (AX.seq (AX.reg ?_))
  simp [digits_Read.r1]
  refine AX.pcond rfl (fun hb => ?_) (fun hb => AX.skip ?_)
  · simp at hb
    refine AX.seq (AX.reg ?_)
    simp [digits_Read.r2]
    refine AX.ret ?_
    simp [readS, hb]
  simp at hb
  simp
  refine AX.seq (AX.seq (AX.reg ?_))
  simp [digits_Read.r3]
  refine AX.pblock (AX.loop (DReadInv s H) s.length ⟨_, _, .refl _ _, 0, by omega, by omega, by simp, rfl, rfl⟩ ?_)
  rintro m F H' ⟨i, hi, rfl, hx, rfl, rfl⟩
  simp only [digits_Read.l0]
  refine AX.seq (AX.reg ?_)
  simp [digits_Read.r4]
  refine AX.seq (AX.pcond rfl (fun hc => AX.skip ?_) (fun hc => AX.exit ?_))
  · simp at hc
    simp
    refine AX.seq (AX.pblock (AX.seq (AX.reg ?_)))
    simp [digits_Read.r5]
    refine AX.seq (AX.reg ?_)
    simp [digits_Read.r6, hc]
    refine AC.fix (class_ok _ _) ?_
    simp [cls1]
    refine AX.pcond rfl (fun hd => ?_) (fun hd => AX.skip ?_)
    · simp at hd
      refine AX.seq (AX.reg ?_)
      simp [digits_Read.r7]
      refine AX.ret ?_
      have : s.all digB = false := by
        rw [List.all_eq_false]; exact ⟨_, List.getElem_mem hc, by simp [hd]⟩
      simp [readS, hb, this]
    simp at hd
    simp
    refine AX.reg ?_
    simp [digits_Read.r8, succ_of_lt hc hs]
    refine ⟨s.length - (i + 1), by omega, _, _, .refl _ _, i + 1, by omega, rfl, ?_, rfl, by simp⟩
    rw [List.take_add_one, List.getElem?_eq_getElem hc, List.all_append, hx]
    simp [hd]
  simp at hc
  have hall : s.all digB = true := by rwa [List.take_of_length_le (by omega)] at hx
  have hp : 0 < s.length := List.length_pos_iff.2 hb
  simp
  refine AX.seq (AX.pblock (AX.test (decide (s[0]? = some 48 ∧ 1 < s.length)) [(0, .s s), (20, .b (decide (s[0]? = some 48 ∧ 1 < s.length)))] ?_ rfl (fun hz => AX.seq (AX.reg ?_)) (fun hz => ?_)))
  · have e : ((s[0].toNat : Int) = 48) = (s[0] = 48) := by
      refine propext ⟨fun h => UInt8.toNat_inj.1 (by have : s[0].toNat = 48 := by omega
                                                     rw [this]; rfl), fun h => by rw [h]; rfl⟩
    by_cases h : s[0] = 48 <;> simp [digits_Read.r9, hp, e, h]
  · simp [digits_Read.r10]
    refine AX.ret ?_
    simp only [decide_eq_true_eq] at hz
    have : readS s = (0, 3) := by unfold readS; rw [if_neg hb, if_neg (by simp [hall]), if_pos hz]
    simp [this]
  simp only [decide_eq_false_iff_not] at hz
  have hr : readS s = if 268435456 < valD s then (0, 2) else (valD s, 0) := by unfold readS; rw [if_neg hb, if_neg (by simp [hall]), if_neg hz]
  simp
  refine AX.seq (AX.reg ?_)
  simp [digits_Read.r11]
  refine AX.pcond rfl (fun hl => ?_) (fun hl => AX.skip ?_)
  · simp at hl
    refine AX.seq (AX.reg ?_)
    simp [digits_Read.r12]
    refine AX.ret ?_
    rw [hr, if_pos (valD_long s hall (fun h => hz ⟨h, by omega⟩) (by omega))]; simp
  simp at hl
  simp
  refine AX.seq (AX.reg ?_)
  simp [digits_Read.r13]
  refine AC.fix (Atoi_ok s _ (by omega) (atoi_valD s hall hb) _) ?_
  simp
  refine AX.seq (AX.seq (AX.reg ?_))
  simp [digits_Read.r14]
  refine AX.pcond rfl (fun hv => ?_) (fun hv => AX.skip ?_)
  · simp at hv
    refine AX.seq (AX.reg ?_)
    simp [digits_Read.r15]
    refine AX.ret ?_
    rw [hr, if_pos (by omega)]; simp
  simp at hv
  simp
  refine AX.seq (AX.reg ?_)
  simp [digits_Read.r16]
  refine AX.ret ?_
  rw [hr, if_neg (by omega)]; simp
theorem number_ok (s : Str) (hs : s.length ≤ 9223372036854775807) (H : Hp) : AC Tryz.prog n_names_number [.s s] H (fun v H' => v = .tup [.i .i64 (readS s).1, .b (decide ((readS s).2 = 0))] ∧ H' = H) := by
  refine AC.code names_number.at names_number.ok ?_
  simp only [names_number]
  refine AX.seq (AX.reg ?_)
  simp [names_number.r0]
  refine AX.seq (AX.reg ?_)
  simp [names_number.r1]
  refine AC.fix (DRead_ok s hs _) ?_
  simp
  refine AX.seq (AX.reg ?_)
  simp [names_number.r2]
  refine AX.ret ?_
  simp
end Go.Proofs.YtggjaoibcfgofaaGreatDoor
namespace Go.Proofs.YtggjaoibcfgofaaGreatDoor
open Am C
set_option linter.unusedSimpArgs false
set_option linter.unusedVariables false
def DSplitInv (s : Str) (H : Hp) (m : Nat) (F : Fr) (H' : Hp) : Prop :=
  ∃ i, i ≤ s.length ∧ m = s.length - i ∧ (s.take i).all (inB true) = true ∧ H' = H ∧ F = [(0, .s s), (4, .i .i64 1), (24, .i .i64 s.length), (25, .i .i64 i)]
theorem dig10 (c : UInt8) : List.contains [48, 49, 50, 51, 52, 53, 54, 55, 56, 57] c = digB c := by
  rw [Bool.eq_iff_iff]
  constructor
  · intro h
    have := List.mem_of_elem_eq_true h
    simp at this
    rcases this with h | h | h | h | h | h | h | h | h | h <;> (subst h; rfl)
  · intro h
    have := of_decide_eq_true h
    obtain ⟨k, hk, rfl⟩ : ∃ k : Nat, k < 10 ∧ c = UInt8.ofNat (48 + k) := ⟨c.toNat - 48, by omega, UInt8.toNat_inj.1 (by rw [UInt8.toNat_ofNat']; omega)⟩
    rcases (by omega : k = 0 ∨ k = 1 ∨ k = 2 ∨ k = 3 ∨ k = 4 ∨ k = 5 ∨ k = 6 ∨ k = 7 ∨ k = 8 ∨ k = 9) with h | h | h | h | h | h | h | h | h | h <;> (subst h; rfl)
theorem dropWhile_nil {α : Type} {p : α → Bool} {l : List α} : l.dropWhile p = [] ↔ l.all p = true := by
  induction l with
  | nil => simp
  | cons a l ih =>
    by_cases h : p a = true
    · simp only [List.dropWhile_cons, h, if_true, List.all_cons, Bool.true_and]; exact ih
    · simp [h]
theorem DSplit_ok (s : Str) (hs : s.length ≤ 9223372036854775807) (H : Hp) : AC Tryz.prog n_digits_Split [.s s] H (fun v H' => v = .tup [.s (splitS s).1, .s (splitS s).2] ∧ H' = H) := by
  refine AC.code digits_Split.at digits_Split.ok ?_
  simp only [digits_Split]
  refine AX.seq (AX.reg ?_)
  simp [digits_Split.r0]
  refine AX.seq (AX.seq (AX.reg ?_))
  simp [digits_Split.r1]
  refine AX.pcond rfl (fun hb => ?_) (fun hb => AX.skip ?_)
  · simp at hb; subst hb
    refine AX.seq (AX.reg ?_)
    simp [digits_Split.r2]
    refine AX.ret ?_
    simp [splitS]
  simp at hb
  have hp : 0 < s.length := List.length_pos_iff.2 hb
  have hw : wordB s = letB s[0] := by simp [wordB, hp]
  simp
  refine AX.seq (AX.reg ?_)
  simp [digits_Split.r3]
  refine AX.seq (AX.seq (AX.reg ?_))
  simp [digits_Split.r4, hp]
  refine AC.fix (class_ok _ _) ?_
  simp [cls2]
  refine AX.pcond rfl (fun hd => ?_) (fun hd => AX.skip ?_)
  · simp at hd
    have e : inB (wordB s) = fun c => List.contains [48, 49, 50, 51, 52, 53, 54, 55, 56, 57] c := by
      funext c; rw [dig10, hw, hd]; simp [inB]
    refine AX.seq (AX.reg ?_)
    simp [digits_Split.r5]
    refine AC.fix (TrimLeft_ok s [48, 49, 50, 51, 52, 53, 54, 55, 56, 57] (by decide) (by decide) _) ?_
    rw [← e]
    have hl := congrArg List.length (splitS_append s)
    rw [List.length_append] at hl
    have hr : s.dropWhile (inB (wordB s)) = (splitS s).2 := rfl
    rw [hr]
    have e1 : Go.IntKind.i64.wrap ((s.length : Int) - ((splitS s).2.length : Int)) = ((splitS s).1.length : Nat) := by rw [wrap_i64 (by omega) (by omega)]; omega
    have e2 : s.take (splitS s).1.length = (splitS s).1 := by
      conv => lhs; arg 2; rw [← splitS_append s]
      simp
    simp
    refine AX.seq (AX.reg ?_)
    simp [digits_Split.r6, e1, e2, show (splitS s).1.length ≤ s.length by omega]
    refine AX.ret ?_
    simp
  simp at hd
  have hw' : wordB s = true := by rw [hw, hd]
  simp
  refine AX.seq (AX.seq (AX.reg ?_))
  simp [digits_Split.r7]
  refine AX.pblock (AX.loop (DSplitInv s H) s.length ⟨_, _, .refl _ _, 0, by omega, by omega, by simp, rfl, rfl⟩ ?_)
  rintro m F H' ⟨i, hi, rfl, hx, rfl, rfl⟩
  simp only [digits_Split.l0]
  refine AX.seq (AX.reg ?_)
  simp [digits_Split.r8]
  refine AX.seq (AX.pcond rfl (fun hc => AX.skip ?_) (fun hc => AX.exit ?_))
  · simp at hc
    simp
    refine AX.seq (AX.pblock (AX.seq (AX.reg ?_)))
    simp [digits_Split.r9]
    refine AX.seq (AX.reg ?_)
    simp [digits_Split.r10, hc]
    refine AC.fix (class_ok _ _) ?_
    simp [cls0]
    refine AX.pcond rfl (fun hd => ?_) (fun hd => AX.skip ?_)
    · simp at hd
      have := takeWhile_at (p := inB true) hx hi fun x hx => by
        obtain ⟨h1, h2⟩ := List.getElem?_eq_some_iff.1 hx
        rw [← h2]; exact hd
      refine AX.seq (AX.drw ?_)
      simp [digits_Split.r11, hi]
      refine AX.ret ?_
      simp [splitS, hw', this]
    simp at hd
    simp
    refine AX.reg ?_
    simp [digits_Split.r12, succ_of_lt hc hs]
    refine ⟨s.length - (i + 1), by omega, _, _, .refl _ _, i + 1, by omega, rfl, ?_, rfl, by simp⟩
    rw [List.take_add_one, List.getElem?_eq_getElem hc, List.all_append, hx]
    simp [hd]
  simp at hc
  have := takeWhile_at (p := inB true) hx hi fun x hx => by
    obtain ⟨h1, h2⟩ := List.getElem?_eq_some_iff.1 hx
    omega
  rw [List.take_of_length_le hc, List.drop_of_length_le hc] at this
  simp
  refine AX.seq (AX.reg ?_)
  simp [digits_Split.r13]
  refine AX.ret ?_
  simp [splitS, hw', this]
theorem DName_ok (s : Str) (hs : s.length ≤ 9223372036854775807) (H : Hp) : AC Tryz.prog n_digits_Name [.s s] H (fun v H' => v = .b (nameB s) ∧ H' = H) := by
  refine AC.code digits_Name.at digits_Name.ok ?_
  simp only [digits_Name]
  refine AX.seq (AX.reg ?_)
  simp [digits_Name.r0]
  refine AX.seq (AX.reg ?_)
  simp [digits_Name.r1]
  refine AC.fix (DSplit_ok s hs _) ?_
  simp
  have h1 : (splitS s).2 = [] ↔ s.all (inB (wordB s)) = true := by
    exact dropWhile_nil
  have h2 : (splitS s).2 = [] → (splitS s).1 = s := fun h => by have := splitS_append s; rwa [h, List.append_nil] at this
  generalize (splitS s).1 = hd at h1 h2 ⊢
  generalize (splitS s).2 = rs at h1 h2 ⊢
  refine AX.stp [(2, .b (nameB s))] ?_ ?_
  · by_cases a2 : rs = []
    · have a0 := h2 a2
      subst a0
      by_cases a1 : hd = []
      · subst a1; simp [digits_Name.r2, nameB, wordB]
      have hp : 0 < hd.length := List.length_pos_iff.2 a1
      have e : hd.isEmpty = false := by simpa using a1
      by_cases a3 : hd.length ≤ 16
      · simp [digits_Name.r2, a1, a2, a3, e, hp]
        refine AC.fix (class_ok _ _) ?_
        have hw : wordB hd = letB hd[0] := by simp [wordB, hp]
        simp [cls2, nameB, a3, hw]
        intro hl
        rw [hw, hl] at h1
        simpa using (h1.1 a2)
      · simp [digits_Name.r2, a1, a2, a3, e, nameB]
    · have e : rs.isEmpty = false := by simpa using a2
      have hn : nameB s = false := by
        unfold nameB
        cases hw : wordB s with
        | false => simp
        | true =>
          rw [hw] at h1
          have : s.all (inB true) = false := by
            cases hh : s.all (inB true) with
            | false => rfl
            | true => exact absurd (h1.2 hh) a2
          simp [this]
      by_cases a1 : hd = []
      · subst a1; simp [digits_Name.r2, hn]
      · have e2 : hd.isEmpty = false := by simpa using a1
        simp [digits_Name.r2, a1, a2, e, e2, hn]
  refine AX.ret ?_
  simp
end Go.Proofs.YtggjaoibcfgofaaGreatDoor
