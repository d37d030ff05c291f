/- What the law QueryFacts alone needs: QHol2, QHol3, QLaws, QAll. -/
import Derived.Test.YtggjaoibcfgofaaGreatDoorFacts2
namespace Go.Proofs.YtggjaoibcfgofaaGreatDoor
open Am C
set_option linter.unusedSimpArgs false
set_option linter.unusedVariables false
theorem calleesS_snoc (x : List Str) (i : Nat) (h : i < x.length) : sortedS ((x.take (i + 1)).filterMap calP) = (match calP x[i] with | some t => intoS (sortedS ((x.take i).filterMap calP)) t | none => sortedS ((x.take i).filterMap calP)) := by
  rw [List.take_add_one, List.getElem?_eq_getElem h, List.filterMap_append]
  cases hc : calP x[i] with
  | none => simp [hc]
  | some t => simp [hc, sortedS_snoc]
def RCalInv (x : List Str) (H : Hp) (m : Nat) (F : Fr) (X : Hp) : Prop :=
  ∃ i, i ≤ x.length ∧ m = x.length - i ∧ H.Ext X ∧ (∀ k blk, X.get k = some blk → k < X.next) ∧ F = [(5, ss (sortedS ((x.take i).filterMap calP))), (6, ss x), (7, .i .i64 i)]
theorem RCallees_ok (l : List Fact) (site : Str) (hl : l.length ≤ 9223372036854775807) (hm : ∀ f ∈ l, f.2.length ≤ 1000000) (ht : ∀ f ∈ l, ∀ x ∈ f.2, x.length ≤ 9223372036854775806) (H : Hp) : AC Tryz.prog n_weftref32_Callees [fsV l, .s site] H (fun v H' => v = ss (calleesS l site) ∧ H' = H) := by
  have h1 := ofS_len (node := site) hm
  have h2 : ∀ x ∈ ofS l site, x.length ≤ 9223372036854775806 := fun x hx => by
    unfold ofS at hx
    cases hf : l.find? (fun f => decide (f.1 = site)) with
    | none => rw [hf] at hx; simp at hx
    | some f => rw [hf] at hx; exact ht f (List.mem_of_find?_eq_some hf) x (by simpa using hx)
  refine AC.codeP weftref32_Callees.at weftref32_Callees.ok (free_ss _) fun hlt => ?_
  simp only [weftref32_Callees]
  refine AX.seq (AX.reg ?_)
  simp [weftref32_Callees.r0]
  refine AX.seq (AX.reg ?_)
  simp [weftref32_Callees.r1]
  refine AX.seq (AX.reg ?_)
  simp [weftref32_Callees.r2]
  refine AC.fix (ROf_ok l site hl hm _) ?_
  unfold calleesS
  generalize ofS l site = x at h1 h2 ⊢
  simp
  refine AX.seq (AX.seq (AX.reg ?_))
  simp [weftref32_Callees.r3]
  refine AX.pblock (AX.loop (RCalInv x H) x.length ⟨_, _, Wk.frz0 (frzF_cons (.sl0 _) (frzF_cons (.refl _) (frzF_cons (.refl _) frzF_nil))), 0, by omega, by omega, .refl _, hlt, by simp [ss, sortedS]⟩ ?_)
  rintro m F X ⟨i, hi, rfl, hx, hxl, rfl⟩
  simp only [weftref32_Callees.l0]
  refine AX.seq (AX.seq (AX.reg ?_))
  simp [weftref32_Callees.r4, ss]
  refine AX.pcond rfl (fun hc => AX.skip ?_) (fun hc => AX.exit ?_)
  · simp at hc
    simp
    refine AX.seq (AX.pblock (AX.seq (AX.reg ?_)))
    simp [weftref32_Callees.r5, hc]
    refine AC.fix (Read14_ok x[i] (by have := h2 _ (List.getElem_mem hc); omega) _) ?_
    rw [readN_eq]
    have hsn := calleesS_snoc x i hc
    have hfl := filt_len x i
    have hsl := sortedS_len ((x.take i).filterMap calP)
    cases hr : readN x[i] with
    | none =>
      have hcal : calP x[i] = none := by unfold calP; rw [hr]
      rw [hcal] at hsn
      simp [rdV, nv, Nd.cs, Nd.zero]
      refine AX.seq (AX.reg ?_)
      simp [weftref32_Callees.r6]
      refine AX.pcond (t := false) rfl (fun h => by simp at h) (fun _ => AX.skip ?_)
      simp
      refine AX.reg ?_
      simp [weftref32_Callees.r8, succ_of_lt hc (show x.length ≤ 9223372036854775807 by omega)]
      refine ⟨x.length - (i + 1), by omega, _, _, .refl _ _, i + 1, by omega, rfl, (hx.trans (.add hxl _)).upd hlt hx.1 _, Hp.upd_lt (Hp.add_lt hxl _) (by simp) _, ?_⟩
      simp [ss, hsn]
    | some d =>
      simp [rdV, nv, Nd.cs]
      refine AX.seq (AX.reg ?_)
      by_cases hk : d.kind = 4
      · have hcal : calP x[i] = some d.fn := by unfold calP; rw [hr]; simp [hk]
        rw [hcal] at hsn
        simp [weftref32_Callees.r6, hk]
        refine AX.pcond (t := true) rfl (fun _ => AX.reg ?_) (fun h => by simp at h)
        simp [weftref32_Callees.r7]
        refine AC.fix (Into_ok _ d.fn (by omega) _) ?_
        simp
        refine AX.reg ?_
        simp [weftref32_Callees.r8, succ_of_lt hc (show x.length ≤ 9223372036854775807 by omega)]
        refine ⟨x.length - (i + 1), by omega, _, _, .refl _ _, i + 1, by omega, rfl, (hx.trans (.add hxl _)).upd hlt hx.1 _, Hp.upd_lt (Hp.add_lt hxl _) (by simp) _, ?_⟩
        simp [ss, hsn]
      · have hcal : calP x[i] = none := by unfold calP; rw [hr]; simp [hk]
        rw [hcal] at hsn
        simp [weftref32_Callees.r6, hk]
        refine AX.pcond (t := false) rfl (fun h => by simp at h) (fun _ => AX.skip ?_)
        simp
        refine AX.reg ?_
        simp [weftref32_Callees.r8, succ_of_lt hc (show x.length ≤ 9223372036854775807 by omega)]
        refine ⟨x.length - (i + 1), by omega, _, _, .refl _ _, i + 1, by omega, rfl, (hx.trans (.add hxl _)).upd hlt hx.1 _, Hp.upd_lt (Hp.add_lt hxl _) (by simp) _, ?_⟩
        simp [ss, hsn]
  simp at hc
  have hfull : x.take i = x := List.take_of_length_le (by omega)
  rw [hfull]
  simp
  refine AX.seq (AX.reg ?_)
  simp [weftref32_Callees.r9]
  refine AX.ret ?_
  simp [ss]
  exact ⟨hx, .refl _⟩
end Go.Proofs.YtggjaoibcfgofaaGreatDoor
namespace Go.Proofs.YtggjaoibcfgofaaGreatDoor
open Am C
set_option linter.unusedSimpArgs false
set_option linter.unusedVariables false
theorem holdersS_snoc (l : List Fact) (place : Str) (i : Nat) (h : i < l.length) : sortedS ((l.take (i + 1)).filterMap (holP place)) = if place ∈ l[i].2 then intoS (sortedS ((l.take i).filterMap (holP place))) l[i].1 else sortedS ((l.take i).filterMap (holP place)) := by
  rw [List.take_add_one, List.getElem?_eq_getElem h, List.filterMap_append]
  by_cases hc : place ∈ l[i].2
  · rw [if_pos hc]
    have : holP place l[i] = some l[i].1 := by unfold holP; rw [if_pos hc]
    simp [this, sortedS_snoc]
  · rw [if_neg hc]
    have : holP place l[i] = none := by unfold holP; rw [if_neg hc]
    simp [this]
def RHolInv (l : List Fact) (place : Str) (H : Hp) (m : Nat) (F : Fr) (X : Hp) : Prop :=
  ∃ i, i ≤ l.length ∧ m = l.length - i ∧ X = H ∧ F = [(0, fsV l), (1, .s place), (5, ss (sortedS ((l.take i).filterMap (holP place)))), (6, .i .i64 i)]
theorem RHolders_ok (l : List Fact) (place : Str) (hl : l.length ≤ 1000000) (hm : ∀ f ∈ l, f.2.length ≤ 1000000) (H : Hp) : AC Tryz.prog n_weftref32_Holders [fsV l, .s place] H (fun v H' => v = ss (holdersS l place) ∧ H' = H) := by
  refine AC.codeP weftref32_Holders.at weftref32_Holders.ok (free_ss _) fun hlt => ?_
  simp only [weftref32_Holders]
  refine AX.seq (AX.reg ?_)
  simp [weftref32_Holders.r0]
  refine AX.seq (AX.reg ?_)
  simp [weftref32_Holders.r1]
  refine AX.seq (AX.seq (AX.reg ?_))
  simp [weftref32_Holders.r2]
  refine AX.pblock (AX.loop (RHolInv l place H) l.length ⟨_, _, Wk.frz0 (frzF_cons (.refl _) (frzF_cons (.refl _) (frzF_cons (.sl0 _) (frzF_cons (.refl _) frzF_nil)))), 0, by omega, by omega, rfl, by simp [ss, sortedS]⟩ ?_)
  rintro m F X ⟨i, hi, rfl, rfl, rfl⟩
  simp only [weftref32_Holders.l0]
  refine AX.seq (AX.seq (AX.reg ?_))
  simp [weftref32_Holders.r3, fsV]
  refine AX.pcond rfl (fun hc => AX.skip ?_) (fun hc => AX.exit ?_)
  · simp at hc
    have hmi := hm _ (List.getElem_mem hc)
    have hsn := holdersS_snoc l place i hc
    have hfl := filtG_len (holP place) l i
    have hsl := sortedS_len ((l.take i).filterMap (holP place))
    simp
    refine AX.seq (AX.pblock (AX.seq (AX.reg ?_)))
    simp [weftref32_Holders.r4, fsV, hc, fcs]
    refine AC.fix (Number_ok l[i].2 place (show l[i].2.length ≤ 9223372036854775807 by omega) _) ?_
    simp [numV_in]
    by_cases hk : place ∈ l[i].2
    · rw [if_pos hk] at hsn
      refine AX.pcond (t := true) (by simp [hk]) (fun _ => AX.reg ?_) (fun h => by simp at h)
      simp [weftref32_Holders.r5, fsV, hc, fcs]
      refine AC.fix (Into_ok _ l[i].1 (by omega) _) ?_
      simp
      refine AX.reg ?_
      simp [weftref32_Holders.r6, succ_of_lt hc (show l.length ≤ 9223372036854775807 by omega)]
      exact ⟨l.length - (i + 1), by omega, _, _, .refl _ _, i + 1, by omega, rfl, rfl, by simp [fsV, fcs, hsn]⟩
    · rw [if_neg hk] at hsn
      refine AX.pcond (t := false) (by simp [hk]) (fun h => by simp at h) (fun _ => AX.skip ?_)
      simp
      refine AX.reg ?_
      simp [weftref32_Holders.r6, succ_of_lt hc (show l.length ≤ 9223372036854775807 by omega)]
      exact ⟨l.length - (i + 1), by omega, _, _, .refl _ _, i + 1, by omega, rfl, rfl, by simp [fsV, fcs, hsn]⟩
  simp at hc
  have hfull : l.take i = l := List.take_of_length_le (by omega)
  rw [hfull]
  simp
  refine AX.seq (AX.reg ?_)
  simp [weftref32_Holders.r7]
  refine AX.ret ?_
  simp [holdersS]
  exact ⟨.refl _, .refl _⟩
end Go.Proofs.YtggjaoibcfgofaaGreatDoor
namespace Go.Proofs.YtggjaoibcfgofaaGreatDoor
open Am C Go.Proofs
set_option linter.unusedSimpArgs false
set_option linter.unusedVariables false
theorem calS_len (l : List Fact) (a : Str) (hm : ∀ f ∈ l, f.2.length ≤ 5000) : (calleesS l a).length ≤ 1000000 := by
  unfold calleesS
  have h1 := sortedS_len ((ofS l a).filterMap calP)
  have h2 := List.length_filterMap_le calP (ofS l a)
  have h3 : (ofS l a).length ≤ 5000 := by
    unfold ofS
    cases h : l.find? (fun f => decide (f.1 = a)) with
    | none => simp
    | some f => exact hm f (List.mem_of_find?_eq_some h)
  omega
theorem holS_len (l : List Fact) (a : Str) : (holdersS l a).length ≤ l.length := by
  unfold holdersS
  have h1 := sortedS_len (l.filterMap (holP a))
  have h2 := List.length_filterMap_le (holP a) l
  omega
theorem QueryFacts_ok (l : List Fact) (a b : Str) (hs : smallF l) (H : Hp) : AC Tryz.prog n_weftlaw32_QueryFacts [fsV l, .s a, .s b] H (fun v H' => v = .b true ∧ H' = H) := by
  refine AC.code weftlaw32_QueryFacts.at weftlaw32_QueryFacts.ok ?_
  simp only [weftlaw32_QueryFacts]
  refine AX.seq (AX.reg ?_)
  simp [weftlaw32_QueryFacts.r0]
  refine AX.seq (AX.seq (AX.reg ?_))
  simp [weftlaw32_QueryFacts.r1]
  refine (GreatFacts_ok l hs H).mono ?_
  rintro v H' ⟨⟨g, rfl, hg⟩, rfl⟩
  have done : ∀ F, AX Tryz.prog 49 (.seq (.post [6] (.region weftlaw32_QueryFacts.r2)) .ret) (Post.then (fun F H => AX Tryz.prog 49 (.seq (.post [6] (.region weftlaw32_QueryFacts.r3)) .ret) (Am.Ends (fun v H'' => v = .b true ∧ H'' = H') [.t 6]) (fkeep F [0, 1, 2]) H) (Post.then (AX Tryz.prog 49 (.seq (.post [6] (.region weftlaw32_QueryFacts.r3)) .ret) (Am.Ends (fun v H'' => v = .b true ∧ H'' = H') [.t 6])) (Am.Ends (fun v H'' => v = .b true ∧ H'' = H') [.t 6]))) F H' := fun F => by
    refine AX.seq (AX.reg ?_)
    simp [weftlaw32_QueryFacts.r2]
    refine AX.ret ?_
    simp
  cases g with
  | true =>
    simp
    exact AX.pcond (t := true) rfl (fun _ => done _) (fun h => by simp at h)
  | false =>
    obtain ⟨hl, hm⟩ := hg rfl
    simp
    by_cases ha : 200 < a.length
    · simp [ha]
      exact AX.pcond (t := true) rfl (fun _ => done _) (fun h => by simp at h)
    simp [ha]
    by_cases hb : 200 < b.length
    · exact AX.pcond (t := true) (by simp [hb]) (fun _ => done _) (fun h => by simp at h)
    refine AX.pcond (t := false) (by simp [hb]) (fun h => by simp at h) (fun _ => AX.skip ?_)
    simp
    have hm' : ∀ f ∈ l, f.2.length ≤ 1000000 := fun f hf => by have := hm f hf; omega
    have ht : ∀ f ∈ l, ∀ x ∈ f.2, x.length ≤ 9223372036854775806 := fun f hf x hx => by have := (hs.2 f hf).2.2 x hx; omega
    have c1 := calS_len l a hm
    have c2 := holS_len l a
    refine AX.seq (AX.reg ?_)
    simp [weftlaw32_QueryFacts.r3]
    refine AC.fix (Alias_ok l a b (show l.length ≤ 9223372036854775807 by omega) hm' _) ?_
    simp
    refine AC.fix (RAlias_ok l a b (show l.length ≤ 9223372036854775807 by omega) hm' _) ?_
    simp
    refine AC.fix (Callees_ok l a (show l.length ≤ 9223372036854775807 by omega) hm' ht _) ?_
    simp
    refine AC.fix (RCallees_ok l a (show l.length ≤ 9223372036854775807 by omega) hm' ht _) ?_
    simp
    refine AC.fix (Same_ok _ _ (show _ ≤ 9223372036854775807 by omega) _) ?_
    simp
    refine AC.fix (Holders_ok l a (by omega) hm' _) ?_
    simp
    refine AC.fix (RHolders_ok l a (by omega) hm' _) ?_
    simp
    refine AC.fix (Same_ok _ _ (show _ ≤ 9223372036854775807 by omega) _) ?_
    simp
    refine AC.fix (works_ok _) ?_
    simp
    refine AX.ret ?_
    simp
end Go.Proofs.YtggjaoibcfgofaaGreatDoor
namespace Go.Proofs.YtggjaoibcfgofaaGreatDoor
open Am C Go.Proofs
set_option linter.unusedSimpArgs false
set_option linter.unusedVariables false
theorem QueryFacts_all (us : List V) (h : ArgsZ [.sl TF, .str, .str] us) : AC Tryz.prog 3 us Hp.none (fun r _ => r = .b true) := by
  obtain ⟨u, us', rfl, hu, u2, us2, rfl, hu2, u3, us3, rfl, hu3, rfl⟩ := h
  obtain ⟨l, hx, hs⟩ := isZ_facts hu
  obtain ⟨a, ha, _⟩ := isZ_str hu2
  obtain ⟨b, hb, _⟩ := isZ_str hu3
  injection hx with hx; subst hx
  injection ha with ha; subst ha
  injection hb with hb; subst hb
  exact (QueryFacts_ok l a b hs _).mono fun v H' h => h.1
end Go.Proofs.YtggjaoibcfgofaaGreatDoor
