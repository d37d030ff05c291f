/- What the law SymbolsResolve alone needs: RRsv, LRes, YAll. -/
import Derived.Test.YtjajpilacdfnbaaGreatDoorZ6
namespace Go.Proofs.YtjajpilacdfnbaaGreatDoor
open Am C
set_option linter.unusedSimpArgs false
set_option linter.unusedVariables false
def RvI0 (l : List Su) (H : Hp) (m : Nat) (F : Fr) (X : Hp) : Prop :=
  ∃ i w, i ≤ l.length ∧ m = l.length - i ∧ ycs [] l = ycs ((l.take i).map Su.name) (l.drop i) ∧ Acc H 1 w X (sc1 ((l.take i).map Su.name)) ∧ F = [(0, .fs (l.map y3z)), (5, w), (6, .i .i64 i)]
def RvI1 (l : List Su) (H : Hp) (ns : List Str) (m : Nat) (F : Fr) (Y : Hp) : Prop :=
  ∃ k w L, k ≤ ns.length ∧ m = ns.length - k ∧ yf0 l ns [] = yf0 l (ns.drop k) L ∧ L.length ≤ k ∧ Acc H 3 w Y (L.map ycn) ∧ F = [(0, .fs (l.map y3z)), (8, w), (9, ss ns), (10, .i .i64 k)]
set_option maxHeartbeats 4000000 in
theorem yi8 (l : List Su) (hs : ∀ s ∈ l, suS s) (hl : l.length ≤ 9223372036854775807) (H : Hp) : AC Tryz.prog y75 [.fs (l.map y3z)] H (fun v H' => v = rsV (yf1 l) ∧ H' = H) := by
  refine AC.codeP ya.at ya.ok (by simp [rsV]) fun hlt => ?_
  simp only [ya]
  refine AX.sr ?_
  simp [ya.r0]
  refine AX.seq (AX.seq (AX.reg ?_))
  simp [ya.r1]
  refine AX.pcond rfl (fun h8 => ?_) (fun h8 => AX.skip ?_)
  · simp at h8
    refine AX.sr ?_
    simp [ya.r2]
    refine AX.ret ?_
    have : yf1 l = ([], [], 4) := by unfold yf1; rw [if_pos (by omega)]
    simp [this]
    exact ⟨.refl _, yae (.sl0 _)⟩
  simp at h8
  have h8 : l.length ≤ 8 := by omega
  have hrs := ylh (l := l) (by omega)
  simp
  refine AX.sr ?_
  simp [ya.r3]
  refine AX.seq (AX.seq (AX.reg ?_))
  simp [ya.r4]
  refine AX.pblock (AX.loop (RvI0 l H) l.length ⟨_, _, .refl _ _, 0, .sl none 0 0, by omega, by omega, by simp, .nil 1 0 (.refl _) hlt, rfl⟩ ?_)
  rintro m F X ⟨i, w, hi, rfl, hbd, A, rfl⟩
  simp only [ya.l0]
  refine AX.seq (AX.seq (AX.reg ?_))
  simp [ya.r5]
  refine AX.pcond rfl (fun hd => AX.skip ?_) (fun hd => AX.exit ?_)
  · simp at hd
    have hg : l[i]? = some l[i] := List.getElem?_eq_getElem hd
    rw [List.drop_eq_getElem_cons hd] at hbd
    have hsu := hs _ (List.getElem_mem hd)
    have htk : (l.take (i + 1)).map Su.name = (l.take i).map Su.name ++ [l[i].name] := by rw [List.take_add_one, hg, List.map_append]; rfl
    have htl : ((l.take i).map Su.name).length = i := by simp; omega
    generalize l[i] = s at *
    simp only [ycs] at hbd
    generalize (l.take i).map Su.name = N at *
    simp
    refine AX.seq (AX.pblock (AX.seq (AX.reg ?_)))
    simp [ya.r6, hg, y3z]
    refine AC.fix (by simpa [y3z] using yh5 s hsu X) ?_
    simp
    obtain ⟨e, he⟩ : ∃ e : Int, e = (if suE s ≠ 0 then suE s else if s.name ∈ N then 8 else 0) := ⟨_, rfl⟩
    refine AX.seq (AX.join (F1 := [(0, .fs (l.map y3z)), (5, w), (6, .i .i64 i), (7, .i .i64 e)]) (H1 := X) ?_ ?_)
    · by_cases h1 : suE s = 0
      · rw [if_neg (by simpa using h1)] at he
        refine AX.sr ?_
        simp [ya.r7, h1, hg, y3z]
        refine AC.fix (yk7 A s.name (by omega)) ?_
        simp [yf5]
        by_cases h2 : s.name ∈ N
        · rw [if_pos h2] at he
          simp [h2]
          refine AX.pcond rfl (fun _ => AX.reg ?_) (fun hh => by cases hh)
          simp [ya.r8, he, y3z]
        · rw [if_neg h2] at he
          simp [h2]
          refine AX.pcond rfl (fun hh => by cases hh) (fun _ => AX.skip ?_)
          simp [he, y3z]
      · rw [if_pos h1] at he
        refine AX.sr ?_
        simp [ya.r7, h1]
        refine AX.pcond rfl (fun hh => by cases hh) (fun _ => AX.skip ?_)
        simp [he, y3z]
    refine AX.seq (AX.seq (AX.reg ?_))
    simp [ya.r9]
    refine AX.pcond rfl (fun h3 => ?_) (fun h3 => AX.skip ?_)
    · simp at h3
      have hbad : ycs [] l = some (s.name, e) := by
        rw [hbd]
        by_cases h1 : suE s = 0
        · rw [if_neg (fun k => k h1)] at he ⊢
          by_cases h2 : s.name ∈ N
          · rw [if_pos h2] at he ⊢; rw [he]
          · rw [if_neg h2] at he; exact absurd he h3
        · rw [if_pos h1] at he ⊢; rw [he]
      rw [hbad] at hrs
      refine AX.seq (AX.drw ?_)
      simp [ya.r10, hg, y3z]
      refine AX.ret ?_
      simp [hrs]
      exact ⟨A.ext, yae (.sl0 _)⟩
    simp at h3
    have hstep : ycs [] l = ycs (N ++ [s.name]) (l.drop (i + 1)) := by
      rw [hbd]
      by_cases h1 : suE s = 0
      · rw [if_neg (fun k => k h1)] at he ⊢
        by_cases h2 : s.name ∈ N
        · rw [if_pos h2, h3] at he; cases he
        · rw [if_neg h2]
      · rw [if_pos h1, h3] at he; exact absurd he.symm h1
    obtain ⟨w2, X2, hA, A2, _⟩ := A.appK (bytes := 16) hlt [.s s.name] rfl (by decide) rfl (by simp [sc1, y86]; omega)
    simp
    refine AX.reg ?_
    simp [ya.r11, y8y, hg, y3z, hA, -y3m]
    refine AX.reg ?_
    simp [ya.r12, y2o (i := i) (by omega)]
    exact ⟨l.length - (i + 1), by omega, _, _, .refl _ _, i + 1, w2, by omega, rfl, by rw [htk]; exact hstep, by rw [htk]; simpa [sc1] using A2, by simp [y3z]⟩
  simp at hd
  rw [List.drop_eq_nil_of_le hd] at hbd
  simp only [ycs] at hbd
  rw [hbd] at hrs
  simp only at hrs
  have hok := chkAll hbd
  have hsz : ∀ s ∈ l, s.sys.objs.length ≤ 600 ∧ s.sys.fns.length ≤ 600 := fun s h => by
    have := ydd (yg6 (hok s h)).2.1; exact ⟨this.1, this.2.1⟩
  have hE := A.ext
  have hL := A.lt
  clear A
  simp
  refine AX.sr ?_
  simp [ya.r13]
  refine AX.sr ?_
  simp [ya.r14]
  refine AC.fix (Rall_ok l h8 hsz X) ?_
  simp
  have hns : (y3y (yb3 l)).length ≤ 9600 := by
    have h1 := y9d (yb3 l)
    have h2 := yd6 l hsz
    omega
  generalize y3y (yb3 l) = ns at *
  refine AX.seq (AX.seq (AX.reg ?_))
  simp [ya.r15]
  refine AX.pblock (AX.loop (RvI1 l H ns) ns.length ⟨_, _, .refl _ _, 0, .sl none 0 0, [], by omega, by omega, rfl, by simp, .nil 3 0 hE hL, by simp⟩ ?_)
  rintro m F Y ⟨k, w, L, hk, rfl, hrn, hLk, AL, rfl⟩
  simp only [ya.l1]
  refine AX.seq (AX.seq (AX.reg ?_))
  simp [ya.r16, ss]
  refine AX.pcond rfl (fun hd => AX.skip ?_) (fun hd => AX.exit ?_)
  · simp at hd
    have hg : ns[k]? = some ns[k] := List.getElem?_eq_getElem hd
    rw [List.drop_eq_getElem_cons hd, yil] at hrn
    generalize ns[k] = n at *
    have hone := Rone_ok l n h8 hs hok Y
    have hgn : y9j n (y63 l n) ≠ [] ↔ 0 < (gvs n (y63 l n)).length := by
      unfold y9j
      cases hh : (gvs n (y63 l n)).getLast? with
      | none => simp at hh; simp [hh]
      | some s =>
        have h1 := List.mem_of_getLast? hh
        have h2 := (List.mem_filter.1 h1).1
        have h3 := has_mem h2
        have h4 := (yg6 (hok _ h3)).1
        have : s.name ≠ [] := fun e => by rw [e] at h4; exact absurd h4 (by decide)
        simp [this]
        exact List.length_pos_of_mem h1
    simp
    refine AX.seq (AX.pblock (AX.seq (AX.reg ?_)))
    by_cases h3 : yex n (y63 l n) = 0
    · have hg1 : (gvs n (y63 l n)).length ≤ 1 := by
        unfold yex at h3
        split at h3
        · cases h3
        · omega
      rw [if_neg (by simpa using h3)] at hrn
      unfold oneV at hone
      rw [if_neg (by simpa using h3)] at hone
      simp [ya.r17, hg, ss]
      refine AC.fix hone ?_
      simp [ycn]
      have hEY : Y.Ext ((Y.add (.cells [.s [], .s [], .sl none 0 0] 3)).upd Y.next (.cells [.s (yao l n).name, .s (yao l n).giver, ss (yao l n).wanted] 3)) := y8j AL.lt _ _
      have hLY := lt2 AL.lt (.cells [.s [], .s [], .sl none 0 0] 3) (.cells [.s (yao l n).name, .s (yao l n).giver, ss (yao l n).wanted] 3)
      have hG : ((Y.add (.cells [.s [], .s [], .sl none 0 0] 3)).upd Y.next (.cells [.s (yao l n).name, .s (yao l n).giver, ss (yao l n).wanted] 3)).get Y.next = some (.cells [.s (yao l n).name, .s (yao l n).giver, ss (yao l n).wanted] 3) := by simp
      have AY := Acc.more AL hEY hLY
      generalize (Y.add (.cells [.s [], .s [], .sl none 0 0] 3)).upd Y.next (.cells [.s (yao l n).name, .s (yao l n).giver, ss (yao l n).wanted] 3) = Z at *
      generalize Y.next = a at *
      clear AL hone hEY hLY
      refine AX.seq (AX.seq (AX.reg ?_))
      simp [ya.r18]
      refine AX.pcond rfl (fun hh => by cases hh) (fun _ => AX.skip ?_)
      simp
      refine AX.sr ?_
      simp [ya.r20]
      refine AX.pcond rfl (fun h4 => ?_) (fun h4 => AX.skip ?_)
      · simp at h4
        rw [if_pos (hgn.2 (by omega))] at hrn
        obtain ⟨w2, Y5, hA, A5, keep⟩ := AY.appK (bytes := 56) hlt (ycn (yao l n)) rfl (by decide) (by simp [ycn, yao]) (by simp [y86]; omega)
        have hA' : y3m Z 3 56 w (.fs [[.s (yao l n).name, .s (yao l n).giver, ss (yao l n).wanted]]) = some (w2, Y5) := hA
        refine AX.reg ?_
        simp [ya.r21, y8y, hG, hA', -y3m]
        refine AX.reg ?_
        simp [ya.r22, y2o (i := k) (by omega)]
        exact ⟨ns.length - (k + 1), by omega, _, _, .refl _ _, k + 1, w2, L ++ [yao l n], by omega, rfl, hrn, by simp; omega, by simpa using A5, by simp [ss]⟩
      · simp at h4
        rw [if_neg (fun h => by have := hgn.1 h; omega)] at hrn
        simp
        refine AX.reg ?_
        simp [ya.r22, y2o (i := k) (by omega)]
        exact ⟨ns.length - (k + 1), by omega, _, _, .refl _ _, k + 1, w, L, by omega, rfl, hrn, by omega, AY, by simp [ss]⟩
    · rw [if_pos h3] at hrn
      unfold oneV at hone
      rw [if_pos h3] at hone
      simp [ya.r17, hg, ss]
      refine AC.fix hone ?_
      simp [ycn]
      have hEY : ∀ b, Y.Ext ((Y.add (.cells [.s [], .s [], .sl none 0 0] 3)).upd Y.next b) := fun b => y8j AL.lt _ _
      refine AX.seq (AX.seq (AX.reg ?_))
      simp [ya.r18]
      refine AX.pcond rfl (fun _ => ?_) (fun hh => by simp at hh; exact absurd hh h3)
      refine AX.seq (AX.drw ?_)
      simp [ya.r19, hg, ss]
      refine AX.ret ?_
      rw [hrs, hrn]
      simp
      exact ⟨AL.ext.trans (hEY _), yae (.sl0 _)⟩
  simp at hd
  rw [List.drop_eq_nil_of_le hd] at hrn
  simp only [yf0] at hrn
  simp
  refine AX.sr ?_
  simp [ya.r23]
  refine AX.ret ?_
  rw [hrs, hrn]
  simp
  exact ⟨AL.ext, yae AL.frz⟩
end Go.Proofs.YtjajpilacdfnbaaGreatDoor
namespace Go.Proofs.YtjajpilacdfnbaaGreatDoor
open Am C
set_option linter.unusedSimpArgs false
set_option linter.unusedVariables false
def LrI (L : List Sm) (H : Hp) (m : Nat) (F : Fr) (X : Hp) : Prop :=
  ∃ i, i ≤ L.length ∧ m = L.length - i ∧ X = H ∧ F = [(3, smV L), (6, smV L), (9, .i .i64 i)]
set_option maxHeartbeats 1000000 in
theorem yci (l : List Su) (hl : l.length ≤ 140737488355328) (hs : ∀ s ∈ l, suZ s) (H : Hp) : AC Tryz.prog y5a [.fs (l.map y3z)] H (fun v H' => v = .b true ∧ H' = H) := by
  refine AC.code yg.at yg.ok ?_
  simp only [yg]
  refine AX.sr ?_
  simp [yg.r0]
  refine AX.seq (AX.seq (AX.reg ?_))
  simp [yg.r1]
  refine (yic l hl hs H).mono ?_
  rintro _ _ ⟨⟨b, rfl, hb⟩, rfl⟩
  simp
  refine AX.pcond rfl (fun h => AX.seq (AX.reg ?_)) (fun h => AX.skip ?_)
  · simp [yg.r2]
    refine AX.ret ?_
    simp
  obtain ⟨h12, hS⟩ := hb h
  have hr1 := ycj l (by show l.length ≤ 9223372036854775807; omega) hS
  have hr2 := yi8 l hS (by show l.length ≤ 9223372036854775807; omega)
  have hln := (yli l).1
  have hwl := (yli l).2
  generalize yf1 l = r at *
  obtain ⟨L, n, e⟩ := r
  simp
  refine AX.sr ?_
  simp [yg.r3]
  refine AC.fix (hr1 _) ?_
  simp [rsV]
  refine AX.sr ?_
  simp [yg.r4]
  refine AC.fix (hr2 _) ?_
  simp [rsV]
  refine AX.seq (AX.seq (AX.reg ?_))
  simp [yg.r5, smV]
  refine AX.pcond rfl (fun h => by cases h) (fun _ => AX.skip ?_)
  simp
  refine AX.seq (AX.seq (AX.reg ?_))
  simp [yg.r7]
  refine AX.pblock (AX.loop (LrI L _) L.length ⟨_, _, .refl _ _, 0, by omega, by omega, rfl, by simp [smV]⟩ ?_)
  rintro m F X ⟨i, hi, rfl, rfl, rfl⟩
  simp only [yg.l0]
  refine AX.seq (AX.seq (AX.join (F1 := [(3, smV L), (6, smV L), (9, .i .i64 i), (48, .b (decide (i < L.length)))]) (H1 := X) (AX.reg ?_) ?_))
  · by_cases hd : i < L.length
    · simp [yg.r8, smV, hd]
    · simp [yg.r8, smV, hd]
  refine AX.pcond rfl (fun hd => AX.skip ?_) (fun hd => AX.exit ?_)
  · simp at hd
    have hg : L[i]? = some L[i] := List.getElem?_eq_getElem hd
    have hwl := hwl _ (List.getElem_mem hd)
    generalize L[i] = x at *
    simp
    refine AX.seq (AX.pblock (AX.seq (AX.drw ?_)))
    simp [yg.r9, hg, smV, ycn]
    refine y3k _ (fun H2 => ynm x.wanted x.wanted (by show x.wanted.length ≤ 9223372036854775807; omega) H2) ?_
    simp
    refine AX.pcond rfl (fun h => by cases h) (fun _ => AX.skip ?_)
    simp
    refine AX.reg ?_
    simp [yg.r11, y2o (i := i) (by simp at hln; omega)]
    exact ⟨L.length - (i + 1), by omega, _, _, .refl _ _, i + 1, by omega, rfl, rfl, by simp [smV, ycn]⟩
  simp
  refine AX.sr ?_
  simp [yg.r12]
  refine AC.fix (works_ok _) ?_
  simp
  refine AX.ret ?_
  simp
end Go.Proofs.YtjajpilacdfnbaaGreatDoor
namespace Go.Proofs.YtjajpilacdfnbaaGreatDoor
open Am C Go.Proofs
set_option linter.unusedSimpArgs false
set_option linter.unusedVariables false
theorem yby (us : List V) (h : ArgsZ [.sl TSu] us) : AC Tryz.prog y5a us Hp.none (fun r _ => r = .b true) := by
  obtain ⟨l, rfl, h1, h2⟩ := symArg us h
  exact (yci l h1 h2 _).mono fun v H' h => h.1
end Go.Proofs.YtjajpilacdfnbaaGreatDoor
