/- Part 30 of the proof of the laws of the queries: Thg2, Syb, RsvM, FrzM. -/
import Derived.Test.YtjajpilacdfnbaaGreatDoorX18
import Derived.Test.YtjajpilacdfnbaaGreatDoorX19
import Derived.Test.YtjajpilacdfnbaaGreatDoorX25
import Derived.Test.YtjajpilacdfnbaaGreatDoorX26
import Derived.Test.YtjajpilacdfnbaaGreatDoorX29
namespace Go.Proofs.YtjajpilacdfnbaaGreatDoor
open Am C
set_option linter.unusedSimpArgs false
set_option linter.unusedVariables false
theorem Am.AC.wlt {P : Go.Program} {f : Go.FuncId} {args : List V} {H : Hp} {R : V → Hp → Prop} (hok : yly P f = true) (h : (∀ id blk, H.get id = some blk → id < H.next) → AC P f args H R) : AC P f args H R := ⟨hok, fun κ cs S r => (h S.lt).2 κ cs S r⟩
def pL : Nat → List Su → List (Nat × Th)
  | _, [] => []
  | i, s :: r => (ybi s.sys).map (fun t => (i, t)) ++ pL (i + 1) r
theorem ygi : ∀ (i : Nat) (a b : List Su), pL i (a ++ b) = pL i a ++ pL (i + a.length) b
  | i, [], b => by simp [pL]
  | i, s :: r, b => by
    simp only [List.cons_append, pL, ygi (i + 1) r b, List.append_assoc, List.length_cons]
    rw [show i + 1 + r.length = i + (r.length + 1) by omega]
theorem pL_take {l : List Su} {i : Nat} (h : i < l.length) : pL 0 (l.take (i + 1)) = pL 0 (l.take i) ++ (l[i].sys.objs.map fun o => (i, Sum.inl o)) ++ l[i].sys.fns.map fun f => (i, Sum.inr f) := by
  rw [List.take_add_one, List.getElem?_eq_getElem h, ygi]
  simp [pL, ybi, Nat.min_eq_left (Nat.le_of_lt h), Function.comp_def]
theorem ylt : ∀ (i : Nat) (l : List Su), (∀ s ∈ l, s.sys.objs.length ≤ 600 ∧ s.sys.fns.length ≤ 600) → (pL i l).length ≤ 1200 * l.length
  | _, [], _ => by simp [pL]
  | i, s :: r, h => by
    have h1 := h s (by simp)
    have h2 := ylt (i + 1) r fun x hx => h x (by simp [hx])
    simp only [pL, ybi, List.length_append, List.length_map, List.length_cons]
    omega
def TgI0 (l : List Su) (H0 : Hp) (mid : Nat) (m : Nat) (F : Fr) (X : Hp) : Prop :=
  ∃ i es, i ≤ l.length ∧ m = l.length - i ∧ GM H0 X mid es (pL 0 (l.take i)) ∧ F = [(3, .mp (some mid)), (11, .fs (l.map y3z)), (12, .i .i64 l.length), (13, .i .i64 i)]
def TgI1 (l : List Su) (s : Su) (i sid : Nat) (P : List (Nat × Th)) (H0 : Hp) (mid : Nat) (m : Nat) (F : Fr) (X : Hp) : Prop :=
  ∃ k es, k ≤ s.sys.objs.length ∧ m = s.sys.objs.length - k ∧ GM H0 X mid es (P ++ (s.sys.objs.take k).map fun o => (i, .inl o)) ∧ X.get sid = some (.cells (y3z s) 7) ∧ Off es sid ∧
    F = [(3, .mp (some mid)), (4, .i .i64 i), (5, .p (some (sid, 0, 7))), (11, .fs (l.map y3z)), (12, .i .i64 l.length), (13, .i .i64 i), (20, .fs (s.sys.objs.map y49)), (21, .i .i64 s.sys.objs.length), (22, .i .i64 k)]
def TgI2 (l : List Su) (s : Su) (i : Nat) (P : List (Nat × Th)) (H0 : Hp) (mid : Nat) (m : Nat) (F : Fr) (X : Hp) : Prop :=
  ∃ k es, k ≤ s.sys.fns.length ∧ m = s.sys.fns.length - k ∧ GM H0 X mid es (P ++ (s.sys.fns.take k).map fun o => (i, .inr o)) ∧
    F = [(3, .mp (some mid)), (4, .i .i64 i), (11, .fs (l.map y3z)), (12, .i .i64 l.length), (13, .i .i64 i), (43, .fs (s.sys.fns.map y6i)), (44, .i .i64 s.sys.fns.length), (45, .i .i64 k)]
set_option maxHeartbeats 1000000 in
theorem yl6 (l : List Su) (hl : l.length ≤ 100) (hs : ∀ s ∈ l, s.sys.objs.length ≤ 600 ∧ s.sys.fns.length ≤ 600) (H : Hp) :
    AC Tryz.prog y89 [.fs (l.map y3z)] H (fun v H' => ∃ mid es, v = .mp (some mid) ∧ GM H H' mid es (pL 0 l)) := by
  refine AC.wlt (by kernel_rfl) fun hlt => AC.code yq.at yq.ok ?_
  simp only [yq]
  refine AX.sr ?_
  simp [yq.r0]
  refine AX.sr ?_
  simp [yq.r1]
  have G0 : GM H (H.add (.obj (.map []))) H.next [] [] := ⟨by simp, Hp.Ext.add hlt _, Hp.add_lt hlt _, Nat.le_refl _, by simp, by simp, by simp, by simp⟩
  generalize H.add (.obj (.map [])) = X0 at *
  generalize H.next = mid at G0 ⊢
  refine AX.seq (AX.seq (AX.reg ?_))
  simp [yq.r2]
  refine AX.pblock (AX.loop (TgI0 l H mid) l.length ⟨_, _, .refl _ _, 0, [], by omega, by omega, by simpa [pL] using G0, rfl⟩ ?_)
  rintro m F X ⟨i, es, hi, rfl, G, rfl⟩
  simp only [yq.l0]
  refine AX.sr ?_
  simp [yq.r3]
  refine AX.seq (AX.pcond rfl (fun hd => AX.skip ?_) (fun hd => AX.exit ?_))
  case refine_2 =>
    simp at hd
    rw [List.take_of_length_le hd] at G
    simp
    refine AX.sr ?_
    simp [yq.r16]
    refine AX.ret ?_
    simp
    exact ⟨es, G⟩
  simp at hd
  have hg : l[i]? = some l[i] := List.getElem?_eq_getElem hd
  have hsz := hs _ (List.getElem_mem hd)
  have hpt := pL_take hd
  have hpl := ylt 0 (l.take i) fun s h => hs s (List.mem_of_mem_take h)
  have hplb : (pL 0 (l.take i)).length ≤ 120000 := by simp at hpl; omega
  generalize l[i] = s at *
  generalize pL 0 (l.take i) = P at *
  simp
  refine AX.seq (AX.pblock (AX.seq (AX.reg ?_)))
  simp [yq.r4, hg, y3z]
  have G1 := G.more (y8j G.lt (.cells [.s [], .sl none 0 0, .sl none 0 0, .sl none 0 0, .sl none 0 0, .sl none 0 0, .sl none 0 0] 7) (.cells [.s s.name, ss s.gives, ss s.wants, ss s.keeps, .fs (s.sys.objs.map y49), .fs (s.sys.fns.map y6i), .fs (s.sys.cons.map y4l)] 7))
    (lt2 G.lt (.cells [.s [], .sl none 0 0, .sl none 0 0, .sl none 0 0, .sl none 0 0, .sl none 0 0, .sl none 0 0] 7) (.cells [.s s.name, ss s.gives, ss s.wants, ss s.keeps, .fs (s.sys.objs.map y49), .fs (s.sys.fns.map y6i), .fs (s.sys.cons.map y4l)] 7))
  have hsid : ((X.add (.cells [.s [], .sl none 0 0, .sl none 0 0, .sl none 0 0, .sl none 0 0, .sl none 0 0, .sl none 0 0] 7)).upd X.next (.cells [.s s.name, ss s.gives, ss s.wants, ss s.keeps, .fs (s.sys.objs.map y49), .fs (s.sys.fns.map y6i), .fs (s.sys.cons.map y4l)] 7)).get X.next = some (.cells (y3z s) 7) := by simp [y3z]
  have hoff : Off es X.next := G.off (by cases hh : X.get X.next with | none => rfl | some b => have := G.lt _ _ hh; omega)
  generalize (X.add (.cells [.s [], .sl none 0 0, .sl none 0 0, .sl none 0 0, .sl none 0 0, .sl none 0 0, .sl none 0 0] 7)).upd X.next (.cells [.s s.name, ss s.gives, ss s.wants, ss s.keeps, .fs (s.sys.objs.map y49), .fs (s.sys.fns.map y6i), .fs (s.sys.cons.map y4l)] 7) = Y at *
  generalize X.next = sid at *
  refine AX.seq (AX.seq (AX.reg ?_))
  simp [yq.r5, hsid, y3z]
  refine AX.pblock (AX.loop (TgI1 l s i sid P H mid) s.sys.objs.length ⟨_, _, .refl _ _, 0, es, by omega, by omega, by simpa using G1, hsid, hoff, by simp [y3z]⟩ ?_)
  rintro m F Z ⟨k, es2, hk, rfl, G2, hsid2, hoff2, rfl⟩
  simp only [yq.l1]
  refine AX.sr ?_
  simp [yq.r6]
  refine AX.seq (AX.pcond rfl (fun he => AX.skip ?_) (fun he => AX.exit ?_))
  · simp at he
    have hg2 : s.sys.objs[k]? = some s.sys.objs[k] := List.getElem?_eq_getElem he
    have htk : P ++ (s.sys.objs.take (k + 1)).map (fun o => (i, Sum.inl o)) = (P ++ (s.sys.objs.take k).map fun o => (i, Sum.inl o)) ++ [(i, .inl s.sys.objs[k])] := by
      rw [List.take_add_one, hg2, List.map_append, ← List.append_assoc]; rfl
    generalize s.sys.objs[k] = o at *
    simp
    refine AX.seq (AX.pblock (AX.seq (AX.reg ?_)))
    simp [yq.r7, hg2, y49]
    have G3 := G2.more (y8j G2.lt (.cells [.s [], .s [], .sl none 0 0] 3) (.cells [.s o.name, .s o.kinds, .fs (o.marks.map y7b)] 3)) (lt2 G2.lt (.cells [.s [], .s [], .sl none 0 0] 3) (.cells [.s o.name, .s o.kinds, .fs (o.marks.map y7b)] 3))
    have hoid : ((Z.add (.cells [.s [], .s [], .sl none 0 0] 3)).upd Z.next (.cells [.s o.name, .s o.kinds, .fs (o.marks.map y7b)] 3)).get Z.next = some (.cells [.s o.name, .s o.kinds, .fs (o.marks.map y7b)] 3) := by simp
    have hsid3 : ((Z.add (.cells [.s [], .s [], .sl none 0 0] 3)).upd Z.next (.cells [.s o.name, .s o.kinds, .fs (o.marks.map y7b)] 3)).get sid = some (.cells (y3z s) 7) := by
      have := G2.lt _ _ hsid2; simp [show sid ≠ Z.next by omega, hsid2]
    have hoff3 : Off es2 Z.next := G2.off (by cases hh : Z.get Z.next with | none => rfl | some b => have := G2.lt _ _ hh; omega)
    generalize (Z.add (.cells [.s [], .s [], .sl none 0 0] 3)).upd Z.next (.cells [.s o.name, .s o.kinds, .fs (o.marks.map y7b)] 3) = W at *
    generalize Z.next = oid at *
    obtain ⟨v2, X2, hA, hM, G4, keep⟩ := G3.push hlt (i, .inl o) (by simp; omega)
    obtain ⟨c1, c2, _⟩ := keep _ _ _ hoid hoff3
    obtain ⟨d1, d2, d3⟩ := keep _ _ _ hsid3 hoff2
    simp only [thN, thV, y49] at hA hM G4 d3
    have hmp := G3.map
    refine AX.drw ?_
    simp [yq.r8, hoid, hmp, y8y, hA, hM, c1, -y3m]
    refine AX.reg ?_
    simp [yq.r9, y2o (i := k) (by omega)]
    refine ⟨s.sys.objs.length - (k + 1), by omega, _, _, .refl _ _, k + 1, _, by omega, rfl, ?_, ?_, d3, by simp⟩
    · rw [htk]; exact G4
    · simp [d2, d1]
  simp at he
  rw [List.take_of_length_le he] at G2
  simp
  have hpb : (P ++ s.sys.objs.map fun o => (i, (Sum.inl o : Th))).length ≤ 121000 := by simp; omega
  generalize hP2 : (P ++ s.sys.objs.map fun o => (i, (Sum.inl o : Th))) = P2 at *
  refine AX.sr ?_
  simp [yq.r10, hsid2, y3z]
  refine AX.pblock (AX.loop (TgI2 l s i P2 H mid) s.sys.fns.length ⟨_, _, .refl _ _, 0, es2, by omega, by omega, by simpa using G2, by simp [y3z]⟩ ?_)
  rintro m F Z2 ⟨j, es3, hj, rfl, G5, rfl⟩
  simp only [yq.l2]
  refine AX.sr ?_
  simp [yq.r11]
  refine AX.seq (AX.pcond rfl (fun hf => AX.skip ?_) (fun hf => AX.exit ?_))
  · simp at hf
    have hg2 : s.sys.fns[j]? = some s.sys.fns[j] := List.getElem?_eq_getElem hf
    have htk : P2 ++ (s.sys.fns.take (j + 1)).map (fun o => (i, Sum.inr o)) = (P2 ++ (s.sys.fns.take j).map fun o => (i, Sum.inr o)) ++ [(i, .inr s.sys.fns[j])] := by
      rw [List.take_add_one, hg2, List.map_append, ← List.append_assoc]; rfl
    generalize s.sys.fns[j] = o at *
    simp
    refine AX.seq (AX.pblock (AX.seq (AX.reg ?_)))
    simp [yq.r12, hg2, y6i]
    have G6 := G5.more (y8j G5.lt (.cells [.s [], .s [], .s []] 3) (.cells [.s o.name, .s o.kinds, .s o.ret] 3)) (lt2 G5.lt (.cells [.s [], .s [], .s []] 3) (.cells [.s o.name, .s o.kinds, .s o.ret] 3))
    have hoid : ((Z2.add (.cells [.s [], .s [], .s []] 3)).upd Z2.next (.cells [.s o.name, .s o.kinds, .s o.ret] 3)).get Z2.next = some (.cells [.s o.name, .s o.kinds, .s o.ret] 3) := by simp
    have hoff3 : Off es3 Z2.next := G5.off (by cases hh : Z2.get Z2.next with | none => rfl | some b => have := G5.lt _ _ hh; omega)
    generalize (Z2.add (.cells [.s [], .s [], .s []] 3)).upd Z2.next (.cells [.s o.name, .s o.kinds, .s o.ret] 3) = W at *
    generalize Z2.next = oid at *
    obtain ⟨v2, X2, hA, hM, G7, keep⟩ := G6.push hlt (i, .inr o) (by simp; omega)
    obtain ⟨c1, c2, _⟩ := keep _ _ _ hoid hoff3
    simp only [thN, thV, y6i] at hA hM G7
    have hmp := G6.map
    refine AX.drw ?_
    simp [yq.r13, hoid, hmp, y8y, hA, hM, c1, -y3m]
    refine AX.reg ?_
    simp [yq.r14, y2o (i := j) (by omega)]
    refine ⟨s.sys.fns.length - (j + 1), by omega, _, _, .refl _ _, j + 1, yf8 es3 o.name v2, by omega, rfl, ?_, by simp⟩
    rw [htk]; exact G7
  simp at hf
  rw [List.take_of_length_le hf, ← hpt] at G5
  simp
  refine AX.reg ?_
  simp [yq.r15, y2o (i := i) (by omega)]
  exact ⟨l.length - (i + 1), by omega, _, _, .refl _ _, i + 1, _, by omega, rfl, G5, by simp⟩
end Go.Proofs.YtjajpilacdfnbaaGreatDoor
namespace Go.Proofs.YtjajpilacdfnbaaGreatDoor
open Am C
set_option linter.unusedSimpArgs false
set_option linter.unusedVariables false
def su0 : Su := ⟨[], [], [], [], ⟨[], [], []⟩⟩
def tX (l : List Su) (T : List (Nat × Th)) : List (Su × Th) := T.map fun q => (l.getD q.1 su0, q.2)
def pT (T : List (Nat × Th)) (q : Nat × Th) : Bool := match T with
  | [] => false
  | f :: _ => !decide (q.2 = f.2)
def thS : Th → Prop
  | .inl o => o.marks.length ≤ 9223372036854775807
  | .inr _ => True
theorem yfd (n : Str) (X : List (Su × Th)) (p : Su × Th) : gvs n (X ++ [p]) = gvs n X ++ if gvB n p.1 then [p.1] else [] := by
  unfold gvs; rw [List.map_append, List.filter_append]; by_cases h : gvB n p.1 = true <;> simp [h]
theorem yev (n : Str) (X : List (Su × Th)) (p : Su × Th) : wns n (X ++ [p]) = wns n X ++ if wnB n p.1 then [p.1] else [] := by
  unfold wns; rw [List.map_append, List.filter_append]; by_cases h : wnB n p.1 = true <;> simp [h]
theorem yf4 (n : Str) (X : List (Su × Th)) (p : Su × Th) : ows n (X ++ [p]) = ows n X ++ if owB n p.1 then [p.1] else [] := by
  unfold ows; rw [List.map_append, List.filter_append]; by_cases h : owB n p.1 = true <;> simp [h]
theorem yff (n : Str) (X : List (Su × Th)) (p : Su × Th) : y9j n (X ++ [p]) = if gvB n p.1 then p.1.name else y9j n X := by
  unfold y9j; rw [yfd]; by_cases h : gvB n p.1 = true <;> simp [h]
theorem tX_take {l : List Su} {T : List (Nat × Th)} {k : Nat} (h : k < T.length) : tX l (T.take (k + 1)) = tX l (T.take k) ++ [(l.getD T[k].1 su0, T[k].2)] := by
  unfold tX; rw [List.take_add_one, List.getElem?_eq_getElem h, List.map_append]; rfl
theorem yc8 (n : Str) (X : List (Su × Th)) : (gvs n X).length ≤ X.length ∧ (ows n X).length ≤ X.length ∧ (wns n X).length ≤ X.length := by
  refine ⟨?_, ?_, ?_⟩ <;> exact Nat.le_trans (List.length_filter_le _ _) (by simp)
theorem symb1_ok (q f : Nat × Th) (r : List (Nat × Th)) (hq : thS q.2) (hf : thS f.2) (id : Nat) (H : Hp) (hb : H.get id = some (.cells [.fs ((f :: r).map thV)] 1)) :
    AC Tryz.prog y5i [.agg (thV q), .p (some (id, 0, 1))] H (fun v H' => v = .b (!decide (q.2 = f.2)) ∧ H' = H) := by
  have hsame : ∀ H2, AC Tryz.prog y8e [.agg (thV q).tail, .agg (thV f).tail] H2 (fun v H' => v = .b (decide (q.2 = f.2)) ∧ H' = H2) := fun H2 => by
    obtain ⟨i, t⟩ := q
    obtain ⟨j, u⟩ := f
    cases t with
    | inl o =>
      cases u with
      | inl o' => have := yd8 [o] [o'] [] [] (by simp) (by simp) (by simpa [thS] using hq) (by simpa [thS] using hf) (by simp) (by simp) H2; simpa [thV] using this
      | inr g => have := yd8 [o] [] [] [g] (by simp) (by simp) (by simpa [thS] using hq) (by simp) (by simp) (by simp) H2; simpa [thV] using this
    | inr g =>
      cases u with
      | inl o' => have := yd8 [] [o'] [g] [] (by simp) (by simp) (by simp) (by simpa [thS] using hf) (by simp) (by simp) H2; simpa [thV] using this
      | inr g' => have := yd8 [] [] [g] [g'] (by simp) (by simp) (by simp) (by simp) (by simp) (by simp) H2; simpa [thV] using this
  refine AC.code y31.at y31.ok ?_
  simp only [y31]
  have c1 := yew q
  have l1 := ya6 q
  have l2 := ya6 f
  have k1 : ∀ v ∈ thV q, y5l v = true := List.all_eq_true.1 c1
  refine AX.sr ?_
  simp [y31.r0, -y5l]
  rw [if_pos k1]
  simp
  have t1 : List.take 3 (thV q).tail = (thV q).tail := List.take_of_length_le (by simp [l1])
  have t2 : List.take 3 (thV f).tail = (thV f).tail := List.take_of_length_le (by simp [l2])
  refine AX.seq (AX.drw ?_)
  simp [y31.r1, hb, l1, l2, t1, t2]
  refine y3k _ (fun H2 => hsame H2) ?_
  simp
  refine AX.ret ?_
  simp
theorem idxTh.ok : y23 Tryz.prog Tryz.f84 (yav 4 true) = true := by kernel_rfl
theorem conTh.ok : y23 Tryz.prog Tryz.f44 (yke y3o) = true := by kernel_rfl
theorem conTh_ok (l : List (Nat × Th)) (f : Go.FuncId) (caps : List V) (p : Nat × Th → Bool) (hl : l.length ≤ 9223372036854775807) (H : Hp) (hc : ∀ x ∈ l, AC Tryz.prog f (.agg (thV x) :: caps) H (fun v H' => v = .b (p x) ∧ H' = H)) :
    AC Tryz.prog y2n [.fs (l.map thV), .fn f caps] H (fun v H' => v = .b (l.any p) ∧ H' = H) :=
  yfn y2a.at conTh.ok (yfb yr.at idxTh.ok l thV (fun x _ => ya6 x) (fun h => by cases h) f caps p hl H hc)
def yla (n : Str) (l : List Su) (T : List (Nat × Th)) : Int :=
  if 1 < (gvs n (tX l T)).length ∨ (0 < (ows n (tX l T)).length ∧ 1 < T.length) then 8 else if T.any (pT T) then 12 else if wns n (tX l T) ≠ [] ∧ gvs n (tX l T) = [] then 7 else 0
structure SyH (H Y : Hp) (i5 i6 i8 : Nat) (all : V) (n g : Str) (w : V) (names : List Str) : Prop where
  acc : Acc H 1 w Y (sc1 names)
  g5 : Y.get i5 = some (.cells [all] 1)
  g6 : Y.get i6 = some (.cells [.s [], .s [], .sl none 0 0] 3)
  g8 : Y.get i8 = some (.cells [.s n, .s g, w] 3)
  s5 : yd7 w i5
  s6 : yd7 w i6
  s8 : yd7 w i8
  n5 : i5 ≠ i8
  n6 : i6 ≠ i8
  h8 : H.next ≤ i8
  h6 : H.next ≤ i6
theorem SyH.more {H Y Z : Hp} {i5 i6 i8 : Nat} {all w : V} {n g : Str} {names : List Str} (S : SyH H Y i5 i6 i8 all n g w names) (e : Y.Ext Z) (hl : ∀ id blk, Z.get id = some blk → id < Z.next) : SyH H Z i5 i6 i8 all n g w names :=
  ⟨S.acc.more e hl, e.2 _ _ S.g5, e.2 _ _ S.g6, e.2 _ _ S.g8, S.s5, S.s6, S.s8, S.n5, S.n6, S.h8, S.h6⟩
theorem Acc.updOut {H X : Hp} {sz : Nat} {v : V} {es : List (List V)} (A : Acc H sz v X es) (hl : ∀ id blk, H.get id = some blk → id < H.next) {id : Nat} {blk : Blk} (hg : X.get id = some blk) (hs : yd7 v id) (hi : H.next ≤ id) (b : Blk) : Acc H sz v (X.upd id b) es :=
  ⟨A.ext.upd hl hi _, Hp.upd_lt A.lt (A.lt _ _ hg) _, A.all, A.sl.imp (fun h => h) fun ⟨k, m, a, hv, c, d⟩ => ⟨k, m, a, hv, by
    subst hv
    have : k ≠ id := hs
    simp [this, c], d⟩⟩
theorem SyH.giver {H Y : Hp} {i5 i6 i8 : Nat} {all w : V} {n g : Str} {names : List Str} (S : SyH H Y i5 i6 i8 all n g w names) (hl : ∀ id blk, H.get id = some blk → id < H.next) (g' : Str) : SyH H (Y.upd i8 (.cells [.s n, .s g', w] 3)) i5 i6 i8 all n g' w names :=
  ⟨Acc.updOut S.acc hl S.g8 S.s8 S.h8 _, by simp [S.n5, S.g5], by simp [S.n6, S.g6], by simp, S.s5, S.s6, S.s8, S.n5, S.n6, S.h8, S.h6⟩
theorem SyH.wanted {H Y : Hp} {i5 i6 i8 : Nat} {all w : V} {n g : Str} {names : List Str} (S : SyH H Y i5 i6 i8 all n g w names) (hl : ∀ id blk, H.get id = some blk → id < H.next) (x : Str) (hb : names.length ≤ 1000000) :
    ∃ w2 Y2, y3m Y 1 16 w (.fs [[.s x]]) = some (w2, Y2) ∧ Y2.get i8 = some (.cells [.s n, .s g, w] 3) ∧ SyH H (Y2.upd i8 (.cells [.s n, .s g, w2] 3)) i5 i6 i8 all n g w2 (names ++ [x]) ∧ (∀ a cs m, Y.get a = some (.cells cs m) → yd7 w a → Y2.get a = some (.cells cs m)) := by
  obtain ⟨w2, Y2, e, A2, k⟩ := S.acc.appK (bytes := 16) hl [.s x] rfl (by decide) rfl (by simp [sc1, y86]; omega)
  obtain ⟨a5, b5⟩ := k _ _ S.g5 S.s5
  obtain ⟨a6, b6⟩ := k _ _ S.g6 S.s6
  obtain ⟨a8, b8⟩ := k _ _ S.g8 S.s8
  have A3 : Acc H 1 w2 Y2 (sc1 (names ++ [x])) := by simpa [sc1] using A2
  exact ⟨w2, Y2, e, a8, ⟨Acc.updOut A3 hl a8 b8 S.h8 _, by simp [S.n5, a5], by simp [S.n6, a6], by simp, b5, b6, b8, S.n5, S.n6, S.h8, S.h6⟩, fun a cs m h hs => (k a _ h hs).1⟩
def SybInv (l : List Su) (n : Str) (T : List (Nat × Th)) (H : Hp) (i5 i6 i8 : Nat) (m : Nat) (F : Fr) (Y : Hp) : Prop :=
  ∃ k w, k ≤ T.length ∧ m = T.length - k ∧ SyH H Y i5 i6 i8 (.fs (T.map thV)) n (y9j n (tX l (T.take k))) w ((wns n (tX l (T.take k))).map Su.name) ∧
    F = [(0, .fs (l.map y3z)), (1, .s n), (5, .p (some (i5, 0, 1))), (6, .p (some (i6, 0, 3))), (8, .p (some (i8, 0, 3))), (9, .i .i64 (gvs n (tX l (T.take k))).length), (10, .i .i64 (ows n (tX l (T.take k))).length), (16, .fs (T.map thV)), (17, .i .i64 T.length), (18, .i .i64 k)]
set_option maxHeartbeats 2000000 in
theorem yl9 (l : List Su) (n : Str) (T : List (Nat × Th)) (hl : l.length ≤ 100) (hT : T.length ≤ 1000) (hi : ∀ q ∈ T, q.1 < l.length) (hs : ∀ s ∈ l, s.gives.length ≤ 9223372036854775807 ∧ s.wants.length ≤ 9223372036854775807) (ht : ∀ q ∈ T, thS q.2) (H : Hp) :
    AC Tryz.prog y8a [.fs (l.map y3z), .s n, .fs (T.map thV)] H (fun v H' => v = .tup [.agg (ycn ⟨n, y9j n (tX l T), y9n n (tX l T)⟩), .i .i64 (yla n l T)] ∧ H' = H) := by
  refine AC.codeP yh.at yh.ok (by simp [ycn]) fun hlt => ?_
  simp only [yh]
  refine AX.sr ?_
  simp [yh.r0]
  refine AX.sr ?_
  simp [yh.r1]
  refine AX.sr ?_
  simp [yh.r2]
  have S0 : SyH H ((((H.add (.cells [.fs (T.map thV)] 1)).add (.cells [.s [], .s [], .sl none 0 0] 3)).add (.cells [.s [], .s [], .sl none 0 0] 3)).upd (H.next + 1 + 1) (.cells [.s n, .s [], .sl none 0 0] 3)) H.next (H.next + 1) (H.next + 1 + 1) (.fs (T.map thV)) n [] (.sl none 0 0) [] := by
    have e1 := Hp.Ext.add hlt (.cells [.fs (T.map thV)] 1)
    have l1 := Hp.add_lt hlt (.cells [.fs (T.map thV)] 1)
    have e2 := e1.trans (Hp.Ext.add l1 (.cells [.s [], .s [], .sl none 0 0] 3))
    have l2 := Hp.add_lt l1 (.cells [.s [], .s [], .sl none 0 0] 3)
    have e3 := e2.trans (Hp.Ext.add l2 (.cells [.s [], .s [], .sl none 0 0] 3))
    have l3 := Hp.add_lt l2 (.cells [.s [], .s [], .sl none 0 0] 3)
    exact ⟨.nil 1 0 (e3.upd hlt (by omega) _) (Hp.upd_lt l3 (by simp) _), by simp [show ¬ H.next = H.next + 1 + 1 by omega], by simp, by simp, trivial, trivial, trivial, by omega, by omega, by omega, by omega⟩
  generalize (((H.add (.cells [.fs (T.map thV)] 1)).add (.cells [.s [], .s [], .sl none 0 0] 3)).add (.cells [.s [], .s [], .sl none 0 0] 3)).upd (H.next + 1 + 1) (.cells [.s n, .s [], .sl none 0 0] 3) = X at *
  generalize hi8 : H.next + 1 + 1 = i8 at *
  generalize hi6 : H.next + 1 = i6 at *
  obtain ⟨i5, hi5⟩ : ∃ i5, i5 = H.next := ⟨_, rfl⟩
  rw [← hi5] at S0
  rw [show (5, V.p (some (H.next, 0, 1))) = (5, V.p (some (i5, 0, 1))) by rw [hi5]]
  refine AX.seq (AX.seq (AX.reg ?_))
  simp [yh.r3, S0.g5]
  refine AX.pblock (AX.loop (SybInv l n T H i5 i6 i8) T.length ⟨_, _, .refl _ _, 0, _, by omega, by omega, by simpa [tX, y9j, gvs, wns] using S0, by simp [tX, gvs, ows]⟩ ?_)
  rintro m F Y ⟨k, w, hk, rfl, S, rfl⟩
  simp only [yh.l0]
  refine AX.sr ?_
  simp [yh.r4]
  refine AX.seq (AX.pcond rfl (fun hd => AX.skip ?_) (fun hd => AX.exit ?_))
  · simp at hd
    have hg : T[k]? = some T[k] := List.getElem?_eq_getElem hd
    have hq := hi _ (List.getElem_mem hd)
    have htk := tX_take (l := l) hd
    have hgl : l[T[k].1]? = some l[T[k].1] := List.getElem?_eq_getElem hq
    have hsu := hs _ (List.getElem_mem hq)
    have hgd : l.getD T[k].1 su0 = l[T[k].1] := by simp [hq]
    rw [hgd] at htk
    have hl4 := ya6 T[k]
    have hc4 := yew T[k]
    have hfst : ∃ rest, thV T[k] = .i .i64 (T[k].1 : Nat) :: rest ∧ rest.length = 3 := by
      obtain ⟨i, t⟩ := T[k]
      cases t <;> exact ⟨_, rfl, rfl⟩
    generalize l[T[k].1] = s at *
    generalize T[k] = q at *
    obtain ⟨rest, hrest, hr3⟩ := hfst
    have hsub := yc8 n (tX l (T.take k))
    have htl : (tX l (T.take k)).length = k := by simp [tX, Nat.min_eq_left (Nat.le_of_lt hd)]
    have hgv := yfd n (tX l (T.take k)) (s, q.2)
    have hwn := yev n (tX l (T.take k)) (s, q.2)
    have how := yf4 n (tX l (T.take k)) (s, q.2)
    have hgi := yff n (tX l (T.take k)) (s, q.2)
    rw [← htk] at hgv hwn how hgi
    simp only at hgv hwn how hgi
    simp
    refine AX.seq (AX.pblock (AX.seq (AX.reg ?_)))
    have k1 : ∀ v ∈ thV q, y5l v = true := List.all_eq_true.1 hc4
    have t4 : List.take 4 (thV q) = thV q := List.take_of_length_le (by omega)
    have hne : ¬ thV q = [] := fun e => by rw [e] at hl4; simp at hl4
    have hsa : setAll [.i .i64 0, .sl none 0 0, .sl none 0 0, .sl none 0 0] 0 (thV q) = thV q := yap _ _ (by simp [hl4])
    simp [yh.r5, hg, hl4, t4, -y5l, -setAll]
    rw [if_pos k1]
    simp [hl4, hne, hsa, -setAll]
    have S1 := S.more (y8j S.acc.lt (.cells [.i .i64 0, .sl none 0 0, .sl none 0 0, .sl none 0 0] 4) (.cells (thV q) 4)) (lt2 S.acc.lt (.cells [.i .i64 0, .sl none 0 0, .sl none 0 0, .sl none 0 0] 4) (.cells (thV q) 4))
    have G1 : ((Y.add (.cells [.i .i64 0, .sl none 0 0, .sl none 0 0, .sl none 0 0] 4)).upd Y.next (.cells (thV q) 4)).get Y.next = some (.cells (thV q) 4) := by simp
    generalize (Y.add (.cells [.i .i64 0, .sl none 0 0, .sl none 0 0, .sl none 0 0] 4)).upd Y.next (.cells (thV q) 4) = Y1 at *
    generalize Y.next = a at *
    refine AX.sr ?_
    simp [yh.r6, G1, hrest, hgl, y3z]
    have S2 := S1.more (y8j S1.acc.lt (.cells [.s [], .sl none 0 0, .sl none 0 0, .sl none 0 0, .sl none 0 0, .sl none 0 0, .sl none 0 0] 7) (.cells [.s s.name, ss s.gives, ss s.wants, ss s.keeps, .fs (s.sys.objs.map y49), .fs (s.sys.fns.map y6i), .fs (s.sys.cons.map y4l)] 7))
      (lt2 S1.acc.lt (.cells [.s [], .sl none 0 0, .sl none 0 0, .sl none 0 0, .sl none 0 0, .sl none 0 0, .sl none 0 0] 7) (.cells [.s s.name, ss s.gives, ss s.wants, ss s.keeps, .fs (s.sys.objs.map y49), .fs (s.sys.fns.map y6i), .fs (s.sys.cons.map y4l)] 7))
    have G2 : ((Y1.add (.cells [.s [], .sl none 0 0, .sl none 0 0, .sl none 0 0, .sl none 0 0, .sl none 0 0, .sl none 0 0] 7)).upd Y1.next (.cells [.s s.name, ss s.gives, ss s.wants, ss s.keeps, .fs (s.sys.objs.map y49), .fs (s.sys.fns.map y6i), .fs (s.sys.cons.map y4l)] 7)).get Y1.next = some (.cells (y3z s) 7) := by simp [y3z]
    have N2 : yd7 w Y1.next := S1.acc.sepNew (by cases hh : Y1.get Y1.next with | none => rfl | some b => have := S1.acc.lt _ _ hh; omega)
    have N3 : Y1.next ≠ i8 := fun e => by have := S1.acc.lt _ _ S1.g8; omega
    generalize (Y1.add (.cells [.s [], .sl none 0 0, .sl none 0 0, .sl none 0 0, .sl none 0 0, .sl none 0 0, .sl none 0 0] 7)).upd Y1.next (.cells [.s s.name, ss s.gives, ss s.wants, ss s.keeps, .fs (s.sys.objs.map y49), .fs (s.sys.fns.map y6i), .fs (s.sys.cons.map y4l)] 7) = Z at *
    generalize Y1.next = b at *
    refine AX.pblock (AX.seq (AX.reg ?_))
    simp [yh.r7, G2, y3z]
    refine AC.fix (ybd s.gives n (by omega) _) ?_
    simp
    refine AX.pcond rfl (fun he => ?_) (fun he => ?_)
    · simp at he
      have f1 : gvB n s = true := by simpa [gvB] using he
      have f2 : wnB n s = false := by simp [wnB, he]
      have f3 : owB n s = false := by simp [owB, he]
      rw [f1] at hgv hgi
      rw [f2] at hwn
      rw [f3] at how
      refine AX.sr ?_
      simp [yh.r8, y2o (i := (gvs n (tX l (T.take k))).length) (by omega)]
      refine AX.reg ?_
      simp [yh.r9, G2, y3z, S2.g8]
      refine AX.reg ?_
      simp [yh.r13, y2o (i := k) (by omega)]
      refine ⟨T.length - (k + 1), by omega, _, _, .refl _ _, k + 1, w, by omega, rfl, ?_, ?_⟩
      · rw [hgi, hwn]; simpa using S2.giver hlt s.name
      · simp [hgv, how]
    simp at he
    have f1 : gvB n s = false := by simpa [gvB] using he
    rw [f1] at hgv hgi
    refine AX.sr ?_
    simp [yh.r10, G2, y3z]
    refine AC.fix (ybd s.wants n (by omega) _) ?_
    simp
    refine AX.pcond rfl (fun hf => ?_) (fun hf => ?_)
    · simp at hf
      have f2 : wnB n s = true := by simp [wnB, he, hf]
      have f3 : owB n s = false := by simp [owB, hf]
      rw [f2] at hwn
      rw [f3] at how
      obtain ⟨w2, Y2, hA, h8, S3, keep⟩ := S2.wanted hlt s.name (by simp; omega)
      obtain ⟨wa, wn, wz, rfl⟩ := S3.acc.isSl
      refine AX.reg ?_
      simp [yh.r11, G2, y3z, S2.g8, hA, h8, y8y, -y3m]
      refine AX.reg ?_
      simp [yh.r13, y2o (i := k) (by omega)]
      refine ⟨T.length - (k + 1), by omega, _, _, .refl _ _, k + 1, .sl wa wn wz, by omega, rfl, ?_, ?_⟩
      · rw [hgi, hwn]; simpa using S3
      · simp [hgv, how]
    · simp at hf
      have f2 : wnB n s = false := by simp [wnB, hf]
      have f3 : owB n s = true := by simp [owB, he, hf]
      rw [f2] at hwn
      rw [f3] at how
      refine AX.reg ?_
      simp [yh.r12, y2o (i := (ows n (tX l (T.take k))).length) (by omega)]
      refine AX.reg ?_
      simp [yh.r13, y2o (i := k) (by omega)]
      refine ⟨T.length - (k + 1), by omega, _, _, .refl _ _, k + 1, w, by omega, rfl, ?_, ?_⟩
      · rw [hgi, hwn]; simpa using S2
      · simp [hgv, how]
  simp at hd
  rw [List.take_of_length_le hd] at S ⊢
  have hsub := yc8 n (tX l T)
  have htl : (tX l T).length = T.length := by simp [tX]
  generalize hXX : tX l T = XX at *
  simp
  have hfz : AC Tryz.prog y57 [w] Y (fun v H' => v = ss (y9n n XX) ∧ H' = Y.wo fun k => ¬ yd7 w k) :=
    AC.frz (fun k => ¬ yd7 w k) (yk9 ((wns n XX).map Su.name) (by simp; omega) _) rfl fun j v v' h1 h2 => by
      match j, h1, h2 with
      | 0, h1, h2 => simp at h1 h2; subst h1; subst h2; exact S.acc.frzS
  have w5 := Hp.wo_get (S := fun k => ¬ yd7 w k) S.g5 (fun h => h S.s5)
  have w6 := Hp.wo_get (S := fun k => ¬ yd7 w k) S.g6 (fun h => h S.s6)
  have w8 := Hp.wo_get (S := fun k => ¬ yd7 w k) S.g8 (fun h => h S.s8)
  have wE : H.Ext (Y.wo fun k => ¬ yd7 w k) := ⟨S.acc.ext.1, fun id blk g => Hp.wo_get (S.acc.ext.2 id blk g) fun h => h (S.acc.sepOld (hlt _ _ g))⟩
  have h8 := S.h8
  have h6 := S.h6
  have n5 := S.n5
  have n6 := S.n6
  refine AX.sr ?_
  simp [yh.r14, S.g8]
  refine AC.fix hfz ?_
  clear hfz S
  generalize (Y.wo fun k => ¬ yd7 w k) = Z at *
  simp [w8, ss]
  have z5 : (Z.upd i8 (.cells [.s n, .s (y9j n XX), V.fs ((y9n n XX).map fun x => [V.s x])] 3)).get i5 = some (.cells [.fs (T.map thV)] 1) := by simp [n5, w5]
  have z6 : (Z.upd i8 (.cells [.s n, .s (y9j n XX), V.fs ((y9n n XX).map fun x => [V.s x])] 3)).get i6 = some (.cells [.s [], .s [], .sl none 0 0] 3) := by simp [n6, w6]
  have z8 : (Z.upd i8 (.cells [.s n, .s (y9j n XX), V.fs ((y9n n XX).map fun x => [V.s x])] 3)).get i8 = some (.cells [.s n, .s (y9j n XX), V.fs ((y9n n XX).map fun x => [V.s x])] 3) := by simp
  have zE := wE.upd hlt h8 (.cells [.s n, .s (y9j n XX), V.fs ((y9n n XX).map fun x => [V.s x])] 3)
  generalize Z.upd i8 (.cells [.s n, .s (y9j n XX), V.fs ((y9n n XX).map fun x => [V.s x])] 3) = Z1 at *
  have zR := zE.upd hlt h6 (.cells [.s n, .s (y9j n XX), V.fs ((y9n n XX).map fun x => [V.s x])] 3)
  have hwl : (0 < (y9n n XX).length) ↔ wns n XX ≠ [] := by
    unfold y9n
    constructor
    · intro h e; rw [e] at h; simp [y3y] at h
    · intro h
      obtain ⟨s, r, e⟩ := List.exists_cons_of_ne_nil h
      exact List.length_pos_of_mem (y7y.2 (List.mem_map.2 ⟨s, by rw [e]; simp, rfl⟩))
  refine AX.seq (AX.pblock (AX.seq (AX.join (F1 := [(5, .p (some (i5, 0, 1))), (6, .p (some (i6, 0, 3))), (8, .p (some (i8, 0, 3))), (9, .i .i64 (gvs n XX).length), (56, .b (decide (1 < (gvs n XX).length ∨ (0 < (ows n XX).length ∧ 1 < T.length))))]) (H1 := Z1) (AX.reg ?_) ?_)))
  · by_cases c1 : 1 < (gvs n XX).length
    · simp [yh.r15, c1]
    · by_cases c2 : 0 < (ows n XX).length
      · simp [yh.r15, c1, c2, z5]
      · simp [yh.r15, c1, c2]
  refine AX.pcond rfl (fun he => ?_) (fun he => ?_)
  · rw [decide_eq_true_eq] at he
    have e8 : yla n l T = 8 := by unfold yla; rw [hXX, if_pos he]
    refine AX.sr ?_
    simp [yh.r16, z8, z6]
    refine AX.ret ?_
    simp [e8, ycn, ss]
    exact ⟨zR, .refl _⟩
  rw [decide_eq_false_iff_not] at he
  have hcon : AC Tryz.prog y2n [.fs (T.map thV), .fn y5i [.p (some (i5, 0, 1))]] Z1 (fun v H' => v = .b (T.any (pT T)) ∧ H' = Z1) :=
    conTh_ok T y5i [.p (some (i5, 0, 1))] (pT T) (by omega) Z1 fun q hq => by
      match T, hq, z5, ht with
      | f :: r, hq, z5, ht => exact symb1_ok q f r (ht q hq) (ht f (by simp)) i5 Z1 z5
  refine AX.sr ?_
  simp [yh.r17, z5]
  refine AC.fix hcon ?_
  generalize hdf : T.any (pT T) = df
  simp
  refine AX.pcond rfl (fun hf => ?_) (fun hf => ?_)
  · subst hf
    have e8 : yla n l T = 12 := by unfold yla; rw [hXX, if_neg he, hdf]; rfl
    refine AX.sr ?_
    simp [yh.r18, z8, z6]
    refine AX.ret ?_
    simp [e8, ycn, ss]
    exact ⟨zR, .refl _⟩
  subst hf
  refine AX.seq (AX.join (F1 := [(6, .p (some (i6, 0, 3))), (8, .p (some (i8, 0, 3))), (74, .b (decide (wns n XX ≠ [] ∧ gvs n XX = [])))]) (H1 := Z1) (AX.reg ?_) ?_)
  · by_cases c1 : 0 < (y9n n XX).length
    · have c1' := hwl.1 c1
      simp [yh.r19, z8, ss, c1, c1']
    · have c1' : wns n XX = [] := Classical.byContradiction fun h => c1 (hwl.2 h)
      simp [yh.r19, z8, ss, c1, c1']
  refine AX.pcond rfl (fun hg => ?_) (fun hg => AX.skip ?_)
  · rw [decide_eq_true_eq] at hg
    have e8 : yla n l T = 7 := by unfold yla; rw [hXX, if_neg he, hdf, if_neg (by decide), if_pos hg]
    refine AX.sr ?_
    simp [yh.r20, z8, z6]
    refine AX.ret ?_
    simp [e8, ycn, ss]
    exact ⟨zR, .refl _⟩
  rw [decide_eq_false_iff_not] at hg
  have e8 : yla n l T = 0 := by unfold yla; rw [hXX, if_neg he, hdf, if_neg (by decide), if_neg hg]
  simp
  refine AX.sr ?_
  simp [yh.r21, z8, z6]
  refine AX.ret ?_
  simp [e8, ycn, ss]
  exact ⟨zR, .refl _⟩
end Go.Proofs.YtjajpilacdfnbaaGreatDoor
namespace Go.Proofs.YtjajpilacdfnbaaGreatDoor
open Am C
set_option linter.unusedSimpArgs false
set_option linter.unusedVariables false
theorem yed (l : List Su) (n : Str) : ∀ (r pre : List Su), l = pre ++ r → tX l (ofN n (pL pre.length r)) = gatX r n
  | [], pre, _ => rfl
  | s :: r, pre, h => by
    have ih := yed l n r (pre ++ [s]) (by rw [h]; simp)
    rw [List.length_append, List.length_singleton] at ih
    have hg : l.getD pre.length su0 = s := by rw [h]; simp
    have e1 : ofN n (pL pre.length (s :: r)) = (((ybi s.sys).filter fun t => decide (thN t = n)).map fun t => (pre.length, t)) ++ ofN n (pL (pre.length + 1) r) := by
      unfold ofN
      simp only [pL, List.filter_append, List.filter_map]
      rfl
    rw [e1]
    unfold tX at ih ⊢
    rw [List.map_append, ih, List.map_map]
    unfold gatX
    rw [List.flatMap_cons]
    congr 1
    apply List.map_congr_left
    intro t _
    simp only [Function.comp_apply, hg]
theorem tX_gat (l : List Su) (n : Str) : tX l (ofN n (pL 0 l)) = gatX l n := yed l n l [] rfl
theorem pT_dif (l : List Su) (T : List (Nat × Th)) : T.any (pT T) = yh8 (tX l T) := by
  cases T with
  | nil => rfl
  | cons f r =>
    rw [Bool.eq_iff_iff]
    unfold yh8 tX
    simp only [List.any_eq_true, List.mem_map, pT]
    constructor
    · rintro ⟨q, hq, h⟩
      exact ⟨_, ⟨q, hq, rfl⟩, _, ⟨f, by simp, rfl⟩, by simpa using h⟩
    · rintro ⟨_, ⟨q, hq, rfl⟩, _, ⟨p, hp, rfl⟩, h⟩
      have hne : q.2 ≠ p.2 := by simpa using h
      by_cases e : q.2 = f.2
      · exact ⟨p, hp, by simpa using fun e2 => hne (e.trans e2.symm)⟩
      · exact ⟨q, hq, by simpa using e⟩
theorem symP_eq {l : List Su} (h : ∀ s ∈ l, yee s.sys = 0) (n : Str) : yla n l (ofN n (pL 0 l)) = yex n (y63 l n) ∧ tX l (ofN n (pL 0 l)) = y63 l n := by
  have e : tX l (ofN n (pL 0 l)) = y63 l n := (tX_gat l n).trans (gat_has h n)
  have el : (ofN n (pL 0 l)).length = (y63 l n).length := by rw [← e]; simp [tX]
  refine ⟨?_, e⟩
  unfold yla yex
  rw [pT_dif l, e, el]
theorem pL_mem {l : List Su} {q : Nat × Th} : ∀ {i : Nat}, q ∈ pL i l → i ≤ q.1 ∧ q.1 < i + l.length ∧ ∃ s ∈ l, q.2 ∈ ybi s.sys := by
  induction l with
  | nil => intro i h; cases h
  | cons s r ih =>
    intro i h
    rcases List.mem_append.1 h with h | h
    · obtain ⟨t, ht, rfl⟩ := List.mem_map.1 h
      exact ⟨Nat.le_refl _, by simp only [List.length_cons]; omega, s, by simp, ht⟩
    · obtain ⟨a, b, s', hs', hq⟩ := ih h
      exact ⟨by omega, by simp only [List.length_cons]; omega, s', by simp [hs'], hq⟩
theorem ylu {l : List Su} {k : Str} : ∀ {i : Nat}, (∃ p ∈ pL i l, thN p.2 = k) ↔ k ∈ yb3 l := by
  induction l with
  | nil => intro i; simp [pL, yb3]
  | cons s r ih =>
    intro i
    simp only [pL, yb3, List.flatMap_cons, List.mem_append, List.mem_map] at ih ⊢
    constructor
    · rintro ⟨p, hp | hp, e⟩
      · obtain ⟨t, ht, rfl⟩ := hp
        exact .inl ⟨t, ht, e⟩
      · exact .inr ((ih (i := i + 1)).1 ⟨p, hp, e⟩)
    · rintro (⟨t, ht, e⟩ | h)
      · exact ⟨(i, t), .inl ⟨t, ht, rfl⟩, e⟩
      · obtain ⟨p, hp, e⟩ := (ih (i := i + 1)).2 h
        exact ⟨p, .inr hp, e⟩
theorem yil {l : List Su} {n : Str} {r : List Str} {out : List Sm} : yf0 l (n :: r) out = if yex n (y63 l n) ≠ 0 then ([], n, yex n (y63 l n)) else yf0 l r (if y9j n (y63 l n) ≠ [] then out ++ [yao l n] else out) := rfl
theorem ylh {l : List Su} (h : ¬ 8 < l.length) : yf1 l = match ycs [] l with | some (n, e) => ([], n, e) | none => yf0 l (y3y (yb3 l)) [] := by
  unfold yf1; rw [if_neg h]; cases ycs [] l <;> rfl
def smV (L : List Sm) : V := .fs (L.map ycn)
@[simp] theorem free_smV (L : List Sm) : ybf (smV L) := yfi fun e he v hv => by
  obtain ⟨x, _, rfl⟩ := List.mem_map.1 he
  simp [ycn] at hv
  rcases hv with rfl | rfl | rfl
  · exact yj2 _
  · exact yj2 _
  · exact yfh _
theorem ygj {α : Type} [DecidableEq α] : ∀ {l m : List α}, l.Nodup → (∀ x ∈ l, x ∈ m) → l.length ≤ m.length
  | [], _, _, _ => by simp
  | a :: r, m, h, hs => by
    have h' := List.nodup_cons.1 h
    have ha := hs a (by simp)
    have := ygj (l := r) (m := m.erase a) h'.2 fun x hx => (List.mem_erase_of_ne (fun e => h'.1 (by rw [← e]; exact hx))).2 (hs x (by simp [hx]))
    rw [List.length_erase_of_mem ha] at this
    have := List.length_pos_of_mem ha
    simp only [List.length_cons]
    omega
theorem Acc.sepObj {H X : Hp} {sz : Nat} {v : V} {es : List (List V)} (A : Acc H sz v X es) {id : Nat} {o : OB} (h : X.get id = some (.obj o)) : yd7 v id := by
  rcases A.sl with ⟨_, z, rfl⟩ | ⟨k, m, h1, rfl, h2, h3⟩
  · trivial
  · intro e; subst e; rw [h2] at h; cases h
theorem yd0 (l : List Su) (n : Str) : (y63 l n).length ≤ l.length := List.length_filterMap_le _ _
theorem y93 (l : List Str) : (sc1 l).flatten = l.map V.s := by
  induction l with
  | nil => rfl
  | cons a r ih => simp [sc1] at ih ⊢; exact ih
end Go.Proofs.YtjajpilacdfnbaaGreatDoor
namespace Go.Proofs.YtjajpilacdfnbaaGreatDoor.Am
open Go Go.RowKit
set_option linter.unusedSimpArgs false
set_option linter.unusedVariables false
theorem Sim.reObj {κ : K} {H : Hp} (S : Sim κ H) {id : Nat} {o o' : OB} {x : Obj} (hg : H.get id = some (.obj o)) (hx : κ.w.heap[(κ.pl id 0).1]? = some x) (ho : OBok κ o' x) : Sim κ (H.upd id (.obj o')) := by
  obtain ⟨_, S'⟩ := S.updObj hg hx ho (fun r h => ⟨r, h⟩)
  have hw : κ.w.putObj (κ.pl id 0).1 x = κ.w := by
    have : κ.w.heap.setIfInBounds (κ.pl id 0).1 x = κ.w.heap := by
      apply Array.ext_getElem?
      intro j
      by_cases e : j = (κ.pl id 0).1
      · subst e; rw [Array.getElem?_setIfInBounds_self_of_lt (lt_of_some hx), hx]
      · rw [Array.getElem?_setIfInBounds_ne (Ne.symm e)]
    unfold World.putObj
    rw [this]
  rw [hw] at S'
  exact S'
theorem Wk.frzMap {F F' : Fr} {H : Hp} (S : Nat → Prop) (hF : ∀ t, Frz H S (y66 F t) (y66 F' t)) {mid t0 : Nat} {es es' : List (List UInt8 × V)} (hg : H.get mid = some (.obj (.map es))) (ht : y66 F t0 = .mp (some mid)) (hS : ¬ S mid)
    (hl : es'.length = es.length) (hv : ∀ (j : Nat) k' v', es'[j]? = some (k', v') → ∃ v, es[j]? = some (k', v) ∧ Frz H S v v') : Wk F H F' ((H.wo S).upd mid (.obj (.map es'))) := fun κ tmps Sm r => by
  obtain ⟨κ', ew, le, S', hf⟩ := y9w S Sm
  have hok : κ.ok mid 0 := by
    have := r t0
    rw [ht] at this
    generalize tmps.getD t0 undef = c at this
    cases this; assumption
  have hpl := (le.ok mid 0 hok).2
  obtain ⟨⟨x, hb, ho⟩, _⟩ := Sm.maps mid _ hg
  have hg' : (H.wo S).get mid = some (.obj (.map es)) := by simp only [Hp.wo]; rw [if_neg hS]; exact hg
  have hb' : κ'.w.heap[(κ'.pl mid 0).1]? = some x := by rw [hpl, ew]; exact hb
  have ho' : OBok κ' (.map es') x := by
    cases ho with
    | map _ arr hl2 hv2 =>
      refine .map es' arr (hl.trans hl2) fun j k' v' hj => ?_
      obtain ⟨v, e1, e2⟩ := hv j k' v' hj
      obtain ⟨en, a, b, c, d⟩ := hv2 j k' v e1
      exact ⟨en, a, b, c, hf _ _ e2 _ d⟩
  exact ⟨κ', ew, le, S'.reObj hg' hb' ho', fun t => hf _ _ (hF t) _ (r t)⟩
theorem yf7 : ∀ (n : Nat) (l : List Nat), l.Nodup → (∀ x ∈ l, x < n) → l.length ≤ n
  | 0, l, _, h => by
    cases l with
    | nil => simp
    | cons a r => have := h a (by simp); omega
  | n + 1, l, hn, h => by
    have h1 := yf7 n (l.filter fun x => decide (x ≠ n)) (hn.filter _) fun x hx => by
      obtain ⟨a, b⟩ := List.mem_filter.1 hx
      have := h x a
      have : x ≠ n := by simpa using b
      omega
    have h2 : l.length ≤ (l.filter fun x => decide (x ≠ n)).length + 1 := by
      clear h h1
      induction l with
      | nil => simp
      | cons a r ih =>
        have hr := List.nodup_cons.1 hn
        by_cases e : a = n
        · subst e
          have : r.filter (fun x => decide (x ≠ a)) = r := List.filter_eq_self.2 fun x hx => by
            have : x ≠ a := fun e => hr.1 (e ▸ hx)
            simpa using this
          rw [List.filter_cons, this]; simp
        · have := ih hr.2
          simp [e] at this ⊢
          omega
    omega
end Go.Proofs.YtjajpilacdfnbaaGreatDoor.Am
