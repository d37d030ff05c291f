/- Part 11 of the proof of the laws of the queries: AmH, AmI. -/
import Derived.Test.YtjajpilacdfnbaaGreatDoorX9
import Derived.Test.YtjajpilacdfnbaaGreatDoorX10
namespace Go.Proofs.YtjajpilacdfnbaaGreatDoor.Am
open Go Go.RowKit
set_option linter.unusedSimpArgs false
set_option linter.unusedVariables false
def bef (bs : List Nat) (j : Nat) (l : List PendE) : List PendE := l.filter fun p => y44 bs p.i j
def aft (bs : List Nat) (j : Nat) (l : List PendE) : List PendE := l.filter fun p => !y44 bs p.i j
structure LogA where
  i : Nat
  c : Cls
  C0 : Hp
  C1 : Hp
  p0 : List PendE
  p1 : List PendE
  re : Hp → Prop
def ybn (bs : List Nat) (als : List PendE) (x y : LogA) : Prop :=
  y44 bs x.i y.i = true ∨ match x.c, y.c with
    | .eff, .eff => False
    | .rd, .eff => x.re (y4a y.C1 (bef bs x.i y.p1))
    | .eff, .rd => y.re (y4a x.C0 (bef bs y.i (x.p0 ++ als.filter fun p => decide (x.i < p.i))))
    | _, _ => True
def yaz (bs : List Nat) (als : List PendE) : List LogA → LogA → Prop
  | [], _ => True
  | x :: l, y => ybn bs als x y ∧ yaz bs als l y
theorem yek {bs : List Nat} {als : List PendE} {y : LogA} : ∀ {l : List LogA}, yaz bs als l y → ∀ x ∈ l, ybn bs als x y
  | [], _, _, h => by cases h
  | x :: l, h, z, hz => by
    rcases List.mem_cons.1 hz with rfl | hz
    · exact h.1
    · exact yek h.2 z hz
def nextA (bs : List Nat) (j : Nat) (c : Cls) (C H' : Hp) (als pend : List PendE) (re : Hp → Prop) (log : List LogA) (k : List LogA → List PendE → Hp → Prop) : Prop :=
  match c with
  | .pure => k log pend C
  | .rd => yaz bs als log ⟨j, .rd, C, C, pend, pend, re⟩ ∧ k (log ++ [⟨j, .rd, C, C, pend, pend, re⟩]) pend C
  | .eff => yaz bs als log ⟨j, .eff, C, H', pend, aft bs j pend, re⟩ ∧ k (log ++ [⟨j, .eff, C, H', pend, aft bs j pend, re⟩]) (aft bs j pend) H'
def madeA (s : AStep) (F : Fr) (k : AlR → Prop) : Prop := match s.d with
  | .op o => match alO o F with
    | some q => k q
    | none => False
  | _ => False
def yax (P : Program) (bs alx : List Nat) (N : Nat) : Nat → List AStep → List LogA → List PendE → List PendE → (Fr → Hp → Prop) → Fr → Hp → Prop
  | _, [], _, als, pend, K, F, C => als.length ≤ alx.length ∧ K F (y4a C pend)
  | j, s :: r, log, als, pend, K, F, C =>
    let go : Prop := if alx.contains j then madeA s F fun q => yax P bs alx N (j + 1) r log (als ++ [⟨j, N + als.length, q.cs, q.m⟩]) (pend ++ [⟨j, N + als.length, q.cs, q.m⟩]) K (put F s.dst (q.val (N + als.length))) C
      else goD P s (fun c v H' re => nextA bs j c C H' als pend re log fun log' pend' C' => yax P bs alx N (j + 1) r log' als pend' K (put F s.dst v) C') F (y4a C (bef bs j pend))
    match s.g with
    | none => go
    | some (t, b) => match y66 F t with
      | .b x => (x = b → go) ∧ (x ≠ b → yax P bs alx N (j + 1) r log als pend K (put F s.dst (.tup [])) C)
      | .tup [] => yax P bs alx N (j + 1) r log als pend K (put F s.dst (.tup [])) C
      | _ => False
structure StepB (P : Program) (n : Nat) (ops : Array Oper) (j : Nat) (s : AStep) (F F' : Fr) (id : Nat) (q : AlR) : Prop where
  ex : ∃ o, ops[j]? = some o ∧ o.dst = s.dst
  dok : ye9 n s.dst = true
  put : F' = Am.put F s.dst (q.val id)
  run : ∀ (ro : Option Nat) (κ : K) (a : Act) (F2 : Fr) (H2 : Hp), At κ F2 H2 n ro a → y5d (otS s) F2 F → κ.hole id → (∀ e, ¬ κ.ok id e) →
    ∀ (J : Act → World → Prop) (Q : Exit → Act → World → Prop), (∀ κ2 cv, (∀ κ0 : K, κ0.Le κ → ¬ κ0.hole id → κ0.Le κ2) → (∀ k, κ.hole k → k ≠ id → κ2.hole k) → (∀ k e, k ≠ id → κ.hole k → κ2.ok k e → κ.ok k e) →
      Sim κ2 (H2.upd id (.cells q.cs q.m)) → (∀ v c, VR κ v c → VR κ2 v c) → VR κ2 (q.val id) cv → J (a.put s.dst cv) κ2.w) → wpOpIn (FF ro) 0 P ops Q j J a κ.w
theorem madeA_ok {P : Program} {n : Nat} {ops : Array Oper} {j : Nat} {o : Oper} {s : AStep} (ho : ops[j]? = some o) (hd : o.dst = s.dst) (hn : ye9 n s.dst = true) (hok : yhk P o.op s.d = true)
    {F : Fr} (hw : ∀ (κ : K) (a : Act) (F2 : Fr), FR κ F2 a.tmps → y5d (otS s) F2 F → Region.wanted o (yielded ops a.tmps) = true) {k : AlR → Prop} (hg : madeA s F k) (id : Nat) :
    ∃ q, StepB P n ops j s F (put F s.dst (q.val id)) id q ∧ k q := by
  obtain ⟨sd, sg, sdo⟩ := s
  cases sdo with
  | op p =>
    simp only [madeA] at hg
    split at hg
    · rename_i q hq
      refine ⟨q, ⟨⟨o, ho, hd⟩, hn, rfl, fun ro κ a F2 H2 A ag hh hno J Q hJ => ?_⟩, hg⟩
      have ag' : y5d (ykd p) F2 F := y5d.left (a := ykd p) ag
      have hq2 : alO p F2 = some q := by rw [yni ag']; exact hq
      obtain ⟨κ', nx, cv, le, S', rv, run, hnx⟩ := yhi hok F2 H2 _ _ (alO_step hq2 H2) κ a A.S A.r
      have hcs := ynj hq2 (ok := κ.ok) fun x _ => (A.r x).okv
      obtain ⟨κ2, e1, e2, e3, e4, e5, e6, e7, e8⟩ := fill A.S hh hno hcs le S'
      have rv2 : VR κ2 (q.val id) cv := by
        unfold AlR.val at rv ⊢
        split
        · rename_i hsl; simp only [hsl] at rv; exact e7 _ _ _ rv
        · rename_i n' sz hsl; simp only [hsl] at rv; exact e8 _ _ _ _ _ rv
      have := hJ κ2 cv e2 e3 e4 e5 e6 rv2
      unfold wpOpIn
      simp only [ho]
      rw [if_pos (hw κ a F2 A.r ag)]
      refine yc7 (yhj hok) ?_
      rw [run, ← e1]
      rcases hnx with rfl | ⟨rfl, rfl⟩
      · simp only [Oper.uponIn_value]; rw [hd]; exact this
      · simp only [Oper.uponIn_skip]; rw [hd]; exact this
    · exact hg.elim
  | call => exact hg.elim
  | callv => exact hg.elim
  | nxt => exact hg.elim
structure TxS where
  F : Fr
  C : Hp
  als : List PendE
  ps : List PendE
structure TxI where
  v : V
  cl : Option Cls
  re : Hp → Prop
  X : Hp
  q : AlR
def yiu (N j : Nat) (a : TxS) (i : TxI) : PendE := ⟨j, N + a.als.length, i.q.cs, i.q.m⟩
def lgA (j : Nat) (a b : TxS) (i : TxI) (c : Cls) : LogA := ⟨j, c, a.C, b.C, a.ps, b.ps, i.re⟩
def StA (P : Program) (n : Nat) (ops : Array Oper) (bs : List Nat) (N j : Nat) (s : AStep) (a b : TxS) (i : TxI) : Prop :=
  match i.cl with
  | none => StepB P n ops j s a.F b.F (N + a.als.length) i.q ∧ i.v = i.q.val (N + a.als.length) ∧ b.C = a.C ∧ b.als = a.als ++ [yiu N j a i] ∧ b.ps = a.ps ++ [yiu N j a i]
  | some c => StepR P n ops j s a.F b.F (y4a a.C (bef bs j a.ps)) i.X i.v c i.re ∧ b.als = a.als ∧ (c = .eff → b.C = i.X ∧ b.ps = aft bs j a.ps) ∧ (c ≠ .eff → b.C = a.C ∧ b.ps = a.ps)
abbrev RunA (P : Program) (n : Nat) (ops : Array Oper) (bs alx : List Nat) (N k : Nat) (ss : List AStep) (log : List LogA) (als pend : List PendE) (F : Fr) (C : Hp) (J : Fr → Hp → Prop) : Prop :=
    ∃ (st : Nat → TxS) (inf : Nat → TxI), st k = ⟨F, C, als, pend⟩ ∧
      (∀ j s, ss[j]? = some s → StA P n ops bs N (k + j) s (st (k + j)) (st (k + j + 1)) (inf (k + j))) ∧
      (∀ j c, j < ss.length → (inf (k + j)).cl = some c → c ≠ .pure → ∀ x ∈ log, ybn bs (st (k + j)).als x (lgA (k + j) (st (k + j)) (st (k + j + 1)) (inf (k + j)) c)) ∧
      (∀ i j c d, i < j → j < ss.length → (inf (k + i)).cl = some c → c ≠ .pure → (inf (k + j)).cl = some d → d ≠ .pure →
        ybn bs (st (k + j)).als (lgA (k + i) (st (k + i)) (st (k + i + 1)) (inf (k + i)) c) (lgA (k + j) (st (k + j)) (st (k + j + 1)) (inf (k + j)) d)) ∧
      (st (k + ss.length)).als.length ≤ alx.length ∧ J (st (k + ss.length)).F (y4a (st (k + ss.length)).C (st (k + ss.length)).ps)
theorem yjb {P : Program} {n : Nat} {ops : Array Oper} {bs alx : List Nat} {N : Nat} : ∀ {os : List Oper} {ss : List AStep} (k : Nat), y74 P n ops os ss = true → (∀ j, os[j]? = ops[k + j]?) →
    ∀ {log : List LogA} {als pend : List PendE} {J : Fr → Hp → Prop} {F : Fr} {C : Hp}, yax P bs alx N k ss log als pend J F C →
    RunA P n ops bs alx N k ss log als pend F C J
  | [], [], k, _, _, log, als, pend, J, F, C, h => ⟨fun _ => ⟨F, C, als, pend⟩, fun _ => ⟨.junk, none, fun _ => True, C, ⟨none, [], 0⟩⟩, rfl, fun j s hj => by simp at hj, fun j c hj => by simp at hj, fun i j c d _ hj => by simp at hj, by simpa [yax] using h⟩
  | o :: os, s :: ss, k, hok, hos, log, als, pend, J, F, C, h => by
    simp only [y74, yir, Bool.and_eq_true, beq_iff_eq] at hok
    obtain ⟨⟨⟨⟨h1, h2⟩, h3⟩, h4⟩, h5⟩ := hok
    have h0 : ops[k]? = some o := by simpa using (hos 0).symm
    have cons : ∀ {b : TxS} {i : TxI} {log' : List LogA}, StA P n ops bs N k s ⟨F, C, als, pend⟩ b i → (∀ x ∈ log, x ∈ log') →
        (∀ c, i.cl = some c → c ≠ .pure → lgA k ⟨F, C, als, pend⟩ b i c ∈ log' ∧ yaz bs als log (lgA k ⟨F, C, als, pend⟩ b i c)) → yax P bs alx N (k + 1) ss log' b.als b.ps J b.F b.C →
        RunA P n ops bs alx N k (s :: ss) log als pend F C J := fun {b i log'} hst hlog hself hr => by
      obtain ⟨st, inf, e1, e3, e4, e5, e6⟩ := yjb (k + 1) h5 (fun j => by have := hos (j + 1); simpa [Nat.add_assoc, Nat.add_comm 1 j] using this) hr
      have ne : ∀ j, k + (j + 1) ≠ k := fun j => by omega
      have ne2 : ∀ j, k + (j + 1) + 1 ≠ k := fun j => by omega
      have sh : ∀ j, k + 1 + j = k + (j + 1) := fun j => by omega
      refine ⟨fun j => if j = k then ⟨F, C, als, pend⟩ else st j, fun j => if j = k then i else inf j, by simp, fun j t hj => ?_, fun j c hj hc hp x hx => ?_, fun i' j c d hij hj hci hcp hdj hdp => ?_, ?_⟩
      · cases j with
        | zero =>
          simp at hj; subst hj
          simp only [Nat.add_zero, if_true, show k + 1 ≠ k by omega, if_false, e1]
          exact hst
        | succ j =>
          have := e3 j t (by simpa using hj)
          simp only [ne, ne2, if_false]
          simpa only [sh] using this
      · cases j with
        | zero =>
          simp only [Nat.add_zero, if_true, show k + 1 ≠ k by omega, if_false, e1] at hc ⊢
          exact yek (hself c hc hp).2 x hx
        | succ j =>
          simp only [ne, ne2, if_false] at hc ⊢
          have := e4 j c (by simpa using hj) (by rw [sh]; exact hc) hp x (hlog x hx)
          simpa only [sh] using this
      · cases j with
        | zero => omega
        | succ j =>
          cases i' with
          | zero =>
            simp only [Nat.add_zero, if_true, show k + 1 ≠ k by omega, if_false, e1, ne, ne2] at hci hdj ⊢
            have := e4 j d (by simpa using hj) (by rw [sh]; exact hdj) hdp _ (hself c hci hcp).1
            simpa only [sh] using this
          | succ i' =>
            simp only [ne, ne2, if_false] at hci hdj ⊢
            have := e5 i' j c d (by omega) (by simpa using hj) (by rw [sh]; exact hci) hcp (by rw [sh]; exact hdj) hdp
            simpa only [sh] using this
      · simp only [List.length_cons, show k + (ss.length + 1) ≠ k by omega, if_false]
        simpa only [sh] using e6
    have done : ∀ (hw : ∀ (κ : K) (a : Act) (F2 : Fr), FR κ F2 a.tmps → y5d (otS s) F2 F → Region.wanted o (yielded ops a.tmps) = true),
        (if alx.contains k then madeA s F fun q => yax P bs alx N (k + 1) ss log (als ++ [⟨k, N + als.length, q.cs, q.m⟩]) (pend ++ [⟨k, N + als.length, q.cs, q.m⟩]) J (put F s.dst (q.val (N + als.length))) C
          else goD P s (fun c v H' re => nextA bs k c C H' als pend re log fun log' pend' C' => yax P bs alx N (k + 1) ss log' als pend' J (put F s.dst v) C') F (y4a C (bef bs k pend))) → RunA P n ops bs alx N k (s :: ss) log als pend F C J := fun hw hg => by
      split at hg
      · obtain ⟨q, hb, hr⟩ := madeA_ok h0 h1 h2 h4 hw hg (N + als.length)
        exact cons (b := ⟨put F s.dst (q.val (N + als.length)), C, als ++ [⟨k, N + als.length, q.cs, q.m⟩], pend ++ [⟨k, N + als.length, q.cs, q.m⟩]⟩) (i := ⟨q.val (N + als.length), none, fun _ => True, C, q⟩) (log' := log)
          ⟨hb, rfl, rfl, rfl, rfl⟩ (fun _ h => h) (fun c hc => by cases hc) hr
      · obtain ⟨c, v, H', r, hst, hr⟩ := ymh h0 h1 h2 h4 hw hg
        cases c with
        | pure => exact cons (b := ⟨put F s.dst v, C, als, pend⟩) (i := ⟨v, some .pure, r, H', ⟨none, [], 0⟩⟩) (log' := log) ⟨hst, rfl, (fun h => by cases h), fun _ => ⟨rfl, rfl⟩⟩ (fun _ h => h) (fun c hc hp => by injection hc with hc; exact absurd hc.symm hp) hr
        | rd => exact cons (b := ⟨put F s.dst v, C, als, pend⟩) (i := ⟨v, some .rd, r, H', ⟨none, [], 0⟩⟩) ⟨hst, rfl, (fun h => by cases h), fun _ => ⟨rfl, rfl⟩⟩ (fun _ h => by simp [h]) (fun c hc hp => by injection hc with hc; subst hc; exact ⟨by simp [lgA], hr.1⟩) hr.2
        | eff => exact cons (b := ⟨put F s.dst v, H', als, aft bs k pend⟩) (i := ⟨v, some .eff, r, H', ⟨none, [], 0⟩⟩) ⟨hst, rfl, fun _ => ⟨rfl, rfl⟩, fun h => absurd rfl h⟩ (fun _ h => by simp [h]) (fun c hc hp => by injection hc with hc; subst hc; exact ⟨by simp [lgA], hr.1⟩) hr.2
    have passed : ∀ (hw : ∀ (κ : K) (a : Act) (F2 : Fr), FR κ F2 a.tmps → y5d (otS s) F2 F → Region.wanted o (yielded ops a.tmps) = false),
        yax P bs alx N (k + 1) ss log als pend J (put F s.dst (.tup [])) C → RunA P n ops bs alx N k (s :: ss) log als pend F C J := fun hw hr =>
      cons (b := ⟨put F s.dst (.tup []), C, als, pend⟩) (i := ⟨.tup [], some .pure, fun _ => True, y4a C (bef bs k pend), ⟨none, [], 0⟩⟩) (log' := log) ⟨yhe h0 h1 h2 hw, rfl, (fun h => by cases h), fun _ => ⟨rfl, rfl⟩⟩ (fun _ h => h) (fun c hc hp => by injection hc with hc; exact absurd hc.symm hp) hr
    have wt : ∀ (κ : K) (a : Act) (F2 : Fr), FR κ F2 a.tmps → (s.g = none ∧ Region.wanted o (yielded ops a.tmps) = true) ∨ ∃ t b, s.g = some (t, b) ∧ (∀ x, y66 F2 t = .b x → Region.wanted o (yielded ops a.tmps) = decide (x = b)) ∧ (y66 F2 t = .tup [] → Region.wanted o (yielded ops a.tmps) = false) := fun κ a F2 r => yd9 r h3
    simp only [yax] at h
    split at h
    · rename_i hgd
      exact done (fun κ a F2 r ag => by
        rcases wt κ a F2 r with ⟨_, hw⟩ | ⟨t, b, e, _⟩
        · exact hw
        · rw [hgd] at e; cases e) h
    · rename_i t b hgd
      have agt : ∀ {F2 : Fr}, y5d (otS s) F2 F → y66 F2 t = y66 F t := fun {F2} ag => ag t (by simp [otS, hgd])
      split at h
      · rename_i x hx
        by_cases hxb : x = b
        · exact done (fun κ a F2 r ag => by
            rcases wt κ a F2 r with ⟨e, _⟩ | ⟨t', b', e, hw⟩
            · rw [hgd] at e; cases e
            · rw [hgd] at e; injection e with e; injection e with e1 e2; subst e1; subst e2
              rw [hw.1 x (by rw [agt ag]; exact hx)]; simp [hxb]) (h.1 hxb)
        · exact passed (fun κ a F2 r ag => by
            rcases wt κ a F2 r with ⟨e, _⟩ | ⟨t', b', e, hw⟩
            · rw [hgd] at e; cases e
            · rw [hgd] at e; injection e with e; injection e with e1 e2; subst e1; subst e2
              rw [hw.1 x (by rw [agt ag]; exact hx)]; simp [hxb]) (h.2 hxb)
      · rename_i hx
        exact passed (fun κ a F2 r ag => by
          rcases wt κ a F2 r with ⟨e, _⟩ | ⟨t', b', e, hw⟩
          · rw [hgd] at e; cases e
          · rw [hgd] at e; injection e with e; injection e with e1 e2; subst e1; subst e2
            exact hw.2 (by rw [agt ag]; exact hx)) h
      · exact h.elim
  | [], _ :: _, _, h, _, _, _, _, _, _, _, _ => by cases h
  | _ :: _, [], _, h, _, _, _, _, _, _, _, _ => by cases h
end Go.Proofs.YtjajpilacdfnbaaGreatDoor.Am
namespace Go.Proofs.YtjajpilacdfnbaaGreatDoor.Am
open Go Go.RowKit
set_option linter.unusedSimpArgs false
set_option linter.unusedVariables false
def y50 (i : TxI) : Bool := match i.cl with
  | some .eff => true
  | _ => false
def y8b (inf : Nat → TxI) (bs : List Nat) (j a : Nat) : Bool := (List.range j).any fun e => y50 (inf e) && y44 bs a e
theorem y9m (inf : Nat → TxI) (bs : List Nat) (j a : Nat) : y8b inf bs (j + 1) a = (y8b inf bs j a || (y50 (inf j) && y44 bs a j)) := by
  unfold y8b; rw [List.range_succ, List.any_append]; simp
section
variable {P : Program} {n : Nat} {ops : Array Oper} {bs : List Nat} {N : Nat} {ss : List AStep} {st : Nat → TxS} {inf : Nat → TxI}
structure Made (N : Nat) (st : Nat → TxS) (inf : Nat → TxI) (j idx : Nat) (p : PendE) : Prop where
  id : p.id = N + idx
  lt : p.i < j
  cl : (inf p.i).cl = none
  eq : p = yiu N p.i (st p.i) (inf p.i)
theorem y7j (hst : ∀ j s, ss[j]? = some s → StA P n ops bs N j s (st j) (st (j + 1)) (inf j)) (h0 : (st 0).als = []) : ∀ j, j ≤ ss.length → ∀ idx p, (st j).als[idx]? = some p → Made N st inf j idx p
  | 0, _, idx, p, h => by rw [h0] at h; simp at h
  | j + 1, hj, idx, p, h => by
    have hs := hst j _ (List.getElem?_eq_getElem (show j < ss.length by omega))
    have ih := y7j hst h0 j (by omega)
    unfold StA at hs
    cases hc : (inf j).cl with
    | none =>
      simp only [hc] at hs
      rw [hs.2.2.2.1] at h
      by_cases hi : idx < (st j).als.length
      · rw [List.getElem?_append_left hi] at h
        have := ih idx p h
        exact ⟨this.id, by have := this.lt; omega, this.cl, this.eq⟩
      · rw [List.getElem?_append_right (by omega)] at h
        have hz : idx - (st j).als.length = 0 := by
          have := (List.getElem?_eq_some_iff.1 h).1
          simp at this; omega
        rw [hz] at h
        simp at h; subst h
        have : idx = (st j).als.length := by omega
        exact ⟨by simp [yiu, this], by simp [yiu], hc, rfl⟩
    | some c =>
      simp only [hc] at hs
      rw [hs.2.1] at h
      have := ih idx p h
      exact ⟨this.id, by have := this.lt; omega, this.cl, this.eq⟩
theorem yes (hst : ∀ j s, ss[j]? = some s → StA P n ops bs N j s (st j) (st (j + 1)) (inf j)) (h0 : (st 0).als = []) (j : Nat) : ∀ d, j + d ≤ ss.length → (st j).als = (st (j + d)).als.filter fun p => decide (p.i < j)
  | 0, h => by
    symm
    rw [Nat.add_zero, List.filter_eq_self]
    intro p hp
    obtain ⟨idx, hi⟩ := List.mem_iff_getElem?.1 hp
    have := (y7j hst h0 j h idx p hi).lt
    simpa using this
  | d + 1, h => by
    have ih := yes hst h0 j d (by omega)
    have hs := hst (j + d) _ (List.getElem?_eq_getElem (show j + d < ss.length by omega))
    unfold StA at hs
    rw [show j + (d + 1) = j + d + 1 by omega]
    cases hc : (inf (j + d)).cl with
    | none =>
      simp only [hc] at hs
      rw [hs.2.2.2.1, List.filter_append, ← ih]
      simp [yiu]
    | some c =>
      simp only [hc] at hs
      rw [hs.2.1, ← ih]
theorem yge (hst : ∀ j s, ss[j]? = some s → StA P n ops bs N j s (st j) (st (j + 1)) (inf j)) (h0 : (st 0).als = []) (h1 : (st 0).ps = []) (hbf : ∀ i j, y44 bs i j = true → i < j) :
    ∀ j, j ≤ ss.length → (st j).ps = (st j).als.filter fun p => !y8b inf bs j p.i
  | 0, _ => by rw [h0, h1]; rfl
  | j + 1, hj => by
    have ih := yge hst h0 h1 hbf j (by omega)
    have hs := hst j _ (List.getElem?_eq_getElem (show j < ss.length by omega))
    have hm := y7j hst h0 j (by omega)
    unfold StA at hs
    cases hc : (inf j).cl with
    | none =>
      simp only [hc] at hs
      have he : y50 (inf j) = false := by simp [y50, hc]
      rw [hs.2.2.2.1, hs.2.2.2.2, List.filter_append, ih]
      congr 1
      · apply List.filter_congr
        intro p _
        rw [y9m, he]; simp
      · have : y8b inf bs (j + 1) j = false := by
          unfold y8b
          rw [List.any_eq_false]
          intro e he'
          cases hb : y44 bs j e with
          | false => simp
          | true =>
            have := hbf j e hb
            have : e < j + 1 := by simpa using he'
            omega
        simp [yiu, this]
    | some c =>
      simp only [hc] at hs
      rw [hs.2.1]
      by_cases hce : c = .eff
      · subst hce
        have he : y50 (inf j) = true := by simp [y50, hc]
        rw [(hs.2.2.1 rfl).2, ih, aft, List.filter_filter]
        apply List.filter_congr
        intro p _
        rw [y9m, he]
        cases y8b inf bs j p.i <;> cases y44 bs p.i j <;> rfl
      · have he : y50 (inf j) = false := by
          unfold y50; rw [hc]; cases c <;> first | rfl | exact absurd rfl hce
        rw [(hs.2.2.2 hce).2, ih]
        apply List.filter_congr
        intro p _
        rw [y9m, he]; simp
theorem yj8 (hst : ∀ j s, ss[j]? = some s → StA P n ops bs N j s (st j) (st (j + 1)) (inf j)) (i : Nat) : ∀ d, i + d ≤ ss.length → (∀ e, i ≤ e → e < i + d → y50 (inf e) = false) → (st (i + d)).C = (st i).C ∧ ∀ a, y8b inf bs (i + d) a = y8b inf bs i a
  | 0, _, _ => ⟨rfl, fun _ => rfl⟩
  | d + 1, h, he => by
    have ih := yj8 hst i d (by omega) fun e h1 h2 => he e h1 (by omega)
    have hs := hst (i + d) _ (List.getElem?_eq_getElem (show i + d < ss.length by omega))
    have hf := he (i + d) (by omega) (by omega)
    unfold StA at hs
    rw [show i + (d + 1) = i + d + 1 by omega]
    refine ⟨?_, fun a => by rw [y9m, hf, ih.2]; simp⟩
    cases hc : (inf (i + d)).cl with
    | none => simp only [hc] at hs; rw [hs.2.2.1]; exact ih.1
    | some c =>
      simp only [hc] at hs
      have hce : c ≠ .eff := by rintro rfl; simp [y50, hc] at hf
      rw [(hs.2.2.2 hce).1]; exact ih.1
theorem y9k (hst : ∀ j s, ss[j]? = some s → StA P n ops bs N j s (st j) (st (j + 1)) (inf j)) {i j : Nat} (hi : i ≤ ss.length) (hj : j ≤ ss.length) (h : ∀ e, e < ss.length → y50 (inf e) = true → (e < i ↔ e < j)) : (st i).C = (st j).C ∧ ∀ a, y8b inf bs i a = y8b inf bs j a := by
  have gen : ∀ {i j : Nat}, i ≤ j → j ≤ ss.length → (∀ e, e < ss.length → y50 (inf e) = true → (e < i ↔ e < j)) → (st j).C = (st i).C ∧ ∀ a, y8b inf bs j a = y8b inf bs i a := fun {i j} hij hj h => by
    have := yj8 (bs := bs) hst i (j - i) (by omega) fun e h1 h2 => by
      cases hc : y50 (inf e) with
      | false => rfl
      | true => have := (h e (by omega) hc); omega
    rwa [show i + (j - i) = j by omega] at this
  rcases Nat.le_total i j with q | q
  · have := gen q hj h
    exact ⟨this.1.symm, fun a => (this.2 a).symm⟩
  · exact gen q hi fun e h1 h2 => (h e h1 h2).symm
theorem yl7 {Fs : Nat → Fr} {vs : Nat → V} (hput : ∀ j s, ss[j]? = some s → Fs (j + 1) = Am.put (Fs j) s.dst (vs j)) (t : Nat) : ∀ j, j ≤ ss.length → LW ss vs (y66 (Fs 0) t) t (· < j) (y66 (Fs j) t)
  | 0, _ => .inr ⟨fun i s h => absurd h (by omega), rfl⟩
  | j + 1, hj => by
    have hs : ss[j]? = some ss[j] := List.getElem?_eq_getElem (by omega)
    rw [hput j _ hs, yd3]
    have ih := yl7 hput t j (by omega)
    by_cases hd : (ss[j]).dst = some t
    · rw [if_pos hd]
      exact .inl ⟨j, _, by omega, hs, hd, rfl, fun i' s' h1 _ _ => by omega⟩
    · rw [if_neg hd]
      have no : ∀ i s, ss[i]? = some s → s.dst = some t → (i < j + 1 ↔ i < j) := fun i s h1 h2 => by
        constructor
        · intro h3
          rcases Nat.lt_or_ge i j with h4 | h4
          · exact h4
          · have : i = j := by omega
            subst this
            rw [hs] at h1; injection h1 with h1; subst h1
            exact absurd h2 hd
        · intro; omega
      rcases ih with ⟨i, s, a1, a2, a3, a4, a5⟩ | ⟨a1, a2⟩
      · exact .inl ⟨i, s, by omega, a2, a3, a4, fun i' s' h1 h2 h3 => a5 i' s' ((no i' s' h2 h3).1 h1) h2 h3⟩
      · exact .inr ⟨fun i s h1 h2 h3 => a1 i s ((no i s h2 h3).1 h1) h2 h3, a2⟩
end
theorem ymn {l : List PendE} (hd : l.Pairwise (fun a b => a.id ≠ b.id)) (C : Hp) (p q r : PendE → Bool) (h : ∀ x, r x = (p x || q x)) (hpq : ∀ x ∈ l, p x = true → q x = false) :
    y4a C (l.filter r) = y4a (y4a C (l.filter p)) (l.filter q) := by
  have e1 : ∀ k, (y4a C (l.filter r)).get k = (y4a (y4a C (l.filter p)) (l.filter q)).get k := fun k => by
    rcases y4e (C := y4a C (l.filter p)) (hd.filter q) k with ⟨x, hx, rfl, hg⟩ | ⟨hn, hg⟩
    · rw [hg]
      rw [List.mem_filter] at hx
      exact y84 _ _ (hd.filter r) x (List.mem_filter.2 ⟨hx.1, by rw [h]; simp [hx.2]⟩)
    · rw [hg]
      rcases y4e (C := C) (hd.filter p) k with ⟨x, hx, rfl, hg'⟩ | ⟨hn', hg'⟩
      · rw [hg']
        rw [List.mem_filter] at hx
        exact y84 _ _ (hd.filter r) x (List.mem_filter.2 ⟨hx.1, by rw [h]; simp [hx.2]⟩)
      · rw [hg']
        refine y82 _ _ _ fun x hx e => ?_
        rw [List.mem_filter, h] at hx
        cases hp : p x with
        | true => exact hn' x (List.mem_filter.2 ⟨hx.1, hp⟩) e
        | false => exact hn x (List.mem_filter.2 ⟨hx.1, by simpa [hp] using hx.2⟩) e
  have e2 : (y4a C (l.filter r)).next = (y4a (y4a C (l.filter p)) (l.filter q)).next := by rw [y4p, y4p, y4p]
  cases h1 : y4a C (l.filter r) with
  | mk g1 n1 =>
    cases h2 : y4a (y4a C (l.filter p)) (l.filter q) with
    | mk g2 n2 =>
      rw [h1, h2] at e1 e2
      simp only [Hp.mk.injEq]
      exact ⟨funext e1, e2⟩
end Go.Proofs.YtjajpilacdfnbaaGreatDoor.Am
