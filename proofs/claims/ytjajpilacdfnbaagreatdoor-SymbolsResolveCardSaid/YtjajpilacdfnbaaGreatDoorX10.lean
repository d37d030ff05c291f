/- Part 10 of the proof of the laws of the queries: Am14, Am15, Am16. -/
import Derived.Test.YtjajpilacdfnbaaGreatDoorX9
namespace Go.Proofs.YtjajpilacdfnbaaGreatDoor.Am
open Go Go.RowKit
set_option linter.unusedSimpArgs false
set_option linter.unusedVariables false
inductive Rch (ops : Array Oper) : Nat → Nat → Prop
  | edge (j : Nat) (o : Oper) (e : Edge) : ops[j]? = some o → e ∈ o.after → Region.binds .any e = true → Rch ops e.on j
  | step (i k j : Nat) : Rch ops i k → Rch ops k j → Rch ops i j
def ygp (acc : List Nat) (es : List Edge) : Nat :=
  match es with
  | [] => 0
  | e :: r => if Region.binds .any e then (2 ^ e.on ||| (acc.getD e.on 0 ||| ygp acc r)) else ygp acc r
def befs (acc : List Nat) : List Oper → List Nat
  | [] => acc
  | o :: r => befs (acc ++ [ygp acc o.after.toList]) r
theorem ydm {ops : Array Oper} {acc : List Nat} {j : Nat} {o : Oper} (ho : ops[j]? = some o) (hacc : ∀ k m, acc[k]? = some m → ∀ i, m.testBit i = true → Rch ops i k) :
    ∀ (es : List Edge), (∀ e ∈ es, e ∈ o.after) → ∀ i, (ygp acc es).testBit i = true → Rch ops i j
  | [], _, i, h => by simp [ygp] at h
  | e :: r, hes, i, h => by
    simp only [ygp] at h
    split at h
    · rename_i hb
      simp only [Nat.testBit_or, Bool.or_eq_true] at h
      have he : Rch ops e.on j := .edge j o e ho (hes e (by simp)) hb
      rcases h with h | h | h
      · rw [Nat.testBit_two_pow] at h
        simp at h; subst h; exact he
      · cases ha : acc[e.on]? with
        | none => simp [List.getD, ha] at h
        | some m => simp [List.getD, ha] at h; exact .step _ _ _ (hacc _ _ ha i h) he
      · exact ydm ho hacc r (fun e he => hes e (by simp [he])) i h
    · exact ydm ho hacc r (fun e he => hes e (by simp [he])) i h
theorem yfs {ops : Array Oper} : ∀ (os : List Oper) (acc : List Nat), (∀ j, os[j]? = ops[acc.length + j]?) → (∀ k m, acc[k]? = some m → ∀ i, m.testBit i = true → Rch ops i k) →
    ∀ (j m : Nat), (befs acc os)[j]? = some m → ∀ i, m.testBit i = true → Rch ops i j
  | [], acc, _, hacc, j, m, h => hacc j m h
  | o :: r, acc, hos, hacc, j, m, h => by
    have h0 : ops[acc.length]? = some o := by simpa using (hos 0).symm
    refine yfs r (acc ++ [ygp acc o.after.toList]) (fun j => ?_) (fun k m hk => ?_) j m h
    · have := hos (j + 1)
      simpa [Nat.add_assoc, Nat.add_comm 1 j] using this
    · by_cases hka : k < acc.length
      · rw [List.getElem?_append_left hka] at hk; exact hacc k m hk
      · rw [List.getElem?_append_right (by omega)] at hk
        have : k = acc.length := by
          rcases Nat.lt_or_ge (k - acc.length) 1 with q | q
          · omega
          · simp [List.getElem?_eq_none (show ([ygp acc o.after.toList] : List Nat).length ≤ k - acc.length by simpa using q)] at hk
        subst this
        simp at hk; subst hk
        exact ydm h0 hacc _ (fun e he => by simpa using he)
def y44 (bs : List Nat) (i j : Nat) : Bool := (bs.getD j 0).testBit i
def yh0 (ops : List Oper) : Bool := ops.zipIdx.all fun (o, j) => o.after.all fun e => !Region.binds .any e || decide (e.on < j)
def ybt (x y : AStep) : Bool :=
  (match x.dst with | some d => (otS y).contains d || y.dst == some d | none => false) || (match y.dst with | some d => (otS x).contains d | none => false)
def ydb (bs : List Nat) (ss : List AStep) : Bool :=
  ss.zipIdx.all fun (y, j) => (ss.take j).zipIdx.all fun (x, i) => !ybt x y || y44 bs i j
structure LogE where
  i : Nat
  c : Cls
  H0 : Hp
  H1 : Hp
  re : Hp → Prop
def y8l (bs : List Nat) (x y : LogE) : Prop :=
  y44 bs x.i y.i = true ∨ match x.c, y.c with
    | .eff, .eff => False
    | .rd, .eff => x.re y.H1
    | .eff, .rd => y.re x.H0
    | _, _ => True
def y9p (bs : List Nat) : List LogE → LogE → Prop
  | [], _ => True
  | x :: l, y => y8l bs x y ∧ y9p bs l y
theorem ydi {bs : List Nat} {y : LogE} : ∀ {l : List LogE}, y9p bs l y → ∀ x ∈ l, y8l bs x y
  | [], _, _, h => by cases h
  | x :: l, h, z, hz => by
    rcases List.mem_cons.1 hz with rfl | hz
    · exact h.1
    · exact ydi h.2 z hz
theorem ycl {bs : List Nat} {ss : List AStep} (h : ydb bs ss = true) {i j : Nat} {x y : AStep} (hij : i < j) (hi : ss[i]? = some x) (hj : ss[j]? = some y) (hc : ybt x y = true) : y44 bs i j = true := by
  have hm : (y, j) ∈ ss.zipIdx := by rw [List.mem_zipIdx_iff_getElem?]; simpa using hj
  have h1 := List.all_eq_true.1 h _ hm
  have hm2 : (x, i) ∈ (ss.take j).zipIdx := by
    rw [List.mem_zipIdx_iff_getElem?]
    simp [hij, hi]
  have := List.all_eq_true.1 h1 _ hm2
  simpa [hc] using this
structure StepR (P : Program) (n : Nat) (ops : Array Oper) (j : Nat) (s : AStep) (F F' : Fr) (H H' : Hp) (v : V) (c : Cls) (re : Hp → Prop) : Prop where
  ex : ∃ o, ops[j]? = some o ∧ o.dst = s.dst
  dok : ye9 n s.dst = true
  put : F' = Am.put F s.dst v
  same : c ≠ .eff → H' = H
  here : c = .rd → re H
  run : ∀ (ro : Option Nat) (κ : K) (a : Act) (F2 : Fr) (H2 : Hp), At κ F2 H2 n ro a → y5d (otS s) F2 F → (c = .eff → H2 = H) → (c = .rd → re H2) →
    ∀ (J : Act → World → Prop) (Q : Exit → Act → World → Prop), (∀ κ' cv, κ.Le κ' → Sim κ' (if c = .eff then H' else H2) → VR κ' v cv → J (a.put s.dst cv) κ'.w) → wpOpIn (FF ro) 0 P ops Q j J a κ.w
def yn8 (P : Program) (f : FuncId) (args : List V) (K : Cls → V → Hp → (Hp → Prop) → Prop) (H : Hp) : Prop :=
  (∃ v, (∀ H2, AC P f args H2 fun u H' => u = v ∧ H' = H2) ∧ K .pure v H (fun _ => True)) ∨
  (∃ v, AC P f args H (fun u H' => u = v ∧ H' = H) ∧ K .rd v H (fun H2 => AC P f args H2 fun u H' => u = v ∧ H' = H2)) ∨
  ∃ v H1, AC P f args H (fun u H' => u = v ∧ H' = H1) ∧ K .eff v H1 (fun _ => True)
def goD (P : Program) (s : AStep) (K : Cls → V → Hp → (Hp → Prop) → Prop) (F : Fr) (H : Hp) : Prop :=
  match s.d with
  | .op o => match y2z o F H with
    | some (v, H') => K (yjy o F) v H' (fun H2 => y2z o F H2 = some (v, H2))
    | none => False
  | .call f args => yn8 P f (evs F args) K H
  | .callv fv args => match ev F fv with
    | .fn f caps => yn8 P f (evs F args ++ caps) K H
    | _ => False
  | .nxt _ => False
def logD (bs : List Nat) (j : Nat) (c : Cls) (H H' : Hp) (re : Hp → Prop) (log : List LogE) (k : List LogE → Prop) : Prop :=
  match c with
  | .pure => k log
  | c => y9p bs log ⟨j, c, H, H', re⟩ ∧ k (log ++ [⟨j, c, H, H', re⟩])
def ybb (P : Program) (bs : List Nat) : Nat → List AStep → List LogE → (Fr → Hp → Prop) → Fr → Hp → Prop
  | _, [], _, K, F, H => K F H
  | j, s :: r, log, K, F, H =>
    match s.g with
    | none => goD P s (fun c v H' re => logD bs j c H H' re log fun log' => ybb P bs (j + 1) r log' K (put F s.dst v) H') F H
    | some (t, b) => match y66 F t with
      | .b x => (x = b → goD P s (fun c v H' re => logD bs j c H H' re log fun log' => ybb P bs (j + 1) r log' K (put F s.dst v) H') F H) ∧ (x ≠ b → ybb P bs (j + 1) r log K (put F s.dst (.tup [])) H)
      | .tup [] => ybb P bs (j + 1) r log K (put F s.dst (.tup [])) H
      | _ => False
end Go.Proofs.YtjajpilacdfnbaaGreatDoor.Am
namespace Go.Proofs.YtjajpilacdfnbaaGreatDoor.Am
open Go Go.RowKit
set_option linter.unusedSimpArgs false
set_option linter.unusedVariables false
theorem ymh {P : Program} {n : Nat} {ops : Array Oper} {j : Nat} {o : Oper} {s : AStep} (ho : ops[j]? = some o) (hd : o.dst = s.dst) (hn : ye9 n s.dst = true) (hok : yhk P o.op s.d = true)
    {F : Fr} {H : Hp} (hw : ∀ (κ : K) (a : Act) (F2 : Fr), FR κ F2 a.tmps → y5d (otS s) F2 F → Region.wanted o (yielded ops a.tmps) = true) {J0 : Cls → V → Hp → (Hp → Prop) → Prop} (hg : goD P s J0 F H) :
    ∃ c v H' re, StepR P n ops j s F (put F s.dst v) H H' v c re ∧ J0 c v H' re := by
  have hnd := yhj hok
  have wpo : ∀ {ro : Option Nat} {κ : K} {a : Act} {F2 : Fr} {J : Act → World → Prop} {Q : Exit → Act → World → Prop}, FR κ F2 a.tmps → y5d (otS s) F2 F → o.wpIn (FF ro) 0 P a κ.w J Q → wpOpIn (FF ro) 0 P ops Q j J a κ.w := fun {ro κ a F2 J Q} r ag h => by
    unfold wpOpIn
    simp only [ho]
    rw [if_pos (hw κ a F2 r ag)]
    exact h
  obtain ⟨sd, sg, sdo⟩ := s
  cases sdo with
  | op p =>
    simp only [goD] at hg
    split at hg
    · rename_i v H' hst
      have same : yjy p F ≠ .eff → H' = H := fun hne => by
        cases hc : yjy p F with
        | pure => exact (yj7 hc hst).1
        | rd => exact cls_rd hc hst
        | eff => exact absurd hc hne
      refine ⟨yjy p F, v, H', _, ⟨⟨o, ho, hd⟩, hn, rfl, same, fun hr => ?_, fun ro κ a F2 H2 A ag hH hR J Q hJ => ?_⟩, hg⟩
      · have e := same (by rw [hr]; simp)
        rw [e] at hst; exact hst
      · refine wpo A.r ag ?_
        have ag' : y5d (ykd p) F2 F := y5d.left (a := ykd p) ag
        have hst2 : y2z p F2 H2 = some (v, if yjy p F = .eff then H' else H2) := by
          rw [yi0 ag']
          cases hc : yjy p F with
          | pure => simpa using (yj7 hc hst).2 H2
          | rd => simpa using hR hc
          | eff => have := hH hc; subst this; simpa using hst
        obtain ⟨κ', nx, cv, le, S', rv, run, hnx⟩ := yhi hok F2 H2 v _ hst2 κ a A.S A.r
        have := hJ κ' cv le S' rv
        refine yc7 hnd ?_
        rw [run]
        rcases hnx with rfl | ⟨rfl, rfl⟩
        · simp only [Oper.uponIn_value]; rw [hd]; exact this
        · simp only [Oper.uponIn_skip]; rw [hd]; exact this
    · exact hg.elim
  | call f args =>
    simp only [goD] at hg
    simp only [yhk] at hok
    split at hok
    · rename_i g os ts hop
      simp only [Bool.and_eq_true, beq_iff_eq] at hok
      obtain ⟨rfl, h2⟩ := hok
      have run : ∀ {ro : Option Nat} {κ : K} {a : Act} {F2 : Fr} {H2 : Hp} {R : V → Hp → Prop} {J : Act → World → Prop} {Q : Exit → Act → World → Prop}, At κ F2 H2 n ro a → y5d (yiq args) F2 F → AC P f (evs F args) H2 R →
          (∀ κ' v cv H', κ.Le κ' → Sim κ' H' → VR κ' v cv → R v H' → J (a.put o.dst cv) κ'.w) → o.wpIn (FF ro) 0 P a κ.w J Q := fun {ro κ a F2 H2 R J Q} A ag hac hK => by
        have hv := y8d h2 A.r
        rw [ag.evs] at hv
        refine yeu hac A.S (cs := os.map a.eval) (by rw [Array.toList_map]; exact hv) hnd ?_ hK
        simp only [execOp, hop, resolve, Sem.run_bind, Act.eval, Deferred.ofValue, Sem.run_pure, Result.andThen_ok, invoke]
        simpa using y6z hac.1
      simp only [yn8] at hg
      rcases hg with ⟨v, hac, k⟩ | ⟨v, hac, k⟩ | ⟨v, H1, hac, k⟩
      · refine ⟨.pure, v, H, _, ⟨⟨o, ho, hd⟩, hn, rfl, fun _ => rfl, (fun h => by cases h), fun ro κ a F2 H2 A ag hH hR J Q hJ => ?_⟩, k⟩
        refine wpo A.r ag (run A (y5d.left (a := yiq args) ag) (hac H2) fun κ' u cv H' le S' rv hR => ?_)
        obtain ⟨rfl, rfl⟩ := hR
        rw [hd]; exact hJ κ' cv le (by simpa using S') rv
      · refine ⟨.rd, v, H, _, ⟨⟨o, ho, hd⟩, hn, rfl, fun _ => rfl, (fun _ => hac), fun ro κ a F2 H2 A ag hH hR J Q hJ => ?_⟩, k⟩
        refine wpo A.r ag (run A (y5d.left (a := yiq args) ag) (hR rfl) fun κ' u cv H' le S' rv hR => ?_)
        obtain ⟨rfl, rfl⟩ := hR
        rw [hd]; exact hJ κ' cv le (by simpa using S') rv
      · refine ⟨.eff, v, H1, _, ⟨⟨o, ho, hd⟩, hn, rfl, fun h => absurd rfl h, (fun h => by cases h), fun ro κ a F2 H2 A ag hH hR J Q hJ => ?_⟩, k⟩
        have := hH rfl; subst this
        refine wpo A.r ag (run A (y5d.left (a := yiq args) ag) hac fun κ' u cv H' le S' rv hR => ?_)
        obtain ⟨rfl, rfl⟩ := hR
        rw [hd]; exact hJ κ' cv le (by simpa using S') rv
    · cases hok
  | nxt x => simp only [goD] at hg
  | callv fv args =>
    simp only [goD] at hg
    simp only [yhk] at hok
    split at hg
    · rename_i f caps hfv
      split at hok
      · rename_i x os ts hop
        simp only [Bool.and_eq_true] at hok
        obtain ⟨h1, h2⟩ := hok
        have run : ∀ {ro : Option Nat} {κ : K} {a : Act} {F2 : Fr} {H2 : Hp} {R : V → Hp → Prop} {J : Act → World → Prop} {Q : Exit → Act → World → Prop}, At κ F2 H2 n ro a → y5d (otA fv ++ yiq args) F2 F → AC P f (evs F args ++ caps) H2 R →
            (∀ κ' v cv H', κ.Le κ' → Sim κ' H' → VR κ' v cv → R v H' → J (a.put o.dst cv) κ'.w) → o.wpIn (FF ro) 0 P a κ.w J Q := fun {ro κ a F2 H2 R J Q} A ag hac hK => by
          have hv := y8d h2 A.r
          rw [ag.right.evs] at hv
          have hx := y2v h1 A.r
          rw [ag.left.ev, hfv] at hx
          generalize hcx : a.eval x = c at hx
          cases hx with
          | fn _ _ cs g1 g2 =>
            refine yeu hac A.S (cs := os.map a.eval ++ cs.toArray) (by simpa using hv.append ⟨g1, g2⟩) hnd ?_ hK
            simp only [execOp, hop, resolve, Sem.run_bind, hcx, Deferred.ofValue, Sem.run_pure, Result.andThen_ok, invoke]
            simpa using y6z hac.1
        simp only [yn8] at hg
        rcases hg with ⟨v, hac, k⟩ | ⟨v, hac, k⟩ | ⟨v, H1, hac, k⟩
        · refine ⟨.pure, v, H, _, ⟨⟨o, ho, hd⟩, hn, rfl, fun _ => rfl, (fun h => by cases h), fun ro κ a F2 H2 A ag hH hR J Q hJ => ?_⟩, k⟩
          refine wpo A.r ag (run A (y5d.left (a := otA fv ++ yiq args) ag) (hac H2) fun κ' u cv H' le S' rv hR => ?_)
          obtain ⟨rfl, rfl⟩ := hR
          rw [hd]; exact hJ κ' cv le (by simpa using S') rv
        · refine ⟨.rd, v, H, _, ⟨⟨o, ho, hd⟩, hn, rfl, fun _ => rfl, (fun _ => hac), fun ro κ a F2 H2 A ag hH hR J Q hJ => ?_⟩, k⟩
          refine wpo A.r ag (run A (y5d.left (a := otA fv ++ yiq args) ag) (hR rfl) fun κ' u cv H' le S' rv hR => ?_)
          obtain ⟨rfl, rfl⟩ := hR
          rw [hd]; exact hJ κ' cv le (by simpa using S') rv
        · refine ⟨.eff, v, H1, _, ⟨⟨o, ho, hd⟩, hn, rfl, fun h => absurd rfl h, (fun h => by cases h), fun ro κ a F2 H2 A ag hH hR J Q hJ => ?_⟩, k⟩
          have := hH rfl; subst this
          refine wpo A.r ag (run A (y5d.left (a := otA fv ++ yiq args) ag) hac fun κ' u cv H' le S' rv hR => ?_)
          obtain ⟨rfl, rfl⟩ := hR
          rw [hd]; exact hJ κ' cv le (by simpa using S') rv
      · cases hok
    · exact hg.elim
theorem yhe {P : Program} {n : Nat} {ops : Array Oper} {j : Nat} {o : Oper} {s : AStep} (ho : ops[j]? = some o) (hd : o.dst = s.dst) (hn : ye9 n s.dst = true) {F : Fr} {H : Hp}
    (hw : ∀ (κ : K) (a : Act) (F2 : Fr), FR κ F2 a.tmps → y5d (otS s) F2 F → Region.wanted o (yielded ops a.tmps) = false) : StepR P n ops j s F (put F s.dst (.tup [])) H H (.tup []) .pure (fun _ => True) :=
  ⟨⟨o, ho, hd⟩, hn, rfl, fun _ => rfl, (fun h => by cases h), fun ro κ a F2 H2 A ag hH hR J Q hJ => by
    unfold wpOpIn
    simp only [ho]
    rw [if_neg (by rw [hw κ a F2 A.r ag]; simp), hd]
    refine ⟨fun _ _ => trivial, ?_⟩
    exact hJ κ undef (.refl κ) (by simpa using A.S) (.und κ)⟩
theorem yja {P : Program} {n : Nat} {ops : Array Oper} {bs : List Nat} : ∀ {os : List Oper} {ss : List AStep} (k : Nat), y74 P n ops os ss = true → (∀ j, os[j]? = ops[k + j]?) →
    ∀ {log : List LogE} {J : Fr → Hp → Prop} {F : Fr} {H : Hp}, ybb P bs k ss log J F H →
    ∃ (Fs : Nat → Fr) (Hs : Nat → Hp) (vs : Nat → V) (cl : Nat → Cls) (re : Nat → Hp → Prop), Fs k = F ∧ Hs k = H ∧
      (∀ j s, ss[j]? = some s → StepR P n ops (k + j) s (Fs (k + j)) (Fs (k + j + 1)) (Hs (k + j)) (Hs (k + j + 1)) (vs (k + j)) (cl (k + j)) (re (k + j))) ∧
      (∀ j, j < ss.length → cl (k + j) ≠ .pure → ∀ x ∈ log, y8l bs x ⟨k + j, cl (k + j), Hs (k + j), Hs (k + j + 1), re (k + j)⟩) ∧
      (∀ i j, i < j → j < ss.length → cl (k + i) ≠ .pure → cl (k + j) ≠ .pure → y8l bs ⟨k + i, cl (k + i), Hs (k + i), Hs (k + i + 1), re (k + i)⟩ ⟨k + j, cl (k + j), Hs (k + j), Hs (k + j + 1), re (k + j)⟩) ∧
      J (Fs (k + ss.length)) (Hs (k + ss.length))
  | [], [], k, _, _, log, J, F, H, h => ⟨fun _ => F, fun _ => H, fun _ => .junk, fun _ => .pure, fun _ _ => True, rfl, rfl, fun j s hj => by simp at hj, fun j hj => by simp at hj, fun i j _ hj => by simp at hj, by simpa [ybb] using h⟩
  | o :: os, s :: ss, k, hok, hos, log, J, F, H, h => by
    simp only [y74, yir, Bool.and_eq_true, beq_iff_eq] at hok
    obtain ⟨⟨⟨⟨h1, h2⟩, h3⟩, h4⟩, h5⟩ := hok
    have h0 : ops[k]? = some o := by simpa using (hos 0).symm
    have cons : ∀ {v : V} {H' : Hp} {c : Cls} {r : Hp → Prop}, StepR P n ops k s F (put F s.dst v) H H' v c r → logD bs k c H H' r log (fun log' => ybb P bs (k + 1) ss log' J (put F s.dst v) H') →
        ∃ (Fs : Nat → Fr) (Hs : Nat → Hp) (vs : Nat → V) (cl : Nat → Cls) (re : Nat → Hp → Prop), Fs k = F ∧ Hs k = H ∧
          (∀ j t, (s :: ss)[j]? = some t → StepR P n ops (k + j) t (Fs (k + j)) (Fs (k + j + 1)) (Hs (k + j)) (Hs (k + j + 1)) (vs (k + j)) (cl (k + j)) (re (k + j))) ∧
          (∀ j, j < (s :: ss).length → cl (k + j) ≠ .pure → ∀ x ∈ log, y8l bs x ⟨k + j, cl (k + j), Hs (k + j), Hs (k + j + 1), re (k + j)⟩) ∧
          (∀ i j, i < j → j < (s :: ss).length → cl (k + i) ≠ .pure → cl (k + j) ≠ .pure → y8l bs ⟨k + i, cl (k + i), Hs (k + i), Hs (k + i + 1), re (k + i)⟩ ⟨k + j, cl (k + j), Hs (k + j), Hs (k + j + 1), re (k + j)⟩) ∧
          J (Fs (k + (s :: ss).length)) (Hs (k + (s :: ss).length)) := fun {v H' c r} st hr => by
      obtain ⟨log', hlog, hself, hr'⟩ : ∃ log', (∀ x ∈ log, x ∈ log') ∧ (c ≠ .pure → (⟨k, c, H, H', r⟩ : LogE) ∈ log' ∧ y9p bs log ⟨k, c, H, H', r⟩) ∧ ybb P bs (k + 1) ss log' J (put F s.dst v) H' := by
        cases c with
        | pure => exact ⟨log, fun _ h => h, fun h => absurd rfl h, hr⟩
        | rd => exact ⟨_, fun _ h => by simp [h], fun _ => ⟨by simp, hr.1⟩, hr.2⟩
        | eff => exact ⟨_, fun _ h => by simp [h], fun _ => ⟨by simp, hr.1⟩, hr.2⟩
      obtain ⟨Fs, Hs, vs, cl, re, e1, e2, e3, e4, e5, e6⟩ := yja (k + 1) h5 (fun j => by have := hos (j + 1); simpa [Nat.add_assoc, Nat.add_comm 1 j] using this) hr'
      have ne : ∀ j, k + (j + 1) ≠ k := fun j => by omega
      have ne2 : ∀ j, k + (j + 1) + 1 ≠ k := fun j => by omega
      have sh : ∀ j, k + 1 + j = k + (j + 1) := fun j => by omega
      refine ⟨fun j => if j = k then F else Fs j, fun j => if j = k then H else Hs j, fun j => if j = k then v else vs j, fun j => if j = k then c else cl j, fun j => if j = k then r else re j, by simp, by simp, fun j t hj => ?_, fun j hj hc x hx => ?_, fun i j hij hj hci hcj => ?_, ?_⟩
      · cases j with
        | zero =>
          simp at hj; subst hj
          simp only [Nat.add_zero, if_true, show k + 1 ≠ k by omega, if_false, e1, e2]
          exact st
        | succ j =>
          have := e3 j t (by simpa using hj)
          simp only [ne, ne2, if_false]
          simpa only [sh] using this
      · cases j with
        | zero =>
          simp only [Nat.add_zero, if_true, show k + 1 ≠ k by omega, if_false, e2] at hc ⊢
          exact ydi (hself hc).2 x hx
        | succ j =>
          simp only [ne, ne2, if_false] at hc ⊢
          have := e4 j (by simpa using hj) (by rw [sh]; exact hc) x (hlog x hx)
          simpa only [sh] using this
      · cases j with
        | zero => omega
        | succ j =>
          cases i with
          | zero =>
            simp only [Nat.add_zero, if_true, show k + 1 ≠ k by omega, if_false, e2, ne, ne2] at hci hcj ⊢
            have := e4 j (by simpa using hj) (by rw [sh]; exact hcj) _ (hself hci).1
            simpa only [sh] using this
          | succ i =>
            simp only [ne, ne2, if_false] at hci hcj ⊢
            have := e5 i j (by omega) (by simpa using hj) (by rw [sh]; exact hci) (by rw [sh]; exact hcj)
            simpa only [sh] using this
      · simp only [List.length_cons, show k + (ss.length + 1) ≠ k by omega, if_false]
        simpa only [sh] using e6
    have wt : ∀ (κ : K) (a : Act) (F2 : Fr), FR κ F2 a.tmps → (s.g = none ∧ Region.wanted o (yielded ops a.tmps) = true) ∨ ∃ t b, s.g = some (t, b) ∧ (∀ x, y66 F2 t = .b x → Region.wanted o (yielded ops a.tmps) = decide (x = b)) ∧ (y66 F2 t = .tup [] → Region.wanted o (yielded ops a.tmps) = false) := fun κ a F2 r => yd9 r h3
    simp only [ybb] at h
    split at h
    · rename_i hgd
      obtain ⟨c, v, H', r, st, hr⟩ := ymh h0 h1 h2 h4 (fun κ a F2 r ag => by
        rcases wt κ a F2 r with ⟨_, hw⟩ | ⟨t, b, e, _⟩
        · exact hw
        · rw [hgd] at e; cases e) h
      exact cons st hr
    · rename_i t b hgd
      have agt : ∀ {F2 : Fr}, y5d (otS s) F2 F → y66 F2 t = y66 F t := fun {F2} ag => ag t (by simp [otS, hgd])
      split at h
      · rename_i x hx
        by_cases hxb : x = b
        · obtain ⟨c, v, H', r, st, hr⟩ := ymh h0 h1 h2 h4 (fun κ a F2 r ag => by
            rcases wt κ a F2 r with ⟨e, _⟩ | ⟨t', b', e, hw⟩
            · rw [hgd] at e; cases e
            · rw [hgd] at e; injection e with e; injection e with e1 e2; subst e1; subst e2
              rw [hw.1 x (by rw [agt ag]; exact hx)]; simp [hxb]) (h.1 hxb)
          exact cons st hr
        · refine cons (r := fun _ => True) (yhe h0 h1 h2 (fun κ a F2 r ag => ?_)) (h.2 hxb)
          rcases wt κ a F2 r with ⟨e, _⟩ | ⟨t', b', e, hw⟩
          · rw [hgd] at e; cases e
          · rw [hgd] at e; injection e with e; injection e with e1 e2; subst e1; subst e2
            rw [hw.1 x (by rw [agt ag]; exact hx)]; simp [hxb]
      · rename_i hx
        refine cons (r := fun _ => True) (yhe h0 h1 h2 (fun κ a F2 r ag => ?_)) h
        rcases wt κ a F2 r with ⟨e, _⟩ | ⟨t', b', e, hw⟩
        · rw [hgd] at e; cases e
        · rw [hgd] at e; injection e with e; injection e with e1 e2; subst e1; subst e2
          exact hw.2 (by rw [agt ag]; exact hx)
      · exact h.elim
  | [], _ :: _, _, h, _, _, _, _, _, _ => by cases h
  | _ :: _, [], _, h, _, _, _, _, _, _ => by cases h
end Go.Proofs.YtjajpilacdfnbaaGreatDoor.Am
namespace Go.Proofs.YtjajpilacdfnbaaGreatDoor.Am
open Go Go.RowKit
set_option linter.unusedSimpArgs false
set_option linter.unusedVariables false
def LW (ss : List AStep) (vs : Nat → V) (z : V) (t : Nat) (p : Nat → Prop) (x : V) : Prop :=
  (∃ i s, p i ∧ ss[i]? = some s ∧ s.dst = some t ∧ x = vs i ∧ ∀ i' s', p i' → ss[i']? = some s' → s'.dst = some t → i' ≤ i) ∨
  ((∀ i s, p i → ss[i]? = some s → s.dst ≠ some t) ∧ x = z)
theorem LW.eq {ss : List AStep} {vs : Nat → V} {z : V} {t : Nat} {p q : Nat → Prop} {x y : V} (h : LW ss vs z t p x) (k : LW ss vs z t q y) (e : ∀ i s, ss[i]? = some s → s.dst = some t → (p i ↔ q i)) : x = y := by
  rcases h with ⟨i, s, a1, a2, a3, a4, a5⟩ | ⟨a1, a2⟩ <;> rcases k with ⟨j, u, b1, b2, b3, b4, b5⟩ | ⟨b1, b2⟩
  · have h1 := a5 j u ((e j u b2 b3).2 b1) b2 b3
    have h2 := b5 i s ((e i s a2 a3).1 a1) a2 a3
    have : i = j := by omega
    subst this; rw [a4, b4]
  · exact absurd a3 (b1 i s ((e i s a2 a3).1 a1) a2)
  · exact absurd b3 (a1 j u ((e j u b2 b3).2 b1) b2)
  · rw [a2, b2]
def LH (N : Nat) (cl : Nat → Cls) (Hs : Nat → Hp) (p : Nat → Prop) (X : Hp) : Prop :=
  (∃ i, p i ∧ i < N ∧ cl i = .eff ∧ X = Hs (i + 1) ∧ ∀ i', p i' → i' < N → cl i' = .eff → i' ≤ i) ∨ ((∀ i, p i → i < N → cl i ≠ .eff) ∧ X = Hs 0)
theorem LH.eq {N : Nat} {cl : Nat → Cls} {Hs : Nat → Hp} {p q : Nat → Prop} {X Y : Hp} (h : LH N cl Hs p X) (k : LH N cl Hs q Y) (e : ∀ i, i < N → cl i = .eff → (p i ↔ q i)) : X = Y := by
  rcases h with ⟨i, a1, a2, a3, a4, a5⟩ | ⟨a1, a2⟩ <;> rcases k with ⟨j, b1, b2, b3, b4, b5⟩ | ⟨b1, b2⟩
  · have h1 := a5 j ((e j b2 b3).2 b1) b2 b3
    have h2 := b5 i ((e i a2 a3).1 a1) a2 a3
    have : i = j := by omega
    subst this; rw [a4, b4]
  · exact absurd a3 (b1 i ((e i a2 a3).1 a1) a2)
  · exact absurd b3 (a1 j ((e j b2 b3).2 b1) b2)
  · rw [a2, b2]
theorem yd3 (F : Fr) (d : Option Nat) (v : V) (t : Nat) : y66 (put F d v) t = if d = some t then v else y66 F t := by
  cases d with
  | none => simp [put]
  | some d => simp [put, fset, y66, eq_comm]
section
variable {P : Program} {n : Nat} {ops : Array Oper} {ss : List AStep} {Fs : Nat → Fr} {Hs : Nat → Hp} {vs : Nat → V} {cl : Nat → Cls} {re : Nat → Hp → Prop}
theorem yl8 (st : ∀ j s, ss[j]? = some s → StepR P n ops j s (Fs j) (Fs (j + 1)) (Hs j) (Hs (j + 1)) (vs j) (cl j) (re j)) (t : Nat) : ∀ j, j ≤ ss.length → LW ss vs (y66 (Fs 0) t) t (· < j) (y66 (Fs j) t)
  | 0, _ => .inr ⟨fun i s h => absurd h (by omega), rfl⟩
  | j + 1, hj => by
    have hs : ss[j]? = some ss[j] := List.getElem?_eq_getElem (by omega)
    have h := st j _ hs
    rw [h.put, yd3]
    have ih := yl8 st t j (by omega)
    by_cases hd : (ss[j]).dst = some t
    · rw [if_pos hd]
      exact .inl ⟨j, _, by omega, hs, hd, rfl, fun i' s' h1 _ _ => by omega⟩
    · rw [if_neg hd]
      have no : ∀ i s, ss[i]? = some s → s.dst = some t → (i < j + 1 ↔ i < j) := fun i s h1 h2 => by
        constructor
        · intro h3
          rcases Nat.lt_or_ge i j with h4 | h4
          · exact h4
          · have : i = j := by omega
            subst this
            rw [hs] at h1; injection h1 with h1; subst h1
            exact absurd h2 hd
        · intro; omega
      rcases ih with ⟨i, s, a1, a2, a3, a4, a5⟩ | ⟨a1, a2⟩
      · exact .inl ⟨i, s, by omega, a2, a3, a4, fun i' s' h1 h2 h3 => a5 i' s' ((no i' s' h2 h3).1 h1) h2 h3⟩
      · exact .inr ⟨fun i s h1 h2 h3 => a1 i s ((no i s h2 h3).1 h1) h2 h3, a2⟩
theorem yg4 (st : ∀ j s, ss[j]? = some s → StepR P n ops j s (Fs j) (Fs (j + 1)) (Hs j) (Hs (j + 1)) (vs j) (cl j) (re j)) : ∀ j, j ≤ ss.length → LH ss.length cl Hs (· < j) (Hs j)
  | 0, _ => .inr ⟨fun i h => absurd h (by omega), rfl⟩
  | j + 1, hj => by
    have hs : ss[j]? = some ss[j] := List.getElem?_eq_getElem (by omega)
    have h := st j _ hs
    have ih := yg4 st j (by omega)
    by_cases hd : cl j = .eff
    · exact .inl ⟨j, by omega, by omega, hd, rfl, fun i' h1 _ _ => by omega⟩
    · rw [h.same hd]
      have no : ∀ i, cl i = .eff → (i < j + 1 ↔ i < j) := fun i h2 => by
        constructor
        · intro h3
          rcases Nat.lt_or_ge i j with h4 | h4
          · exact h4
          · have : i = j := by omega
            subst this; exact absurd h2 hd
        · intro; omega
      rcases ih with ⟨i, a1, a2, a3, a4, a5⟩ | ⟨a1, a2⟩
      · exact .inl ⟨i, by omega, a2, a3, a4, fun i' h1 h2 h3 => a5 i' ((no i' h3).1 h1) h2 h3⟩
      · exact .inr ⟨fun i h1 h2 h3 => a1 i ((no i h3).1 h1) h2 h3, a2⟩
def unl (S : Array Bool) (N : Nat) : Nat := (List.range N).countP fun j => !S.getD j false
theorem ydr {p q : Nat → Bool} : ∀ (l : List Nat), (∀ x ∈ l, q x = true → p x = true) → (∃ x ∈ l, p x = true ∧ q x = false) → l.countP q < l.countP p
  | [], _, h => by obtain ⟨x, h, _⟩ := h; cases h
  | y :: l, h1, h2 => by
    have le : l.countP q ≤ l.countP p := List.countP_mono_left fun x hx => h1 x (by simp [hx])
    obtain ⟨x, hx, hp, hq⟩ := h2
    rcases List.mem_cons.1 hx with rfl | hx
    · rw [List.countP_cons_of_pos hp, List.countP_cons_of_neg (by simp [hq])]; omega
    · have ih := ydr l (fun z hz => h1 z (by simp [hz])) ⟨x, hx, hp, hq⟩
      by_cases hqy : q y = true
      · rw [List.countP_cons_of_pos hqy, List.countP_cons_of_pos (h1 y (by simp) hqy)]; omega
      · rw [List.countP_cons_of_neg hqy]
        by_cases hpy : p y = true
        · rw [List.countP_cons_of_pos hpy]; omega
        · rw [List.countP_cons_of_neg hpy]; exact ih
structure Inv (P : Program) (n : Nat) (ops : Array Oper) (ss : List AStep) (Fs : Nat → Fr) (Hs : Nat → Hp) (vs : Nat → V) (cl : Nat → Cls) (S : Array Bool) (κ : K) (ro : Option Nat) (a : Act) : Prop where
  size : S.size = ss.length
  down : ∀ j, S.getD j false = true → ∀ i, Rch ops i j → S.getD i false = true
  ex : ∃ F2 H2, At κ F2 H2 n ro a ∧ (∀ t, LW ss vs (y66 (Fs 0) t) t (fun i => S.getD i false = true) (y66 F2 t)) ∧ LH ss.length cl Hs (fun i => S.getD i false = true) H2
theorem ymr (hN : ops.size = ss.length) (hback : ∀ j o, ops[j]? = some o → ∀ e ∈ o.after, Region.binds .any e = true → e.on < j)
    (htemps : ∀ i j x y, i < j → ss[i]? = some x → ss[j]? = some y → ybt x y = true → Rch ops i j)
    (hee : ∀ i j, i < j → j < ss.length → cl i = .eff → cl j = .eff → Rch ops i j)
    (hre : ∀ i j, i < j → j < ss.length → cl i = .rd → cl j = .eff → Rch ops i j ∨ re i (Hs (j + 1)))
    (her : ∀ i j, i < j → j < ss.length → cl i = .eff → cl j = .rd → Rch ops i j ∨ re j (Hs i))
    (st : ∀ j s, ss[j]? = some s → StepR P n ops j s (Fs j) (Fs (j + 1)) (Hs j) (Hs (j + 1)) (vs j) (cl j) (re j)) {κ0 : K} {ro : Option Nat} {Q : Exit → Act → World → Prop}
    (hQ : ∀ κ' a', κ0.Le κ' → At κ' (Fs ss.length) (Hs ss.length) n ro a' → Q .normal a' κ'.w) :
    ∀ (fuel : Nat) (S : Array Bool) (κ : K) (a : Act), κ0.Le κ → Inv P n ops ss Fs Hs vs cl S κ ro a → unl S ss.length ≤ fuel → wpAnyIn (FF ro) 0 P .any ops Q fuel S a κ.w := by
  have behind : ∀ {S : Array Bool}, (∀ j, S.getD j false = true → ∀ i, Rch ops i j → S.getD i false = true) → ∀ {j}, j ∈ Region.ready .any ops S → ∀ i, Rch ops i j → S.getD i false = true := fun {S} down {j} hj i hr => by
    obtain ⟨_, o, ho, hp⟩ := mem_ready.1 hj
    have gen : ∀ {i j'}, Rch ops i j' → j' = j → S.getD i false = true := fun {i j'} h => by
      induction h with
      | edge j'' o' e ho' he hb =>
        intro e'; subst e'
        rw [ho] at ho'; injection ho' with ho'; subst ho'
        exact hp e he hb
      | step i k j'' h1 h2 ih1 ih2 => intro e'; exact down k (ih2 e') i h1
    exact gen hr rfl
  have all : ∀ {S : Array Bool}, S.size = ss.length → Region.ready .any ops S = [] → ∀ j, j < ss.length → S.getD j false = true := fun {S} hS hr j => by
    induction j using Nat.strongRecOn with
    | _ j ih =>
      intro hj
      cases hc : S.getD j false with
      | true => rfl
      | false =>
        exfalso
        have hjo : j < ops.size := by omega
        have : j ∈ Region.ready .any ops S := mem_ready.2 ⟨by
            have hjs : j < S.size := by omega
            simp [Array.getD_eq_getD_getElem?, hjs] at hc ⊢
            exact hc, ops[j], Array.getElem?_eq_getElem hjo, fun e he hb => by
          have := hback j _ (Array.getElem?_eq_getElem hjo) e he hb
          exact ih _ this (by omega)⟩
        rw [hr] at this; cases this
  have finish : ∀ {S κ a}, κ0.Le κ → Inv P n ops ss Fs Hs vs cl S κ ro a → Region.ready .any ops S = [] → Q .normal a κ.w := fun {S κ a} le I hr => by
    obtain ⟨F2, H2, A, hF, hH⟩ := I.ex
    have hall := all I.size hr
    have hlt : ∀ {i s}, ss[i]? = some s → i < ss.length := fun {i s} h => (List.getElem?_eq_some_iff.1 h).1
    have e1 : ∀ t, y66 F2 t = y66 (Fs ss.length) t := fun t => (hF t).eq (yl8 st t _ (Nat.le_refl _)) fun i s h1 _ => ⟨fun _ => hlt h1, fun h => hall i h⟩
    have e2 : H2 = Hs ss.length := hH.eq (yg4 st _ (Nat.le_refl _)) fun i h1 _ => ⟨fun _ => h1, fun h => hall i h⟩
    subst e2
    exact hQ κ a le (A.on (.refl _) A.S fun t => by rw [← e1 t]; exact A.r t)
  intro fuel
  induction fuel with
  | zero =>
    intro S κ a le I hf
    have hr : Region.ready .any ops S = [] := by
      rw [List.eq_nil_iff_forall_not_mem]
      intro j hj
      obtain ⟨h1, o, ho, _⟩ := mem_ready.1 hj
      have hjl : j < ss.length := by rw [← hN]; exact (Array.getElem?_eq_some_iff.1 ho).1
      have hpos : 0 < unl S ss.length := List.countP_pos_iff.2 ⟨j, by simpa using hjl, by
        have hjs : j < S.size := by rw [I.size]; exact hjl
        simp [Array.getD_eq_getD_getElem?, hjs] at h1 ⊢
        exact h1⟩
      omega
    exact ⟨hr, finish le I hr⟩
  | succ fuel ih =>
    intro S κ a le I hf
    refine ⟨fun hr => finish le I hr, fun j hj => ?_⟩
    obtain ⟨h1, o, ho, _⟩ := mem_ready.1 hj
    have hjo : j < ops.size := (Array.getElem?_eq_some_iff.1 ho).1
    have hjl : j < ss.length := by omega
    have hjs : j < S.size := by rw [I.size]; exact hjl
    have hSj : S.getD j false = false := by
      simp [Array.getD_eq_getD_getElem?, hjs] at h1 ⊢
      exact h1
    have hs : ss[j]? = some ss[j] := List.getElem?_eq_getElem hjl
    have hst := st j _ hs
    obtain ⟨F2, H2, A, hF, hH⟩ := I.ex
    have bh := behind I.down hj
    have told : ∀ {i s}, ss[i]? = some s → i ≠ j → (ybt s ss[j] = true ∧ i < j ∨ ybt ss[j] s = true ∧ j < i) → (S.getD i false = true ↔ i < j) := fun {i s} hi hne hc => by
      rcases hc with ⟨hc, hlt⟩ | ⟨hc, hlt⟩
      · exact ⟨fun _ => hlt, fun _ => bh i (htemps i j s _ hlt hi hs hc)⟩
      · refine ⟨fun h => ?_, fun h => by omega⟩
        have := I.down i h j (htemps j i _ s hlt hs hi hc)
        rw [hSj] at this; cases this
    have ag : y5d (otS ss[j]) F2 (Fs j) := fun t ht => (hF t).eq (yl8 st t j (by omega)) fun i s h2 h3 => by
      by_cases hij : i = j
      · subst hij
        exact ⟨fun h => (by rw [hSj] at h; cases h), fun h => by omega⟩
      · refine told h2 hij ?_
        rcases Nat.lt_or_gt_of_ne hij with hlt | hgt
        · exact .inl ⟨by simp [ybt, h3, ht], hlt⟩
        · exact .inr ⟨by simp [ybt, h3, ht], hgt⟩
    have notS : ∀ i, S.getD i false = true → ¬ Rch ops j i := fun i h hr => by
      have := I.down i h j hr
      rw [hSj] at this; cases this
    have hHe : cl j = .eff → H2 = Hs j := fun hc => hH.eq (yg4 st j (by omega)) fun i h2 h3 => by
      by_cases hij : i = j
      · subst hij
        exact ⟨fun h => (by rw [hSj] at h; cases h), fun h => by omega⟩
      · rcases Nat.lt_or_gt_of_ne hij with hlt | hgt
        · exact ⟨fun _ => hlt, fun _ => bh i (hee i j hlt hjl h3 hc)⟩
        · exact ⟨fun h => absurd (hee j i hgt h2 hc h3) (notS i h), fun h => by omega⟩
    have hHr : cl j = .rd → re j H2 := fun hc => by
      have seg : ∀ i i', i < ss.length → i' < ss.length → cl i = .eff → cl i' = .eff → S.getD i false = true → S.getD i' false = false → i < i' := fun i i' l1 l2 c1 c2 h1 h2 => by
        rcases Nat.lt_or_ge i i' with q | q
        · exact q
        · exfalso
          rcases Nat.lt_or_ge i' i with q2 | q2
          · have := I.down i h1 i' (hee i' i q2 l1 c2 c1)
            rw [h2] at this; cases this
          · have : i = i' := by omega
            subst this; rw [h1] at h2; cases h2
      by_cases hmiss : ∃ i, i < j ∧ cl i = .eff ∧ S.getD i false = false
      ·
        obtain ⟨i1, h1, h2, h3, hmin⟩ : ∃ i1, i1 < j ∧ cl i1 = .eff ∧ S.getD i1 false = false ∧ ∀ i, i < i1 → cl i = .eff → S.getD i false = true := by
          have wf : ∀ m, (∃ i, i < m ∧ cl i = .eff ∧ S.getD i false = false) → ∃ i1, i1 < m ∧ cl i1 = .eff ∧ S.getD i1 false = false ∧ ∀ i, i < i1 → cl i = .eff → S.getD i false = true := fun m => by
            induction m with
            | zero => rintro ⟨i, h, _⟩; omega
            | succ m ihm =>
              rintro ⟨i, h, hc1, hc2⟩
              by_cases hm : ∃ i, i < m ∧ cl i = .eff ∧ S.getD i false = false
              · obtain ⟨i1, q1, q2, q3, q4⟩ := ihm hm
                exact ⟨i1, by omega, q2, q3, q4⟩
              · refine ⟨i, h, hc1, hc2, fun i' hi' hci' => ?_⟩
                cases hS' : S.getD i' false with
                | true => rfl
                | false => exact absurd ⟨i', by omega, hci', hS'⟩ hm
          obtain ⟨i1, q1, q2, q3, q4⟩ := wf j hmiss
          exact ⟨i1, q1, q2, q3, q4⟩
        have e : H2 = Hs i1 := hH.eq (yg4 st i1 (by omega)) fun i g1 g2 => by
          constructor
          · intro hS; exact seg i i1 g1 (by omega) g2 h2 hS h3
          · intro hlt; exact hmin i hlt g2
        rcases her i1 j h1 hjl h2 hc with hr | hr
        · have := bh i1 hr
          rw [h3] at this; cases this
        · rw [e]; exact hr
      · have hall : ∀ i, i < j → cl i = .eff → S.getD i false = true := fun i h1 h2 => by
          cases hS' : S.getD i false with
          | true => rfl
          | false => exact absurd ⟨i, h1, h2, hS'⟩ hmiss
        by_cases hlate : ∃ i, j < i ∧ i < ss.length ∧ cl i = .eff ∧ S.getD i false = true
        · obtain ⟨i, q1, q2, q3, q4⟩ := hlate
          rcases hH with ⟨i0, a1, a2, a3, a4, a5⟩ | ⟨a1, a2⟩
          · have : i ≤ i0 := a5 i q4 q2 q3
            rcases hre j i0 (by omega) a2 hc a3 with hr | hr
            · exact absurd hr (notS i0 a1)
            · rw [a4]; exact hr
          · exact absurd q3 (a1 i q4 q2)
        · have e : H2 = Hs j := hH.eq (yg4 st j (by omega)) fun i g1 g2 => by
            constructor
            · intro hS
              rcases Nat.lt_or_ge i j with q | q
              · exact q
              · exfalso
                by_cases hij : i = j
                · subst hij; rw [hSj] at hS; cases hS
                · exact hlate ⟨i, by omega, g1, g2, hS⟩
            · intro hlt; exact hall i hlt g2
          rw [e]; exact hst.here hc
    refine hst.run ro κ a F2 H2 A ag hHe hHr _ Q fun κ' cv le' S' rv => ?_
    have set_get : ∀ i, (S.setIfInBounds j true).getD i false = true ↔ (S.getD i false = true ∨ i = j) := fun i => by
      by_cases hij : i = j
      · subst hij; simp [Array.getD_eq_getD_getElem?, hjs]
      · rw [getD_set_ne false (Ne.symm hij)]; simp [hij]
    refine ih _ κ' _ (le.trans le') ⟨by simpa using I.size, fun k hk i hr => ?_, _, _, A.put le' S' hst.dok rv, fun t => ?_, ?_⟩ ?_
    · rw [set_get] at hk ⊢
      rcases hk with hk | rfl
      · exact .inl (I.down k hk i hr)
      · exact .inl (bh i hr)
    · rw [yd3]
      by_cases hd : (ss[j]).dst = some t
      · rw [if_pos hd]
        refine .inl ⟨j, _, (set_get j).2 (.inr rfl), hs, hd, rfl, fun i' s' h2 h3 h4 => ?_⟩
        rcases (set_get i').1 h2 with h5 | h5
        · by_cases hij : i' = j
          · omega
          · rcases Nat.lt_or_gt_of_ne hij with hlt | hgt
            · omega
            · have := (told h3 hij (.inr ⟨by simp [ybt, hd, h4], hgt⟩)).1 h5
              omega
        · omega
      · rw [if_neg hd]
        have no : ∀ i s, ss[i]? = some s → s.dst = some t → ((S.setIfInBounds j true).getD i false = true ↔ S.getD i false = true) := fun i s h2 h3 => by
          rw [set_get]
          refine ⟨fun h => h.resolve_right fun e => ?_, .inl⟩
          subst e
          rw [hs] at h2; injection h2 with h2; subst h2
          exact hd h3
        rcases hF t with ⟨i, s, a1, a2, a3, a4, a5⟩ | ⟨a1, a2⟩
        · exact .inl ⟨i, s, (no i s a2 a3).2 a1, a2, a3, a4, fun i' s' q1 q2 q3 => a5 i' s' ((no i' s' q2 q3).1 q1) q2 q3⟩
        · exact .inr ⟨fun i s q1 q2 q3 => a1 i s ((no i s q2 q3).1 q1) q2 q3, a2⟩
    · by_cases hc : cl j = .eff
      · rw [if_pos hc]
        refine .inl ⟨j, (set_get j).2 (.inr rfl), hjl, hc, rfl, fun i' h2 h3 h4 => ?_⟩
        rcases (set_get i').1 h2 with h5 | h5
        · by_cases hij : i' = j
          · omega
          · rcases Nat.lt_or_gt_of_ne hij with hlt | hgt
            · omega
            · exact absurd (hee j i' hgt h3 hc h4) (notS i' h5)
        · omega
      · rw [if_neg hc]
        have no : ∀ i, cl i = .eff → ((S.setIfInBounds j true).getD i false = true ↔ S.getD i false = true) := fun i h2 => by
          rw [set_get]
          refine ⟨fun h => h.resolve_right fun e => ?_, .inl⟩
          subst e; exact hc h2
        rcases hH with ⟨i, a1, a2, a3, a4, a5⟩ | ⟨a1, a2⟩
        · exact .inl ⟨i, (no i a3).2 a1, a2, a3, a4, fun i' q1 q2 q3 => a5 i' ((no i' q3).1 q1) q2 q3⟩
        · exact .inr ⟨fun i q1 q2 q3 => a1 i ((no i q3).1 q1) q2 q3, a2⟩
    · have : unl (S.setIfInBounds j true) ss.length < unl S ss.length := by
        refine ydr _ (fun x _ hx => ?_) ⟨j, by simpa using hjl, by rw [hSj]; rfl, ?_⟩
        · cases h : S.getD x false with
          | false => rfl
          | true =>
            have := (set_get x).2 (.inl h)
            rw [this] at hx; exact hx
        · rw [(set_get j).2 (.inr rfl)]; rfl
      omega
end
end Go.Proofs.YtjajpilacdfnbaaGreatDoor.Am
