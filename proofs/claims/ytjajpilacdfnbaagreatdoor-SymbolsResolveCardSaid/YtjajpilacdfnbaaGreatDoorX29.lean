/- Part 29 of the proof of the laws of the queries: Gen2, Sam, RRa, AccK, Thg. -/
import Derived.Test.YtjajpilacdfnbaaGreatDoorX18
import Derived.Test.YtjajpilacdfnbaaGreatDoorX25
import Derived.Test.YtjajpilacdfnbaaGreatDoorX26
import Derived.Test.YtjajpilacdfnbaaGreatDoorX28
namespace Go.Proofs.YtjajpilacdfnbaaGreatDoor
open Am C
set_option linter.unusedSimpArgs false
set_option linter.unusedVariables false
def eqL {α : Type} (p : α → α → Bool) : List α → List α → Bool
  | [], [] => true
  | x :: r, y :: s => p x y && eqL p r s
  | _, _ => false
theorem yj4 {α : Type} [DecidableEq α] {p : α → α → Bool} : ∀ {l m : List α}, (∀ x ∈ l, ∀ y ∈ m, p x y = decide (x = y)) → eqL p l m = decide (l = m)
  | [], [], _ => by simp [eqL]
  | [], y :: s, _ => by simp [eqL]
  | x :: r, [], _ => by simp [eqL]
  | x :: r, y :: s, h => by
    have ih := yj4 (p := p) (l := r) (m := s) fun a ha b hb => h a (by simp [ha]) b (by simp [hb])
    simp only [eqL, ih, h x (by simp) y (by simp)]
    by_cases e1 : x = y <;> by_cases e2 : r = s <;> simp [e1, e2]
theorem yhv {α : Type} {p : α → α → Bool} : ∀ {l m : List α}, l.length ≠ m.length → eqL p l m = false
  | [], [], h => by simp at h
  | [], y :: s, _ => rfl
  | x :: r, [], _ => rfl
  | x :: r, y :: s, h => by
    have := yhv (p := p) (l := r) (m := s) (by simpa using h)
    simp [eqL, this]
def ya3.r0 : List AStep := [⟨some 6, none, .op (.mov (.c (.b false)))⟩]
def ya3.r1 : List AStep := [ab 10 0,ai 11 10,ab 12 1,ai 13 12,a1m 14 11 13]
def ya3.r3 : List AStep := [ab 15 0,ai 16 15,ac 17 0]
def ya3.r4 : List AStep := [⟨some 18, none, .op (.bin .lss (.t 17) (.t 16))⟩]
def ya3.r5 (zs : List V) : List AStep := [ab 19 17,⟨some 20, none, .op (.iad zs.length (.t 15) (.t 17))⟩,⟨some 21, none, .op (.load true zs.length (.t 20))⟩,⟨some 8, none, .op (.new zs)⟩,ab 7 19,⟨none, none, .op (.store zs.length (.t 8) (.t 21))⟩]
def ya3.r6 (zs : List V) : List AStep := [ab 22 1,ab 23 7,⟨some 24, none, .op (.iad zs.length (.t 22) (.t 23))⟩,⟨some 25, none, .op (.load true zs.length (.t 24))⟩,⟨some 9, none, .op (.new zs)⟩,⟨none, none, .op (.store zs.length (.t 9) (.t 25))⟩]
def ya3.r7 (zs : List V) : List AStep := [ab 26 2,⟨some 27, none, .op (.load true zs.length (.t 8))⟩,⟨some 28, none, .op (.load true zs.length (.t 9))⟩,a2v 29 26 27 28,a18 30 29]
def ya3.r9 : List AStep := [⟨some 31, none, .op (.bin .add (.t 17) (.c (.i .i64 1)))⟩, ⟨some 17, none, .op (.mov (.t 31))⟩]
def ya3.r10 : List AStep := [⟨some 6, none, .op (.mov (.c (.b true)))⟩]
def ya3.l0 (zs : List V) : ACode := .seq (.post [1, 2, 15, 16, 17, 18] (.region ya3.r4)) (.seq (.post [1, 2, 15, 16, 17] (.cond (.t 18) (.skip) (.exit 0))) (.seq (.post [1, 2, 15, 16, 17] (.block 1 (.seq (.post [1, 2, 7, 8, 15, 16, 17] (.region (ya3.r5 zs))) (.seq (.post [1, 2, 8, 9, 15, 16, 17] (.region (ya3.r6 zs))) (.seq (.post [1, 2, 15, 16, 17, 30] (.region (ya3.r7 zs))) (.post [1, 2, 15, 16, 17] (.cond (.t 30) (.seq (.post [6] (.region ya3.r0)) (.ret)) (.skip)))))))) (.post [1, 2, 15, 16, 17] (.region ya3.r9))))
def ya3 (zs : List V) : AFunc := ⟨32, [.t 6], .seq (.post [0, 1, 2] (.region ya3.r0)) (.seq (.seq (.post [0, 1, 2, 14] (.region ya3.r1)) (.post [0, 1, 2] (.cond (.t 14) (.seq (.post [6] (.region ya3.r0)) (.ret)) (.skip)))) (.seq (.seq (.post [1, 2, 15, 16, 17] (.region ya3.r3)) (.post [] (.block 0 (.loop (ya3.l0 zs))))) (.seq (.post [6] (.region ya3.r10)) (.ret))))⟩
section
variable {α : Type}
def EqfInv (es fs : List (List V)) (g : V) (p : α → α → Bool) (l q : List α) (H : Hp) (m : Nat) (F : Fr) (X : Hp) : Prop :=
  ∃ i, i ≤ l.length ∧ m = l.length - i ∧ eqL p l q = eqL p (l.drop i) (q.drop i) ∧ H.Ext X ∧ (∀ id blk, X.get id = some blk → id < X.next) ∧ F = [(1, .fs fs), (2, g), (15, .fs es), (16, .i .i64 l.length), (17, .i .i64 i)]
theorem yap : ∀ (zs cs : List V), zs.length = cs.length → setAll zs 0 cs = cs := fun zs cs h => by
  apply List.ext_getElem?
  intro j
  rw [yc9 cs zs 0 j (by omega)]
  by_cases hj : j < cs.length
  · simp [hj]
  · rw [if_neg (by omega), List.getElem?_eq_none (by omega), List.getElem?_eq_none (by omega)]
theorem ymq {fid : Go.FuncId} {fn : Go.Func} {zs : List V} (hf : Tryz.prog.funcs[fid]? = some fn) (hok : y23 Tryz.prog fn (ya3 zs) = true) (l q : List α) (enc : α → List V) (hz : 0 < zs.length) (he : ∀ x, (enc x).length = zs.length) (hcl : ∀ x, (enc x).all y5l = true) (f : Go.FuncId) (p : α → α → Bool)
    (hl : l.length ≤ 9223372036854775807) (hq : q.length ≤ 9223372036854775807) (H : Hp) (hc : ∀ x ∈ l, ∀ y ∈ q, ∀ H2, AC Tryz.prog f [.agg (enc x), .agg (enc y)] H2 (fun v H' => v = .b (p x y) ∧ H' = H2)) :
    AC Tryz.prog fid [.fs (l.map enc), .fs (q.map enc), .fn f []] H (fun v H' => v = .b (eqL p l q) ∧ H' = H) := by
  refine AC.codeP hf hok (ymk _) fun hlt => ?_
  simp only [ya3]
  refine AX.sr ?_
  simp [ya3.r0]
  refine AX.seq (AX.seq (AX.reg ?_))
  simp [ya3.r1]
  refine AX.pcond rfl (fun hd => ?_) (fun hd => AX.skip ?_)
  · simp at hd
    refine AX.sr ?_
    simp [ya3.r0]
    refine AX.ret ?_
    simp [yhv hd]
    exact ⟨.refl _, .refl _⟩
  simp at hd
  simp
  refine AX.seq (AX.seq (AX.reg ?_))
  simp [ya3.r3]
  refine AX.pblock (AX.loop (EqfInv (l.map enc) (q.map enc) (.fn f []) p l q H) l.length ⟨_, _, .refl _ _, 0, by omega, by omega, rfl, .refl _, hlt, rfl⟩ ?_)
  rintro m F X ⟨i, hi, rfl, hx, hE, hX, rfl⟩
  simp only [ya3.l0]
  refine AX.sr ?_
  simp [ya3.r4]
  refine AX.seq (AX.pcond rfl (fun hb => AX.skip ?_) (fun hb => AX.exit ?_))
  case refine_2 =>
    simp at hb
    simp
    refine AX.sr ?_
    simp [ya3.r10]
    refine AX.ret ?_
    have : eqL p l q = true := by rw [hx, List.drop_eq_nil_of_le hb, List.drop_eq_nil_of_le (by omega)]; rfl
    simp [this]
    exact ⟨hE, .refl _⟩
  simp at hb
  have hb2 : i < q.length := by omega
  rw [List.drop_eq_getElem_cons hb, List.drop_eq_getElem_cons hb2] at hx
  simp only [eqL] at hx
  have g1 : l[i]? = some l[i] := List.getElem?_eq_getElem hb
  have g2 : q[i]? = some q[i] := List.getElem?_eq_getElem hb2
  have c1 := hc _ (List.getElem_mem hb) _ (List.getElem_mem hb2)
  generalize l[i] = x at *
  generalize q[i] = y at *
  have t1 : List.take zs.length (enc x) = enc x := List.take_of_length_le (by rw [he]; omega)
  have t2 : List.take zs.length (enc y) = enc y := List.take_of_length_le (by rw [he]; omega)
  have s1 : setAll zs 0 (enc x) = enc x := yap _ _ (he x).symm
  have s2 : setAll zs 0 (enc y) = enc y := yap _ _ (he y).symm
  have n1 : ¬ enc x = [] := fun e => by have := he x; rw [e] at this; simp at this; omega
  have n2 : ¬ enc y = [] := fun e => by have := he y; rw [e] at this; simp at this; omega
  have k1 : ∀ v ∈ enc x, y5l v = true := List.all_eq_true.1 (hcl x)
  have k2 : ∀ v ∈ enc y, y5l v = true := List.all_eq_true.1 (hcl y)
  simp
  refine AX.seq (AX.pblock (AX.seq (AX.reg ?_)))
  simp [ya3.r5, g1, he, t1, s1, n1, hz, -y5l, -setAll]
  rw [if_pos k1]
  simp [he, n1, s1, -setAll]
  have E1 := hE.trans (y8j hX (.cells zs zs.length) (.cells (enc x) zs.length))
  have L1 := lt2 hX (.cells zs zs.length) (.cells (enc x) zs.length)
  have G1 : ((X.add (.cells zs zs.length)).upd X.next (.cells (enc x) zs.length)).get X.next = some (.cells (enc x) zs.length) := by simp
  have N1 : X.next < ((X.add (.cells zs zs.length)).upd X.next (.cells (enc x) zs.length)).next := by simp
  generalize (X.add (.cells zs zs.length)).upd X.next (.cells (enc x) zs.length) = Y at *
  generalize X.next = a at *
  refine AX.sr ?_
  simp [ya3.r6, g2, he, t2, s2, n2, hz, -y5l, -setAll]
  rw [if_pos k2]
  simp [he, n2, s2, -setAll]
  have E2 := E1.trans (y8j L1 (.cells zs zs.length) (.cells (enc y) zs.length))
  have L2 := lt2 L1 (.cells zs zs.length) (.cells (enc y) zs.length)
  have G2 : ((Y.add (.cells zs zs.length)).upd Y.next (.cells (enc y) zs.length)).get Y.next = some (.cells (enc y) zs.length) := by simp
  have G3 : ((Y.add (.cells zs zs.length)).upd Y.next (.cells (enc y) zs.length)).get a = some (.cells (enc x) zs.length) := by simp [show a ≠ Y.next by omega, G1]
  generalize (Y.add (.cells zs zs.length)).upd Y.next (.cells (enc y) zs.length) = Z at *
  generalize Y.next = b at *
  refine AX.sr ?_
  simp [ya3.r7, G2, G3, t1, t2]
  refine AC.fix (c1 Z) ?_
  simp
  refine AX.pcond rfl (fun hn => ?_) (fun hn => AX.skip ?_)
  · simp at hn
    refine AX.sr ?_
    simp [ya3.r0]
    refine AX.ret ?_
    simp [hx, hn]
    exact ⟨E2, .refl _⟩
  simp at hn
  simp
  refine AX.reg ?_
  simp [ya3.r9, y2j hb hl]
  exact ⟨l.length - (i + 1), by omega, _, _, .refl _ _, i + 1, by omega, rfl, by rw [hx, hn]; rfl, E2, L2, by simp⟩
def yag.r0 : List AStep := [⟨some 4, none, .op (.mov (.c (.b false)))⟩]
def yag.r1 : List AStep := [ab 6 0,ai 7 6,ab 8 1,ai 9 8,a1m 10 7 9]
def yag.r3 : List AStep := [ab 11 0,ai 12 11,ac 13 0]
def yag.r4 : List AStep := [⟨some 14, none, .op (.bin .lss (.t 13) (.t 12))⟩]
def yag.r5 : List AStep := [⟨some 15, none, .op (.mov (.t 13))⟩, ⟨some 5, none, .op (.mov (.t 15))⟩]
def yag.r6 (ks : List Nat) : List AStep := [ab 16 0,ab 17 5,⟨some 18, none, .op (.iad ks.length (.t 16) (.t 17))⟩,⟨some 19, none, .op (.load true ks.length (.t 18))⟩,ab 20 1,ab 21 5,⟨some 22, none, .op (.iad ks.length (.t 20) (.t 21))⟩,⟨some 23, none, .op (.load true ks.length (.t 22))⟩,⟨some 24, none, .op (.eqa true ks (.t 19) (.t 23))⟩]
def yag.r8 : List AStep := [⟨some 25, none, .op (.bin .add (.t 13) (.c (.i .i64 1)))⟩, ⟨some 13, none, .op (.mov (.t 25))⟩]
def yag.r9 : List AStep := [⟨some 4, none, .op (.mov (.c (.b true)))⟩]
def yag.l0 (ks : List Nat) : ACode := .seq (.post [0, 1, 12, 13, 14] (.region yag.r4)) (.seq (.post [0, 1, 12, 13] (.cond (.t 14) (.skip) (.exit 0))) (.seq (.post [0, 1, 12, 13] (.block 1 (.seq (.post [0, 1, 5, 12, 13] (.region yag.r5)) (.seq (.post [0, 1, 12, 13, 24] (.draw [0, 0, 3, 7, 0, 0, 48, 112, 255] (yag.r6 ks))) (.post [0, 1, 12, 13] (.cond (.t 24) (.seq (.post [4] (.region yag.r0)) (.ret)) (.skip))))))) (.post [0, 1, 12, 13] (.region yag.r8))))
def yag (ks : List Nat) : AFunc := ⟨26, [.t 4], .seq (.post [0, 1] (.region yag.r0)) (.seq (.seq (.post [0, 1, 10] (.region yag.r1)) (.post [0, 1] (.cond (.t 10) (.seq (.post [4] (.region yag.r0)) (.ret)) (.skip)))) (.seq (.seq (.post [0, 1, 12, 13] (.region yag.r3)) (.post [] (.block 0 (.loop (yag.l0 ks))))) (.seq (.post [4] (.region yag.r9)) (.ret))))⟩
def EqsInv (es fs : List (List V)) (p : α → α → Bool) (l q : List α) (H : Hp) (m : Nat) (F : Fr) (X : Hp) : Prop :=
  ∃ i, i ≤ l.length ∧ m = l.length - i ∧ eqL p l q = eqL p (l.drop i) (q.drop i) ∧ X = H ∧ F = [(0, .fs es), (1, .fs fs), (12, .i .i64 l.length), (13, .i .i64 i)]
theorem ymp {fid : Go.FuncId} {fn : Go.Func} {ks : List Nat} (hf : Tryz.prog.funcs[fid]? = some fn) (hok : y23 Tryz.prog fn (yag ks) = true) (l q : List α) (enc : α → List V) (hz : 0 < ks.length) (he : ∀ x, (enc x).length = ks.length) (p : α → α → Bool)
    (hp : ∀ x y, y5c ks (enc x) (enc y) = some (p x y)) (hl : l.length ≤ 9223372036854775807) (hq : q.length ≤ 9223372036854775807) (H : Hp) :
    AC Tryz.prog fid [.fs (l.map enc), .fs (q.map enc)] H (fun v H' => v = .b (eqL p l q) ∧ H' = H) := by
  refine AC.code hf hok ?_
  simp only [yag]
  refine AX.sr ?_
  simp [yag.r0]
  refine AX.seq (AX.seq (AX.reg ?_))
  simp [yag.r1]
  refine AX.pcond rfl (fun hd => ?_) (fun hd => AX.skip ?_)
  · simp at hd
    refine AX.sr ?_
    simp [yag.r0]
    refine AX.ret ?_
    simp [yhv hd]
  simp at hd
  simp
  refine AX.seq (AX.seq (AX.reg ?_))
  simp [yag.r3]
  refine AX.pblock (AX.loop (EqsInv (l.map enc) (q.map enc) p l q H) l.length ⟨_, _, .refl _ _, 0, by omega, by omega, rfl, rfl, rfl⟩ ?_)
  rintro m F X ⟨i, hi, rfl, hx, rfl, rfl⟩
  simp only [yag.l0]
  refine AX.sr ?_
  simp [yag.r4]
  refine AX.seq (AX.pcond rfl (fun hb => AX.skip ?_) (fun hb => AX.exit ?_))
  case refine_2 =>
    simp at hb
    simp
    refine AX.sr ?_
    simp [yag.r9]
    refine AX.ret ?_
    have : eqL p l q = true := by rw [hx, List.drop_eq_nil_of_le hb, List.drop_eq_nil_of_le (by omega)]; rfl
    simp [this]
  simp at hb
  have hb2 : i < q.length := by omega
  rw [List.drop_eq_getElem_cons hb, List.drop_eq_getElem_cons hb2] at hx
  simp only [eqL] at hx
  have g1 : l[i]? = some l[i] := List.getElem?_eq_getElem hb
  have g2 : q[i]? = some q[i] := List.getElem?_eq_getElem hb2
  generalize l[i] = x at *
  generalize q[i] = y at *
  have t1 : List.take ks.length (enc x) = enc x := List.take_of_length_le (by rw [he]; omega)
  have t2 : List.take ks.length (enc y) = enc y := List.take_of_length_le (by rw [he]; omega)
  have hxy := hp x y
  simp
  refine AX.seq (AX.pblock (AX.seq (AX.reg ?_)))
  simp [yag.r5]
  refine AX.testD (!p x y) [(0, .fs (l.map enc)), (1, .fs (q.map enc)), (12, .i .i64 l.length), (13, .i .i64 i), (24, .b (!p x y))] ?_ rfl (fun hn => ?_) (fun hn => AX.skip ?_)
  · simp [yag.r6, g1, g2, he, t1, t2, hxy]
  · simp at hn
    refine AX.sr ?_
    simp [yag.r0]
    refine AX.ret ?_
    simp [hx, hn]
  simp at hn
  simp
  refine AX.reg ?_
  simp [yag.r8, y2j hb hl]
  exact ⟨l.length - (i + 1), by omega, _, _, .refl _ _, i + 1, by omega, rfl, by rw [hx, hn]; rfl, rfl, by simp⟩
end
end Go.Proofs.YtjajpilacdfnbaaGreatDoor
namespace Go.Proofs.YtjajpilacdfnbaaGreatDoor
open Am C
set_option linter.unusedSimpArgs false
set_option linter.unusedVariables false
theorem eqMk.ok : y23 Tryz.prog Tryz.f120 (yag [0, 1]) = true := by kernel_rfl
theorem eqFu.ok : y23 Tryz.prog Tryz.f87 (yag [1, 1, 1]) = true := by kernel_rfl
theorem eqOb.ok : y23 Tryz.prog Tryz.f85 (ya3 [.s [], .s [], .sl none 0 0]) = true := by kernel_rfl
theorem eqCn.ok : y23 Tryz.prog Tryz.f88 (ya3 [.i .i64 0, .s [], .s [], .i .i64 0, .s [], .sl none 0 0]) = true := by kernel_rfl
theorem fu_eq (a b : Fu) : y5c [1, 1, 1] (y6i a) (y6i b) = some (decide (a = b)) := by
  obtain ⟨a1, a2, a3⟩ := a
  obtain ⟨b1, b2, b3⟩ := b
  simp only [y6i, y5c, y8w, Fu.mk.injEq, Bool.beq_eq_decide_eq, Bool.decide_and]
  cases decide (a1 = b1) <;> cases decide (a2 = b2) <;> cases decide (a3 = b3) <;> rfl
theorem EqMk_ok (l q : List Mk) (hl : l.length ≤ 9223372036854775807) (hq : q.length ≤ 9223372036854775807) (H : Hp) : AC Tryz.prog y4j [.fs (l.map y7b), .fs (q.map y7b)] H (fun v H' => v = .b (decide (l = q)) ∧ H' = H) := by
  have := ymp y17.at eqMk.ok l q y7b (by simp) (fun x => rfl) (fun x y => decide (x = y)) (fun x y => by rw [show y7b x = [.i .i64 x.pos, .s x.tag] from rfl, show y7b y = [.i .i64 y.pos, .s y.tag] from rfl, mk_eq]) hl hq H
  rwa [yj4 (fun x _ y _ => rfl)] at this
theorem EqFu_ok (l q : List Fu) (hl : l.length ≤ 9223372036854775807) (hq : q.length ≤ 9223372036854775807) (H : Hp) : AC Tryz.prog y4u [.fs (l.map y6i), .fs (q.map y6i)] H (fun v H' => v = .b (decide (l = q)) ∧ H' = H) := by
  have := ymp y1h.at eqFu.ok l q y6i (by simp) (fun x => rfl) (fun x y => decide (x = y)) (fun x y => fu_eq x y) hl hq H
  rwa [yj4 (fun x _ y _ => rfl)] at this
theorem yjl (a b : Ob) (ha : a.marks.length ≤ 9223372036854775807) (hb : b.marks.length ≤ 9223372036854775807) (H : Hp) : AC Tryz.prog y71 [.agg (y49 a), .agg (y49 b)] H (fun v H' => v = .b (decide (a = b)) ∧ H' = H) := by
  have hm := EqMk_ok a.marks b.marks ha hb H
  obtain ⟨a1, a2, a3⟩ := a
  obtain ⟨b1, b2, b3⟩ := b
  refine AC.code y2y.at y2y.ok ?_
  simp only [y2y]
  refine AX.sr ?_
  simp [y2y.r0, y49]
  refine AX.seq (AX.join (F1 := [(4, .b (decide (Ob.mk a1 a2 a3 = Ob.mk b1 b2 b3)))]) (H1 := H) (AX.reg ?_) ?_)
  · by_cases h1 : a1 = b1
    · by_cases h2 : a2 = b2
      · simp [y2y.r1, h1, h2]
        refine AC.fix hm ?_
        simp
      · simp [y2y.r1, h1, h2]
    · simp [y2y.r1, h1]
  refine AX.ret ?_
  simp
theorem EqOb_ok (l q : List Ob) (hl : l.length ≤ 9223372036854775807) (hq : q.length ≤ 9223372036854775807) (h1 : ∀ o ∈ l, o.marks.length ≤ 9223372036854775807) (h2 : ∀ o ∈ q, o.marks.length ≤ 9223372036854775807) (H : Hp) :
    AC Tryz.prog y3f [.fs (l.map y49), .fs (q.map y49), .fn y71 []] H (fun v H' => v = .b (decide (l = q)) ∧ H' = H) := by
  have := ymq yd.at eqOb.ok l q y49 (by simp) (fun x => rfl) (fun x => rfl) y71 (fun x y => decide (x = y)) hl hq H (fun x hx y hy H2 => yjl x y (h1 x hx) (h2 y hy) H2)
  rwa [yj4 (fun x _ y _ => rfl)] at this
theorem EqCn0_ok (H : Hp) : AC Tryz.prog y3g [.fs [], .fs [], .fn ya1 []] H (fun v H' => v = .b true ∧ H' = H) :=
  ymq (α := Cn) ye.at eqCn.ok [] [] y4l (by simp) (fun x => rfl) (fun x => rfl) ya1 (fun x y => true) (by simp) (by simp) H (fun x hx => by cases hx)
theorem yd8 (o1 o2 : List Ob) (f1 f2 : List Fu) (hl : o1.length ≤ 9223372036854775807) (hq : o2.length ≤ 9223372036854775807) (h1 : ∀ o ∈ o1, o.marks.length ≤ 9223372036854775807) (h2 : ∀ o ∈ o2, o.marks.length ≤ 9223372036854775807) (h3 : f1.length ≤ 9223372036854775807) (h4 : f2.length ≤ 9223372036854775807) (H : Hp) :
    AC Tryz.prog y8e [.agg [.fs (o1.map y49), .fs (f1.map y6i), .fs []], .agg [.fs (o2.map y49), .fs (f2.map y6i), .fs []]] H (fun v H' => v = .b (decide (o1 = o2) && decide (f1 = f2)) ∧ H' = H) := by
  have ho := EqOb_ok o1 o2 hl hq h1 h2 H
  have hf := EqFu_ok f1 f2 h3 h4 H
  refine AC.code y41.at y41.ok ?_
  simp only [y41]
  refine AX.sr ?_
  simp [y41.r0]
  refine AX.seq (AX.join (F1 := [(4, .b (decide (o1 = o2) && decide (f1 = f2)))]) (H1 := H) (AX.reg ?_) ?_)
  · simp [y41.r1]
    refine AC.fix ho ?_
    by_cases e1 : o1 = o2
    · simp [e1]
      refine AC.fix hf ?_
      by_cases e2 : f1 = f2
      · simp [e2]
        refine AC.fix (EqCn0_ok H) ?_
        simp
      · simp [e2]
    · simp [e1]
  refine AX.ret ?_
  simp
end Go.Proofs.YtjajpilacdfnbaaGreatDoor
namespace Go.Proofs.YtjajpilacdfnbaaGreatDoor
open Am C
set_option linter.unusedSimpArgs false
set_option linter.unusedVariables false
theorem yd6 : ∀ (l : List Su), (∀ s ∈ l, s.sys.objs.length ≤ 600 ∧ s.sys.fns.length ≤ 600) → (yb3 l).length ≤ 1200 * l.length
  | [], _ => by simp [yb3]
  | s :: r, h => by
    have h1 := h s (by simp)
    have h2 := yd6 r fun x hx => h x (by simp [hx])
    simp only [yb3, List.flatMap_cons, List.length_append, List.length_map, List.length_cons, ybi] at h2 ⊢
    omega
theorem ygw {α : Type} {p : α → Bool} {l : List α} {k : Nat} (h : k < l.length) (hn : (l.take k).find? p = none) : (p l[k] = true → l.find? p = some l[k]) ∧ (p l[k] = false → (l.take (k + 1)).find? p = none) := by
  constructor
  · intro hp
    have e : l = l.take k ++ l[k] :: l.drop (k + 1) := by rw [← List.drop_eq_getElem_cons h, List.take_append_drop]
    have h2 := List.find?_append (xs := l.take k) (ys := l[k] :: l.drop (k + 1)) (p := p)
    rw [← e, hn] at h2
    rw [h2, Option.none_or, List.find?_cons, hp]
  · intro hp
    rw [List.take_add_one, List.getElem?_eq_getElem h, List.find?_append, hn]
    simp [hp]
end Go.Proofs.YtjajpilacdfnbaaGreatDoor
namespace Go.Proofs.YtjajpilacdfnbaaGreatDoor.Am
open Go Go.RowKit
set_option linter.unusedSimpArgs false
set_option linter.unusedVariables false
def yd7 (v : V) (id : Nat) : Prop := match v with
  | .sl (some (k, _, _)) _ _ => k ≠ id
  | _ => True
theorem Acc.sepNew {H X : Hp} {sz : Nat} {v : V} {es : List (List V)} (A : Acc H sz v X es) {id : Nat} (h : X.get id = none) : yd7 v id := by
  rcases A.sl with ⟨_, z, rfl⟩ | ⟨k, m, h1, rfl, h2, h3⟩
  · trivial
  · intro e; subst e; rw [h2] at h; cases h
theorem Acc.sepOld {H X : Hp} {sz : Nat} {v : V} {es : List (List V)} (A : Acc H sz v X es) {id : Nat} (h : id < H.next) : yd7 v id := by
  rcases A.sl with ⟨_, z, rfl⟩ | ⟨k, m, h1, rfl, h2, h3⟩
  · trivial
  · show k ≠ id; omega
theorem Acc.isSl {H X : Hp} {sz : Nat} {v : V} {es : List (List V)} (A : Acc H sz v X es) : ∃ a n z, v = .sl a n z := by
  rcases A.sl with ⟨_, z, rfl⟩ | ⟨k, m, h1, rfl, h2, h3⟩ <;> exact ⟨_, _, _, rfl⟩
theorem Acc.appK {H X : Hp} {sz bytes : Nat} {v : V} {es : List (List V)} (A : Acc H sz v X es) (hl : ∀ id blk, H.get id = some blk → id < H.next) (y : List V) (hy : y.length = sz) (hsz : 0 < sz) (hc : y.all y5l = true) (hb : (es.length + 1) * bytes ≤ y86) :
    ∃ v2 X2, y3m X sz bytes v (.fs [y]) = some (v2, X2) ∧ Acc H sz v2 X2 (es ++ [y]) ∧ ∀ id blk, X.get id = some blk → yd7 v id → X2.get id = some blk ∧ yd7 v2 id := by
  obtain ⟨v2, X2, e, A2⟩ := A.app (bytes := bytes) (ys := [y]) hl (by simpa using hy) hsz (by simpa using hc) (by simpa using hb)
  refine ⟨v2, X2, e, A2, fun id blk hg hs => ?_⟩
  have hid := A.lt id blk hg
  have hsc : y73 X sz (.fs [y]) = some (1, y) := by simp [y73, hsz, hy]
  rcases A.sl with ⟨h0, z, rfl⟩ | ⟨k, m, h1, rfl, h2, h3⟩
  · simp only [y3m, hsc] at e
    rw [if_neg (by decide)] at e
    split at e
    · injection e with e; injection e with e1 e2; subst e1; subst e2
      exact ⟨by simp only [Hp.get_add]; rw [if_neg (by omega)]; exact hg, by show X.next ≠ id; omega⟩
    · cases e
  · have hk : k ≠ id := hs
    simp only [y3m, hsc, h2] at e
    split at e
    · rw [if_neg (by decide)] at e
      split at e
      · injection e with e; injection e with e1 e2; subst e1; subst e2
        exact ⟨by simp only [Hp.get_upd]; rw [if_neg (Ne.symm hk)]; exact hg, hk⟩
      · split at e
        · injection e with e; injection e with e1 e2; subst e1; subst e2
          exact ⟨by simp only [Hp.get_upd]; rw [if_neg (Ne.symm hk)]; exact hg, hk⟩
        · cases e
    · cases e
theorem Acc.frzS {H H' : Hp} {sz : Nat} {v : V} {es : List (List V)} (A : Acc H sz v H' es) : Frz H' (fun k => ¬ yd7 v k) v (.fs es) := by
  rcases A.sl with ⟨rfl, z, rfl⟩ | ⟨id, m, h1, rfl, h2, h3⟩
  · exact .sl0 z
  · refine .sl id 0 es.flatten.length es.length sz m es.flatten es (fun h => h rfl) h2 h3 (Nat.le_refl _) rfl A.all (fun i j e v hi hj => ?_) (fun i j e v u hi hj hu => ?_)
    · have := y8f A.all hi hj
      have := (List.getElem?_eq_some_iff.1 this).1
      simpa using this
    · have := y8f A.all hi hj
      rw [Nat.zero_add, this] at hu; injection hu with hu; subst hu; exact .refl _
theorem AC.frz {P : Program} {f : FuncId} {args args' : List V} {H : Hp} {R : V → Hp → Prop} (S : Nat → Prop) (h : AC P f args' (H.wo S) R) (hl : args.length = args'.length) (hv : ∀ (j : Nat) v v', args[j]? = some v → args'[j]? = some v' → Frz H S v v') : AC P f args H R :=
  ⟨h.1, fun κ cs Sm r => by
    obtain ⟨κ', ew, le, S', hf⟩ := y9w S Sm
    have r' : VRs κ' args' cs := ⟨by rw [← hl]; exact r.1, fun j v' hj => by
      have hlt : j < args.length := by rw [hl]; exact (List.getElem?_eq_some_iff.1 hj).1
      exact hf _ _ (hv j args[j] v' (List.getElem?_eq_getElem hlt) hj) _ (r.2 j args[j] (List.getElem?_eq_getElem hlt))⟩
    have := h.2 κ' cs S' r'
    rw [ew] at this
    exact this.mono fun e w' ⟨κ2, v, cv, H', a, b, c, d, e', g⟩ => ⟨κ2, v, cv, H', a, b, le.trans c, d, e', g⟩⟩
theorem Hp.wo_get {H : Hp} {S : Nat → Prop} {id : Nat} {blk : Blk} (h : H.get id = some blk) (hs : ¬ S id) : (H.wo S).get id = some blk := by simp only [Hp.wo]; rw [if_neg hs]; exact h
end Go.Proofs.YtjajpilacdfnbaaGreatDoor.Am
namespace Go.Proofs.YtjajpilacdfnbaaGreatDoor
open Am C
set_option linter.unusedSimpArgs false
set_option linter.unusedVariables false
def thV : Nat × Th → List V
  | (i, .inl o) => [.i .i64 i, .fs [y49 o], .fs [], .fs []]
  | (i, .inr f) => [.i .i64 i, .fs [], .fs [y6i f], .fs []]
theorem ya6 (p : Nat × Th) : (thV p).length = 4 := by obtain ⟨i, t⟩ := p; cases t <;> rfl
theorem yew (p : Nat × Th) : (thV p).all y5l = true := by obtain ⟨i, t⟩ := p; cases t <;> rfl
def ofN (k : Str) (P : List (Nat × Th)) : List (Nat × Th) := P.filter fun p => decide (thN p.2 = k)
structure GM (H0 X : Hp) (mid : Nat) (es : List (Str × V)) (P : List (Nat × Th)) : Prop where
  map : X.get mid = some (.obj (.map es))
  ext : H0.Ext X
  lt : ∀ id blk, X.get id = some blk → id < X.next
  hm : H0.next ≤ mid
  nd : (es.map Prod.fst).Nodup
  keys : ∀ k, k ∈ es.map Prod.fst ↔ ∃ p ∈ P, thN p.2 = k
  row : ∀ k v, (k, v) ∈ es → ∃ id m, v = .sl (some (id, 0, ((ofN k P).map thV).flatten.length)) (ofN k P).length 4 ∧ X.get id = some (.cells ((ofN k P).map thV).flatten m) ∧ m ≤ ((ofN k P).map thV).flatten.length ∧ H0.next ≤ id
  inj : ∀ k k' id a b n n', (k, V.sl (some (id, 0, a)) n 4) ∈ es → (k', V.sl (some (id, 0, b)) n' 4) ∈ es → k = k'
def Off (es : List (Str × V)) (a : Nat) : Prop := ∀ k id e n, (k, V.sl (some (id, 0, e)) n 4) ∈ es → id ≠ a
theorem GM.more {H0 X Y : Hp} {mid : Nat} {es : List (Str × V)} {P : List (Nat × Th)} (G : GM H0 X mid es P) (e : X.Ext Y) (hl : ∀ id blk, Y.get id = some blk → id < Y.next) : GM H0 Y mid es P :=
  ⟨e.2 _ _ G.map, G.ext.trans e, hl, G.hm, G.nd, G.keys, fun k v h => let ⟨id, m, a, b, c, d⟩ := G.row k v h; ⟨id, m, a, e.2 _ _ b, c, d⟩, G.inj⟩
theorem GM.off {H0 X : Hp} {mid : Nat} {es : List (Str × V)} {P : List (Nat × Th)} (G : GM H0 X mid es P) {a : Nat} (h : X.get a = none) : Off es a := fun k id e n hm hid => by
  obtain ⟨id', m, e1, e2, _⟩ := G.row _ _ hm
  injection e1 with e1 _ _; injection e1 with e1; injection e1 with e1 _
  subst e1; subst hid
  rw [h] at e2; cases e2
theorem ym8 {es : List (Str × V)} {k : Str} : yg0 es k = none ↔ k ∉ es.map Prod.fst := by
  induction es with
  | nil => simp [yg0]
  | cons p es ih =>
    obtain ⟨k', v⟩ := p
    simp only [yg0, List.map_cons, List.mem_cons]
    by_cases h : k' = k
    · simp [h]
    · simp [h, ih, Ne.symm h]
theorem ym7 {es : List (Str × V)} {k : Str} {v : V} (h : yg0 es k = some v) : (k, v) ∈ es := by
  induction es with
  | nil => cases h
  | cons p es ih =>
    obtain ⟨k', u⟩ := p
    simp only [yg0] at h
    split at h
    · rename_i e; subst e; injection h with h; subst h; simp
    · exact List.mem_cons_of_mem _ (ih h)
theorem yiv {es : List (Str × V)} {k : Str} {v : V} (h : k ∉ es.map Prod.fst) : yf8 es k v = es ++ [(k, v)] := by
  induction es with
  | nil => rfl
  | cons p es ih =>
    obtain ⟨k', u⟩ := p
    simp only [List.map_cons, List.mem_cons, not_or] at h
    simp only [yf8]
    rw [if_neg (Ne.symm h.1), ih h.2]; rfl
theorem ygl {es : List (Str × V)} {k : Str} {v : V} (h : k ∈ es.map Prod.fst) : (yf8 es k v).map Prod.fst = es.map Prod.fst := by
  induction es with
  | nil => cases h
  | cons p es ih =>
    obtain ⟨k', u⟩ := p
    simp only [yf8]
    by_cases e : k' = k
    · subst e; simp
    · rw [if_neg e]
      simp only [List.map_cons, List.mem_cons] at h ⊢
      rw [ih (h.resolve_left (Ne.symm e))]
theorem y92 {es : List (Str × V)} {k j : Str} {v u : V} (nd : (es.map Prod.fst).Nodup) (h : (j, u) ∈ yf8 es k v) : (j = k ∧ u = v) ∨ (j ≠ k ∧ (j, u) ∈ es) := by
  induction es with
  | nil => simp only [yf8, List.mem_singleton] at h; injection h with h1 h2; exact .inl ⟨h1, h2⟩
  | cons p es ih =>
    obtain ⟨k', w⟩ := p
    rw [List.map_cons, List.nodup_cons] at nd
    simp only [yf8] at h
    split at h
    · rename_i e; subst e
      rcases List.mem_cons.1 h with h' | h'
      · injection h' with h1 h2; exact .inl ⟨h1, h2⟩
      · refine .inr ⟨fun e => nd.1 (by rw [← e]; exact List.mem_map.2 ⟨_, h', rfl⟩), List.mem_cons_of_mem _ h'⟩
    · rename_i e
      rcases List.mem_cons.1 h with h | h
      · injection h with h1 h2; exact .inr ⟨by rw [h1]; exact e, by rw [h1, h2]; simp⟩
      · rcases ih nd.2 h with x | ⟨x, y⟩
        · exact .inl x
        · exact .inr ⟨x, List.mem_cons_of_mem _ y⟩
theorem ycc (k : Str) (P : List (Nat × Th)) (p : Nat × Th) : ofN k (P ++ [p]) = if thN p.2 = k then ofN k P ++ [p] else ofN k P := by
  unfold ofN
  rw [List.filter_append]
  by_cases h : thN p.2 = k <;> simp [h]
theorem flat_thV (L : List (Nat × Th)) : (L.map thV).flatten.length = L.length * 4 := by
  rw [yd2 (sz := 4) fun e he => by obtain ⟨p, _, rfl⟩ := List.mem_map.1 he; exact ya6 p, List.length_map]
theorem GM.push {H0 X : Hp} {mid : Nat} {es : List (Str × V)} {P : List (Nat × Th)} (G : GM H0 X mid es P) (h0 : ∀ id blk, H0.get id = some blk → id < H0.next) (p : Nat × Th) (hP : P.length ≤ 1000000) :
    ∃ v2 X2, y3m X 4 80 ((yg0 es (thN p.2)).getD (.sl none 0 0)) (.fs [thV p]) = some (v2, X2) ∧ X2.get mid = some (.obj (.map es)) ∧ GM H0 (X2.upd mid (.obj (.map (yf8 es (thN p.2) v2)))) mid (yf8 es (thN p.2) v2) (P ++ [p]) ∧
      ∀ a cs m, X.get a = some (.cells cs m) → Off es a → X2.get a = some (.cells cs m) ∧ a ≠ mid ∧ Off (yf8 es (thN p.2) v2) a := by
  have hsc : y73 X 4 (.fs [thV p]) = some (1, thV p) := by simp [ya6]
  have hlen := ya6 p
  have hmid := G.lt _ _ G.map
  have ofl : ∀ k, (ofN k P).length ≤ P.length := fun k => List.length_filter_le _ _
  have mne : ∀ {id cs m}, X.get id = some (.cells cs m) → id ≠ mid := fun {id cs m} h e => by subst e; rw [G.map] at h; cases h
  cases hg : yg0 es (thN p.2) with
  | none =>
    have hk := ym8.1 hg
    have hP0 : ofN (thN p.2) P = [] := List.filter_eq_nil_iff.2 fun q hq hh => hk ((G.keys _).2 ⟨q, hq, by simpa using hh⟩)
    have hfl : ((ofN (thN p.2) (P ++ [p])).map thV).flatten = thV p := by rw [ycc, if_pos rfl, hP0]; simp
    have hE : H0.Ext ((X.add (.cells (thV p) 4)).upd mid (.obj (.map (yf8 es (thN p.2) (.sl (some (X.next, 0, 4)) 1 4))))) := (G.ext.trans (Hp.Ext.add G.lt _)).upd h0 G.hm _
    have get_old : ∀ {id blk}, X.get id = some blk → id ≠ mid → ((X.add (.cells (thV p) 4)).upd mid (.obj (.map (yf8 es (thN p.2) (.sl (some (X.next, 0, 4)) 1 4))))).get id = some blk := fun {id blk} h hne => by
      have := G.lt _ _ h
      simp [hne, show id ≠ X.next by omega, h]
    refine ⟨.sl (some (X.next, 0, 4)) 1 4, X.add (.cells (thV p) 4), ?_, ?_, ?_, ?_⟩
    · simp only [y3m, hsc, Option.getD_none]
      rw [if_neg (by decide), if_pos (by decide), hlen]
    · simp [show mid ≠ X.next by omega, G.map]
    · refine ⟨by simp, hE, Hp.upd_lt (Hp.add_lt G.lt _) (by simp; omega) _, G.hm, ?_, fun k => ?_, fun k v hm => ?_, fun k k' id a b n n' hm hm' => ?_⟩
      · rw [yiv hk, List.map_append]
        exact List.nodup_append.2 ⟨G.nd, by simp, fun a ha b hb e => by simp at hb; subst hb; subst e; exact hk ha⟩
      · rw [yiv hk, List.map_append, List.mem_append, G.keys]
        constructor
        · rintro (⟨q, hq, e⟩ | h)
          · exact ⟨q, by simp [hq], e⟩
          · simp at h; exact ⟨p, by simp, h.symm⟩
        · rintro ⟨q, hq, e⟩
          rcases List.mem_append.1 hq with hq | hq
          · exact .inl ⟨q, hq, e⟩
          · simp at hq; subst hq; exact .inr (by simp [e])
      · rcases y92 G.nd hm with ⟨rfl, rfl⟩ | ⟨hne, hm⟩
        · refine ⟨X.next, 4, ?_, ?_, by rw [hfl, hlen]; exact Nat.le_refl _, G.ext.1⟩
          · rw [hfl, hlen, ycc, if_pos rfl, hP0]; rfl
          · rw [hfl]; simp [show X.next ≠ mid by omega]
        · rw [ycc, if_neg (Ne.symm hne)]
          obtain ⟨id, m, a, b, c, d⟩ := G.row k v hm
          exact ⟨id, m, a, get_old b (mne b), c, d⟩
      · have fresh : ∀ {k id a n}, (k, V.sl (some (id, 0, a)) n 4) ∈ es → id < X.next := fun {k id a n} h => by
          obtain ⟨id', m, e1, e2, _⟩ := G.row _ _ h
          injection e1 with e1 _ _; injection e1 with e1; injection e1 with e1 _
          subst e1; exact G.lt _ _ e2
        rcases y92 G.nd hm with ⟨rfl, e⟩ | ⟨hne, hm⟩ <;> rcases y92 G.nd hm' with ⟨rfl, e'⟩ | ⟨hne', hm'⟩
        · rfl
        · injection e with e _ _; injection e with e; injection e with e _; subst e
          have := fresh hm'; omega
        · injection e' with e' _ _; injection e' with e'; injection e' with e' _; subst e'
          have := fresh hm; omega
        · exact G.inj k k' id a b n n' hm hm'
    · intro a cs m ha hoff
      have hal := G.lt _ _ ha
      refine ⟨by simp [show a ≠ X.next by omega, ha], mne ha, fun k id e n hm hid => ?_⟩
      rcases y92 G.nd hm with ⟨rfl, e'⟩ | ⟨hne, hm⟩
      · injection e' with e' _ _; injection e' with e'; injection e' with e' _; omega
      · exact hoff k id e n hm hid
  | some v =>
    have hm0 := ym7 hg
    have hk : thN p.2 ∈ es.map Prod.fst := List.mem_map.2 ⟨_, hm0, rfl⟩
    obtain ⟨id, m, rfl, hb, hm, hid⟩ := G.row _ _ hm0
    have hfl : ((ofN (thN p.2) (P ++ [p])).map thV).flatten = ((ofN (thN p.2) P).map thV).flatten ++ thV p := by rw [ycc, if_pos rfl]; simp
    have hn : (ofN (thN p.2) (P ++ [p])).length = (ofN (thN p.2) P).length + 1 := by rw [ycc, if_pos rfl]; simp
    have hfz := flat_thV (ofN (thN p.2) P)
    have hol := ofl (thN p.2)
    generalize hL : (ofN (thN p.2) P).length = n0 at *
    generalize hC : ((ofN (thN p.2) P).map thV).flatten = C at *
    have hidm := mne hb
    have hE : H0.Ext ((X.upd id (.cells (C ++ thV p) m)).upd mid (.obj (.map (yf8 es (thN p.2) (.sl (some (id, 0, C.length + 4)) (n0 + 1) 4))))) := (G.ext.upd h0 hid _).upd h0 G.hm _
    refine ⟨.sl (some (id, 0, C.length + 4)) (n0 + 1) 4, X.upd id (.cells (C ++ thV p) m), ?_, ?_, ?_, ?_⟩
    · simp only [y3m, hsc, hb, Option.getD_some]
      rw [if_pos ⟨trivial, trivial, by unfold y86; omega, yew p⟩, if_neg (by decide), if_pos ⟨trivial, by omega⟩, hlen]
    · simp [Ne.symm hidm, G.map]
    · refine ⟨by simp, hE, Hp.upd_lt (Hp.upd_lt G.lt (G.lt _ _ hb) _) (by simpa using hmid) _, G.hm, by rw [ygl hk]; exact G.nd, fun k => ?_, fun k v hm' => ?_, fun k k' j a b n n' h1 h2 => ?_⟩
      · rw [ygl hk, G.keys]
        constructor
        · rintro ⟨q, hq, e⟩; exact ⟨q, by simp [hq], e⟩
        · rintro ⟨q, hq, e⟩
          rcases List.mem_append.1 hq with hq | hq
          · exact ⟨q, hq, e⟩
          · simp at hq; subst hq; subst e; exact (G.keys _).1 hk
      · rcases y92 G.nd hm' with ⟨rfl, rfl⟩ | ⟨hne, hm'⟩
        · refine ⟨id, m, ?_, ?_, by rw [hfl, List.length_append]; omega, hid⟩
          · rw [hfl, List.length_append, hlen, hn]
          · rw [hfl]; simp [hidm]
        · rw [ycc, if_neg (Ne.symm hne)]
          obtain ⟨j, m', a, b, c, d⟩ := G.row k v hm'
          have hj : j ≠ id := fun e => hne (G.inj k _ j _ _ _ _ (by rw [← a]; exact hm') (by rw [e]; exact hm0))
          exact ⟨j, m', a, by simp [hj, mne b, b], c, d⟩
      · rcases y92 G.nd h1 with ⟨rfl, e⟩ | ⟨hne, g1⟩ <;> rcases y92 G.nd h2 with ⟨rfl, e'⟩ | ⟨hne', g2⟩
        · rfl
        · injection e with e _ _; injection e with e; injection e with e _; subst e
          exact G.inj _ _ _ _ _ _ _ hm0 g2
        · injection e' with e' _ _; injection e' with e'; injection e' with e' _; subst e'
          exact G.inj _ _ _ _ _ _ _ g1 hm0
        · exact G.inj k k' j a b n n' g1 g2
    · intro a cs m' ha hoff
      have hai : a ≠ id := fun e => hoff _ _ _ _ hm0 e.symm
      refine ⟨by simp [hai, ha], mne ha, fun k j e n h1 hj => ?_⟩
      rcases y92 G.nd h1 with ⟨rfl, e'⟩ | ⟨hne, h1⟩
      · injection e' with e' _ _; injection e' with e'; injection e' with e' _; subst e'; exact hai hj.symm
      · exact hoff k j e n h1 hj
end Go.Proofs.YtjajpilacdfnbaaGreatDoor
