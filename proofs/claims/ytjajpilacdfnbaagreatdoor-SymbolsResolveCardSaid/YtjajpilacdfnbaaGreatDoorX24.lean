/- Part 24 of the proof of the laws of the queries: QIns4, QTab, QPut. -/
import Derived.Test.YtjajpilacdfnbaaGreatDoorX23
namespace Go.Proofs.YtjajpilacdfnbaaGreatDoor
open Am C
open Go Go.RowKit
set_option linter.unusedSimpArgs false
set_option linter.unusedVariables false
theorem yk8 (x idv mv z : Nat) (H : Hp) (hv : H.get idv = some (.cells [.i .i64 (x : Nat)] mv)) :
    AC Tryz.prog 117 [.sl none 0 z, .i .i64 ((0 : Nat) : Int), .sl (some (idv, 0, 1)) 1 1] H (fun v H' => v = .sl (some (H.next, 0, 1)) 1 1 ∧ H' = H.add (.cells (nc [x]) 1)) := by
  refine ⟨by kernel_rfl, fun κ cs S r => ?_⟩
  obtain ⟨hlen, hr⟩ := r
  match cs, hlen with
  | [c0, c1, c2], _ =>
    have r0 : VR κ _ c0 := hr 0 _ rfl
    have r1 : VR κ _ c1 := hr 1 _ rfl
    have r2 : VR κ _ c2 := hr 2 _ rfl
    obtain rfl := vr_i r1
    have hvm : mv ≤ 1 := S.le idv _ mv hv
    obtain ⟨⟨arv, tv, frv, u1, u2, u3, u4⟩, u5⟩ := S.cells idv _ mv hv 1 hvm (by simp)
    have hx : arv.getD (κ.pl idv 1).2 undef = .int .i64 (x : Nat) := vr_i (u3 0 _ (by omega) rfl)
    cases r2 with
    | sl _ _ _ _ _ vcap vn va vok vz vlc vlo vhi vnc vroom vaddr =>
    obtain rfl := vaddr (by omega)
    cases r0 with
    | sl0 _ a =>
    have hvs : ∀ (j : Nat) v, [Value.int .i64 (x : Nat)][j]? = some v → κ.w.cell? ⟨(κ.pl idv 1).1, (κ.pl idv 1).2 + 0 + j, none⟩ = some v := fun j v hj => by
      cases j with
      | zero =>
        simp at hj; subst hj
        rw [show (κ.pl idv 1).2 + 0 + 0 = (κ.pl idv 1).2 by omega, y9l u1 (by omega), hx]
      | succ j => simp at hj
    have h1v : ∀ v ∈ [Value.int .i64 (x : Nat)], v.oneCell' = true := fun v hv => by simp at hv; subst hv; rfl
    refine (Any2.slices_Insert_int_end_grow Tryz.laysNm221 a 0 0 (κ.pl idv 1).1 ((κ.pl idv 1).2 + 0) 1 vcap [] [.int .i64 (x : Nat)] κ.w (by omega) (by omega) (by omega) (by omega) rfl rfl (fun _ => rfl) (fun a' _ j v hj => by simp at hj) hvs h1v).mono ?_
    rintro e w' ⟨rfl, rfl⟩
    have g1 := grownCap_ge κ.w (0 + 1) 0 (Tryz.laysNm221_ren.t 3)
    have g2 := grownCap_le_maxLen κ.w (0 + 1) 0 (Tryz.laysNm221_ren.t 3) (by unfold maxLen; omega)
    have g3 : grownCap κ.w (0 + 1) 0 (Tryz.laysNm221_ren.t 3) ≤ 9223372036854775807 := g2
    have hz1 : ∀ k, (Builtin.zeroCells (Value.int .i64 0).cells k).size = k := fun k => by rw [y81]; simp [Value.cells]
    have hsz : (([] ++ [Value.int .i64 (x : Nat)]).toArray ++ Builtin.zeroCells (Value.int .i64 0).cells (grownCap κ.w (0 + 1) 0 (Tryz.laysNm221_ren.t 3) - (0 + 1))).size = grownCap κ.w (0 + 1) 0 (Tryz.laysNm221_ren.t 3) := by
      rw [Array.size_append, hz1]; show 1 + (_ - (0 + 1)) = _; omega
    have hb : RowKit.Below κ.w.heap.size κ.w (κ.w.drew.alloc (.cells (([] ++ [Value.int .i64 (x : Nat)]).toArray ++ Builtin.zeroCells (Value.int .i64 0).cells (grownCap κ.w (0 + 1) 0 (Tryz.laysNm221_ren.t 3) - (0 + 1))) (Tryz.laysNm221_ren.t 3))) := (Below.refl _ _).drew.alloc (Nat.le_refl _) _
    have S2 := S.below hb
    have le := K.below_le S hb
    obtain ⟨κ', e1, le2, S3, e2, e3⟩ := Sim.adopt S2 (b := κ.w.heap.size) (o := 0) (ds := nc [x]) (y3l _ _) (by rw [hsz]; simp [nc]; omega) (fun j v hj => by
      obtain ⟨n, hn, rfl⟩ := nc_at hj
      have : j = 0 := by have := (List.getElem?_eq_some_iff.1 hn).1; simpa using this
      subst this
      simp at hn; subst hn
      have hgd : (([] ++ [Value.int .i64 (x : Nat)]).toArray ++ Builtin.zeroCells (Value.int .i64 0).cells (grownCap κ.w (0 + 1) 0 (Tryz.laysNm221_ren.t 3) - (0 + 1))).getD (0 + 0) undef = .int .i64 (x : Nat) := by
        rw [Array.getD_eq_getD_getElem?, Array.getElem?_append_left (by simp)]; rfl
      rw [hgd]
      exact .i _ _) (.inl (Nat.le_refl _)) (fun hf => by have := S.fz _ hf; omega) (fun k cs m e hg h1 h2 hp => by
        obtain ⟨⟨a0, t1, f1, q1, _⟩, _⟩ := S.cells k cs m hg e h1 h2
        have := lt_of_some q1
        have hp' : (κ.pl k e).1 = κ.w.heap.size := hp
        omega)
    have e2' : κ'.pl H.next 1 = (κ.w.heap.size, 0) := e2
    refine ⟨κ', _, _, _, rfl, e1, le.trans le2, S3, ?_, rfl, rfl⟩
    refine .sl H.next 0 1 1 1 (grownCap κ.w (0 + 1) 0 (Tryz.laysNm221_ren.t 3)) (grownCap κ.w (0 + 1) 0 (Tryz.laysNm221_ren.t 3)) _ e3 (by omega) ⟨by omega, g3⟩ (by omega) (by omega) ?_ (by rw [e2']; simp) (fun _ => by rw [e2'])
    rw [e2', e1]
    have hself := y3l κ.w.drew (.cells (([] ++ [Value.int .i64 (x : Nat)]).toArray ++ Builtin.zeroCells (Value.int .i64 0).cells (grownCap κ.w (0 + 1) 0 (Tryz.laysNm221_ren.t 3) - (0 + 1))) (Tryz.laysNm221_ren.t 3))
    have hself' : (κ.w.drew.alloc (.cells (([] ++ [Value.int .i64 (x : Nat)]).toArray ++ Builtin.zeroCells (Value.int .i64 0).cells (grownCap κ.w (0 + 1) 0 (Tryz.laysNm221_ren.t 3) - (0 + 1))) (Tryz.laysNm221_ren.t 3))).heap[κ.w.heap.size]? = _ := hself
    simp only [y48]
    rw [hself']
    exact congrArg some hsz
def y8i (x y : Str) : Int := if ltB x y then -1 else if x = y then 0 else 1
theorem yj1 (x : Str) (H : Hp) : AC Tryz.prog y68 [.s x] H (fun v H' => v = .b false ∧ H' = H) := by
  refine AC.code y32.at y32.ok ?_
  simp only [y32]
  refine AX.sr ?_
  simp [y32.r0]
  refine AX.sr ?_
  simp [y32.r1]
  refine AX.ret ?_
  simp
theorem y80 (x y : Str) (H : Hp) : AC Tryz.prog y3p [.s x, .s y] H (fun v H' => v = .i .i64 (y8i x y) ∧ H' = H) := by
  refine AC.code y11.at y11.ok ?_
  simp only [y11]
  refine AX.sr ?_
  simp [y11.r0]
  refine AX.sr ?_
  simp [y11.r1]
  refine AC.fix (yj1 _ _) ?_
  simp
  refine AX.sr ?_
  simp [y11.r2]
  refine AC.fix (yj1 _ _) ?_
  simp
  refine AX.seq (AX.seq (AX.reg ?_))
  simp [y11.r3]
  refine AX.pcond (t := false) rfl (fun h => by simp at h) (fun _ => AX.skip ?_)
  simp
  refine AX.seq (AX.seq (AX.reg ?_))
  simp [y11.r7]
  refine AX.pcond (t := false) rfl (fun h => by simp at h) (fun _ => AX.skip ?_)
  simp
  refine AX.seq (AX.seq (AX.reg ?_))
  simp [y11.r9]
  refine AX.pcond rfl (fun h => AX.seq (AX.reg ?_)) (fun h => AX.skip ?_)
  · simp [y11.r10]
    refine AX.ret ?_
    have h' : ltB x y = true := h
    simp [y8i, h']
  have h' : ltB x y = false := h
  simp
  refine AX.seq (AX.seq (AX.reg ?_))
  simp [y11.r11]
  by_cases he : x = y
  · refine AX.pcond (t := false) (by simp [h', he]) (fun h => by simp at h) (fun _ => AX.skip ?_)
    simp
    refine AX.sr ?_
    simp [y11.r13]
    refine AX.ret ?_
    unfold y8i; rw [h', if_pos he]; simp
  · refine AX.pcond (t := true) (by simp [h', he]) (fun _ => AX.seq (AX.reg ?_)) (fun h => by simp at h)
    simp [y11.r12]
    refine AX.ret ?_
    unfold y8i; rw [h', if_neg he]; simp
theorem ycz (a b : UInt8) (x y : Str) : ltB (a :: x) (b :: y) = true ↔ a.toNat < b.toNat ∨ (a = b ∧ ltB x y = true) := by
  unfold ltB
  simp only [Go.Op.bytesLess, Bool.or_eq_true, Bool.and_eq_true, decide_eq_true_eq, beq_iff_eq, UInt8.lt_iff_toNat_lt]
theorem y8u (x : Str) : ¬ ltB x x = true := by
  induction x with
  | nil => intro h; cases h
  | cons a x ih => rw [ycz]; rintro (h | ⟨_, h⟩)
                   · omega
                   · exact ih h
theorem ydn (x y : Str) : ltB x y = true ∨ x = y ∨ ltB y x = true := by
  induction x generalizing y with
  | nil => cases y with
    | nil => exact .inr (.inl rfl)
    | cons b y => exact .inl rfl
  | cons a x ih =>
    cases y with
    | nil => exact .inr (.inr rfl)
    | cons b y =>
      rw [ycz, ycz]
      rcases Nat.lt_trichotomy a.toNat b.toNat with h | h | h
      · exact .inl (.inl h)
      · have e : a = b := UInt8.toNat_inj.1 h
        subst e
        rcases ih y with h1 | h1 | h1
        · exact .inl (.inr ⟨rfl, h1⟩)
        · exact .inr (.inl (by rw [h1]))
        · exact .inr (.inr (.inr ⟨rfl, h1⟩))
      · exact .inr (.inr (.inl h))
theorem y9i {x y z : Str} (h1 : ltB x y = true) (h2 : ltB y z = true) : ltB x z = true := by
  induction x generalizing y z with
  | nil =>
    cases z with
    | nil => cases y <;> cases h2
    | cons c z => rfl
  | cons a x ih =>
    cases y with
    | nil => cases h1
    | cons b y =>
      cases z with
      | nil => cases h2
      | cons c z =>
        rw [ycz] at h1 h2 ⊢
        rcases h1 with h1 | ⟨rfl, h1⟩
        · rcases h2 with h2 | ⟨rfl, h2⟩
          · exact .inl (by omega)
          · exact .inl h1
        · rcases h2 with h2 | ⟨rfl, h2⟩
          · exact .inl h2
          · exact .inr ⟨rfl, ih h1 h2⟩
theorem ybr {x y : Str} (h : ltB x y = true) : ltB y x = false := by
  cases h2 : ltB y x with
  | false => rfl
  | true => exact absurd (y9i h h2) (y8u x)
def y52 (l : List Str) : Prop := l.Pairwise fun x y => ltB x y = true
def ybm (l : List Str) (x : Str) : Nat := (l.takeWhile fun y => ltB y x).length
theorem ygr {l : List Str} (h : y52 l) (x : Str) : y78 l x = if x ∈ l then l else l.take (ybm l x) ++ x :: l.drop (ybm l x) := by
  induction l with
  | nil => rfl
  | cons y r ih =>
    have hr : y52 r := (List.pairwise_cons.1 h).2
    have hy := (List.pairwise_cons.1 h).1
    simp only [y78, ybm, List.takeWhile_cons]
    by_cases h1 : ltB y x = true
    · have hne : x ≠ y := fun e => by subst e; exact y8u _ h1
      rw [if_pos h1, if_pos h1, ih hr]
      by_cases hm : x ∈ r
      · simp [hm]
      · simp [hm, hne, ybm]
    · rw [if_neg h1, if_neg h1]
      by_cases h2 : y = x
      · subst h2; simp
      · have hm : x ∉ r := fun hm => h1 (hy x hm)
        rw [if_neg h2, if_neg (by simp [hm, Ne.symm h2])]
        simp
theorem ygo {l : List Str} {x z : Str} : z ∈ y78 l x ↔ z = x ∨ z ∈ l := by
  induction l with
  | nil => simp [y78]
  | cons y r ih =>
    simp only [y78]
    split
    · simp [ih]; constructor
      · rintro (h | h | h) <;> simp [h]
      · rintro (h | h | h) <;> simp [h]
    · split
      · rename_i h; subst h; simp
      · simp
theorem yco {l : List Str} (h : y52 l) (x : Str) : y52 (y78 l x) := by
  induction l with
  | nil => simp [y78, y52]
  | cons y r ih =>
    have hr : y52 r := (List.pairwise_cons.1 h).2
    have hy := (List.pairwise_cons.1 h).1
    simp only [y78]
    split
    · rename_i h1
      refine List.pairwise_cons.2 ⟨fun z hz => ?_, ih hr⟩
      rcases ygo.1 hz with rfl | hz
      · exact h1
      · exact hy z hz
    · rename_i h1
      split
      · exact h
      · rename_i h2
        have h3 : ltB x y = true := by
          rcases ydn x y with h | h | h
          · exact h
          · exact absurd h.symm h2
          · exact absurd h h1
        refine List.pairwise_cons.2 ⟨fun z hz => ?_, h⟩
        rcases List.mem_cons.1 hz with rfl | hz
        · exact h3
        · exact y9i h3 (hy z hz)
theorem y91 (l : List Str) (x : Str) : y3y (l ++ [x]) = y78 (y3y l) x := by unfold y3y; rw [List.foldl_append]; rfl
theorem y95 (l : List Str) : y52 (y3y l) := by
  have : ∀ (l acc : List Str), y52 acc → y52 (l.foldl y78 acc) := by
    intro l
    induction l with
    | nil => intro acc h; exact h
    | cons x r ih => intro acc h; exact ih _ (yco h x)
  exact this l [] (by simp [y52])
theorem y7y {l : List Str} {z : Str} : z ∈ y3y l ↔ z ∈ l := by
  have : ∀ (l acc : List Str), z ∈ l.foldl y78 acc ↔ z ∈ acc ∨ z ∈ l := by
    intro l
    induction l with
    | nil => intro acc; simp
    | cons x r ih => intro acc; rw [List.foldl_cons, ih, ygo]; simp; constructor
                     · rintro ((h | h) | h) <;> simp [h]
                     · rintro (h | h | h) <;> simp [h]
  rw [y3y, this]; simp
theorem yhh {l : List Str} (h : y52 l) (x : Str) (j : Nat) (y : Str) (hj : l[j]? = some y) : ltB y x = decide (j < ybm l x) := by
  induction l generalizing j with
  | nil => simp at hj
  | cons z r ih =>
    have hr : y52 r := (List.pairwise_cons.1 h).2
    have hz := (List.pairwise_cons.1 h).1
    simp only [ybm, List.takeWhile_cons]
    by_cases h1 : ltB z x = true
    · rw [if_pos h1]
      cases j with
      | zero => simp at hj; subst hj; simp [h1]
      | succ j => simp at hj; rw [ih hr j hj]; exact decide_eq_decide.2 (by unfold ybm; rw [List.length_cons]; omega)
    · rw [if_neg h1]
      cases j with
      | zero => simp at hj; subst hj; simpa using h1
      | succ j =>
        simp at hj
        have : ltB z y = true := hz y (List.mem_of_getElem? hj)
        have : ¬ ltB y x = true := fun h2 => h1 (y9i this h2)
        simpa using this
theorem yln (l : List Str) (x : Str) : ybm l x ≤ l.length := by
  unfold ybm
  have := congrArg List.length (List.takeWhile_append_dropWhile (p := fun y => ltB y x) (l := l))
  rw [List.length_append] at this; omega
theorem yio {l : List Str} (h : y52 l) (x : Str) : x ∈ l ↔ l[ybm l x]? = some x := by
  constructor
  · intro hm
    obtain ⟨j, hj⟩ := List.mem_iff_getElem?.1 hm
    have h1 := yhh h x j x hj
    have h2 : ¬ j < ybm l x := fun hlt => by rw [decide_eq_true hlt] at h1; exact y8u x h1
    rcases Nat.lt_or_ge (ybm l x) j with h3 | h3
    · have hl := (List.getElem?_eq_some_iff.1 hj).1
      have hp : l[ybm l x]? = some l[ybm l x] := List.getElem?_eq_getElem (by omega)
      have h4 := yhh h x _ _ hp
      have h5 : ltB l[ybm l x] x = true := by
        have := List.pairwise_iff_getElem.1 h (ybm l x) j (by omega) hl h3
        rwa [(List.getElem?_eq_some_iff.1 hj).2] at this
      rw [h5] at h4; simp at h4
    · have : j = ybm l x := by omega
      rwa [← this]
  · exact fun h => List.mem_of_getElem? h
end Go.Proofs.YtjajpilacdfnbaaGreatDoor
namespace Go.Proofs.YtjajpilacdfnbaaGreatDoor
open Am C
set_option linter.unusedSimpArgs false
set_option linter.unusedVariables false
def tcs (l : List Str) : List V := l.map fun x => .s x
def SlOf (H : Hp) (cs : List V) (v : V) (id : Nat) : Prop := (cs = [] ∧ ∃ z, v = .sl none 0 z) ∨ (cs ≠ [] ∧ v = .sl (some (id, 0, cs.length)) cs.length 1 ∧ ∃ m, H.get id = some (.cells cs m) ∧ m ≤ cs.length)
theorem ycx {α : Type} {l : List α} {n : Nat} {v : α} (h : l[n]? = some v) : (l.drop n).take 1 = [v] := by
  obtain ⟨h1, h2⟩ := List.getElem?_eq_some_iff.1 h
  rw [List.drop_eq_getElem_cons h1, h2]; rfl
theorem ylp (n : Nat) (x y : Str) (bx id idt m m2 mt : Nat) (ts : List Str) (ov : V) (H : Hp) (hb : H.get bx = some (.cells [.p (some (id, 0, 2))] m)) (hm : m ≤ 1) (hi : H.get id = some (.cells [.sl (some (idt, 0, ts.length)) ts.length 1, ov] m2)) (hm2 : m2 ≤ 2)
    (ht : H.get idt = some (.cells (tcs ts) mt)) (hmt : mt ≤ ts.length) (hn : ts[n]? = some y) (hl : ts.length ≤ 1000000000) : AC Tryz.prog y4r [.i .i64 (n : Nat), .s x, .p (some (bx, 0, 1))] H (fun v H' => v = .i .i64 (y8i y x) ∧ H' = H) := by
  have hnl := (List.getElem?_eq_some_iff.1 hn).1
  refine AC.code y27.at y27.ok ?_
  simp only [y27]
  refine AX.sr ?_
  simp [y27.r0]
  refine AX.sr ?_
  have ht1 : ((tcs ts).drop n).take 1 = [.s y] := ycx (by simp [tcs, hn])
  simp [y27.r1, hb, hm, hi, hm2, ht, hmt, hnl, ht1, show n + 1 ≤ ts.length by omega]
  refine AC.fix (y80 _ _ _) ?_
  simp
  refine AX.ret ?_
  simp
def BsInv (arr : V) (x : Str) (g : V) (len p : Nat) (H : Hp) (m : Nat) (F : Fr) (H' : Hp) : Prop :=
  ∃ i j, i ≤ p ∧ p ≤ j ∧ j ≤ len ∧ m = j - i ∧ H' = H ∧ F = [(0, arr), (1, .s x), (2, g), (8, .i .i64 len), (9, .i .i64 i), (10, .i .i64 j)]
theorem half (i j : Nat) (h : i + j ≤ 4611686018427387904) : Go.IntKind.i64.wrap ((Go.IntKind.u64.wrap (Go.IntKind.i64.wrap ((i : Int) + j))).fdiv 2) = (((i + j) / 2 : Nat) : Int) := by
  rw [y3e (n := (i : Int) + j) (by omega) (by omega), yet (by omega) (by omega), Int.fdiv_eq_ediv_of_nonneg _ (by omega), y3e (by omega) (by omega)]; omega
theorem BSF_ok (os : List Nat) (x : Str) (ido m : Nat) (f : Go.FuncId) (caps : List V) (c : Nat → Int) (p : Nat) (H : Hp) (hne : os ≠ []) (hg : H.get ido = some (.cells (nc os) m)) (hm : m ≤ os.length) (hl : os.length ≤ 1000000000) (hp : p ≤ os.length)
    (hc : ∀ j, j < os.length → (c j < 0 ↔ j < p)) (hf : ∀ j n, os[j]? = some n → AC Tryz.prog f (.i .i64 (n : Nat) :: .s x :: caps) H (fun v H' => v = .i .i64 (c j) ∧ H' = H)) :
    AC Tryz.prog y3h [.sl (some (ido, 0, os.length)) os.length 1, .s x, .fn f caps] H (fun v H' => v = .tup [.i .i64 (p : Nat), .b (decide (p < os.length ∧ c p = 0))] ∧ H' = H) := by
  refine AC.code y5.at y5.ok ?_
  simp only [y5]
  have hld : ∀ j n, os[j]? = some n → ((nc os).drop j).take 1 = [.i .i64 (n : Nat)] := fun j n h => ycx (by simp [nc, h])
  refine AX.sr ?_
  simp [y5.r0]
  refine AX.sr ?_
  simp [y5.r1]
  refine AX.sr ?_
  simp [y5.r2]
  refine AX.seq (AX.pblock (AX.loop (BsInv (.sl (some (ido, 0, os.length)) os.length 1) x (.fn f caps) os.length p H) os.length ⟨_, _, .refl _ _, 0, os.length, by omega, hp, by omega, by omega, rfl, rfl⟩ ?_))
  rintro m' F H' ⟨i, j, hi, hj, hjl, rfl, rfl, rfl⟩
  simp only [y5.l0]
  refine AX.seq (AX.seq (AX.reg ?_))
  simp [y5.r3]
  refine AX.pcond rfl (fun hb => AX.skip ?_) (fun hb => AX.exit ?_)
  · simp at hb
    simp
    refine AX.pblock (AX.seq (AX.reg ?_))
    obtain ⟨e, he⟩ : ∃ e, e = (i + j) / 2 := ⟨_, rfl⟩
    have hh := half i j (by omega)
    rw [← he] at hh
    simp [y5.r4, hh]
    have hel : e < os.length := by omega
    obtain ⟨n, hn⟩ : ∃ n, os[e]? = some n := ⟨_, List.getElem?_eq_getElem hel⟩
    refine AX.sr ?_
    simp [y5.r5, hel, hg, hm, hld e n hn, show e + 1 ≤ os.length by omega]
    refine AC.fix (hf e n hn) ?_
    simp
    refine AX.pcond rfl (fun h => AX.reg ?_) (fun h => AX.reg ?_)
    · simp at h
      have := (hc e hel).1 h
      simp [y5.r6, y2o (show e ≤ 9223372036854775000 by omega)]
      exact ⟨j - (e + 1), by omega, _, _, .refl _ _, e + 1, j, by omega, hj, hjl, rfl, rfl, by simp⟩
    · simp at h
      have : ¬ e < p := fun hlt => by have := (hc e hel).2 hlt; omega
      simp [y5.r7]
      exact ⟨e - i, by omega, _, _, .refl _ _, i, e, hi, by omega, by omega, rfl, rfl, rfl⟩
  simp at hb
  have e1 : i = p := by omega
  subst e1
  simp
  refine AX.sr ?_
  by_cases hlt : i < os.length
  · obtain ⟨n, hn⟩ : ∃ n, os[i]? = some n := ⟨_, List.getElem?_eq_getElem hlt⟩
    simp [y5.r8, hlt, hg, hm, hld i n hn, show i + 1 ≤ os.length by omega]
    refine AC.fix (hf i n hn) ?_
    simp [hlt]
    refine AX.ret ?_
    simp
  · simp [y5.r8, hlt]
    refine AX.ret ?_
    simp
theorem BSF0_ok (x : Str) (z : Nat) (f : Go.FuncId) (caps : List V) (H : Hp) :
    AC Tryz.prog y3h [.sl none 0 z, .s x, .fn f caps] H (fun v H' => v = .tup [.i .i64 ((0 : Nat) : Int), .b false] ∧ H' = H) := by
  refine AC.code y5.at y5.ok ?_
  simp only [y5]
  refine AX.sr ?_
  simp [y5.r0]
  refine AX.sr ?_
  simp [y5.r1]
  refine AX.sr ?_
  simp [y5.r2]
  refine AX.seq (AX.pblock (AX.loop (fun m F X => m = 0 ∧ X = H ∧ F = [(0, .sl none 0 z), (1, .s x), (2, .fn f caps), (8, .i .i64 0), (9, .i .i64 0), (10, .i .i64 0)]) 0 ⟨_, _, .refl _ _, rfl, rfl, rfl⟩ ?_))
  rintro m F X ⟨rfl, rfl, rfl⟩
  simp only [y5.l0]
  refine AX.seq (AX.seq (AX.reg ?_))
  simp [y5.r3]
  refine AX.pcond (t := false) rfl (fun h => by simp at h) (fun _ => AX.exit ?_)
  simp
  refine AX.sr ?_
  simp [y5.r8]
  refine AX.ret ?_
  simp
structure TabAt (H : Hp) (id idt ido : Nat) (ts : List Str) (os : List Nat) : Prop where
  ex : ∃ tv ov m, H.get id = some (.cells [tv, ov] m) ∧ m ≤ 2 ∧ SlOf H (tcs ts) tv idt ∧ SlOf H (nc os) ov ido
  len : os.length = ts.length
  all : ∀ n ∈ os, n < ts.length
  big : ts.length ≤ 1000000000
  ris : y52 (os.map fun n => ts.getD n [])
def y6a (ts : List Str) (os : List Nat) : List Str := os.map fun n => ts.getD n []
theorem cmp_neg (x y : Str) : (y8i x y < 0) = (ltB x y = true) := by
  unfold y8i
  by_cases h : ltB x y = true
  · simp [h]
  · rw [if_neg h]; by_cases h2 : x = y
    · rw [if_pos h2]; simp [h]
    · rw [if_neg h2]; simp [h]
theorem cmp_zero (x y : Str) : (y8i x y = 0) = (x = y) := by
  unfold y8i
  by_cases h : ltB x y = true
  · rw [if_pos h]
    have : x ≠ y := fun e => by rw [e] at h; exact absurd h (y8u _)
    simp [this]
  · rw [if_neg h]; by_cases h2 : x = y
    · rw [if_pos h2]; simp [h2]
    · rw [if_neg h2]; simp [h2]
theorem place_ok (id idt ido : Nat) (ts : List Str) (os : List Nat) (x : Str) (H : Hp) (T : TabAt H id idt ido ts os) : AC Tryz.prog y4z [.p (some (id, 0, 2)), .s x] H (fun v H' => v = .tup [.i .i64 (ybm (y6a ts os) x : Nat), .b (decide (x ∈ y6a ts os))] ∧ H' = H) := by
  have hR : y52 (y6a ts os) := T.ris
  have hRl : (y6a ts os).length = os.length := by simp [y6a]
  have hfr : ybf (.tup [.i .i64 (ybm (y6a ts os) x : Nat), .b (decide (x ∈ y6a ts os))]) := by simp
  refine AC.codeP y2b.at y2b.ok hfr fun hlt => ?_
  obtain ⟨tv, ov, m, hi, hm, ht, ho⟩ := T.ex
  have hil := hlt _ _ hi
  simp only [y2b]
  refine AX.sr ?_
  simp [y2b.r0]
  refine AX.sr ?_
  have hi' : (H.add (.cells [.p (some (id, 0, 2))] 1)).get id = some (.cells [tv, ov] m) := (Hp.Ext.add hlt _).2 _ _ hi
  simp [y2b.r1, hi, hm, show id ≠ H.next by omega]
  rcases ho with ⟨e, z, rfl⟩ | ⟨hne, rfl, mo, go, hmo⟩
  · have e0 : os = [] := by simpa [nc] using e
    subst e0
    refine AC.fix (BSF0_ok x z _ _ _) ?_
    simp
    refine AX.ret ?_
    simp [y6a, ybm]
    exact ⟨.add hlt _, .refl _⟩
  · have hne' : os ≠ [] := by simpa [nc] using hne
    have hol : (nc os).length = os.length := by simp [nc]
    rw [hol] at hmo ⊢
    rcases ht with ⟨e, z, rfl⟩ | ⟨hnt, rfl, mt, gt, hmt⟩
    · have e0 : ts = [] := by simpa [tcs] using e
      have := T.len
      rw [e0] at this
      exact absurd (List.length_eq_zero_iff.1 this) hne'
    have htl : (tcs ts).length = ts.length := by simp [tcs]
    rw [htl] at hmt hi'
    refine AC.fix (BSF_ok os x ido mo _ _ (fun j => y8i ((y6a ts os).getD j []) x) (ybm (y6a ts os) x) _ hne' ((Hp.Ext.add hlt _).2 _ _ go) hmo (by have := T.len; have := T.big; omega) (by have := yln (y6a ts os) x; omega) (fun j hj => ?_) (fun j n hn => ?_)) ?_
    · have hj' : (y6a ts os)[j]? = some (y6a ts os)[j] := List.getElem?_eq_getElem (by omega)
      have := yhh hR x j _ hj'
      rw [cmp_neg, List.getD_eq_getElem?_getD, hj', Option.getD_some, this]; simp
    · have hnl := T.all n (List.mem_of_getElem? hn)
      have e1 : (y6a ts os).getD j [] = ts[n] := by
        rw [List.getD_eq_getElem?_getD]; simp [y6a, hn, hnl]
      rw [e1]
      exact ylp n x ts[n] H.next id idt 1 m mt ts _ _ (by simp) (by omega) hi' hm ((Hp.Ext.add hlt _).2 _ _ gt) hmt (List.getElem?_eq_getElem hnl) T.big
    simp
    refine AX.ret ?_
    have ef : decide (ybm (y6a ts os) x < os.length ∧ y8i ((y6a ts os).getD (ybm (y6a ts os) x) []) x = 0) = decide (x ∈ y6a ts os) := by
      apply decide_eq_decide.2
      rw [cmp_zero, yio hR x]
      constructor
      · rintro ⟨h1, h2⟩
        rw [List.getElem?_eq_getElem (by omega)]
        rw [List.getD_eq_getElem?_getD, List.getElem?_eq_getElem (by omega)] at h2
        simpa using h2
      · intro h
        have h1 := (List.getElem?_eq_some_iff.1 h).1
        exact ⟨by omega, by rw [List.getD_eq_getElem?_getD, h]; rfl⟩
    rw [Bool.decide_and] at ef
    rw [List.getD_eq_getElem?_getD] at ef
    simp [ef]
    exact ⟨.add hlt _, .refl _⟩
end Go.Proofs.YtjajpilacdfnbaaGreatDoor
namespace Go.Proofs.YtjajpilacdfnbaaGreatDoor
open Am C
set_option linter.unusedSimpArgs false
set_option linter.unusedVariables false
def putT (ts : List Str) (os : List Nat) (x : Str) : List Str := if x ∈ y6a ts os then ts else ts ++ [x]
def putO (ts : List Str) (os : List Nat) (x : Str) : List Nat := if x ∈ y6a ts os then os else ydz os (ybm (y6a ts os) x) ts.length
structure Left (H H' : Hp) (id idt ido idt' ido' : Nat) : Prop where
  old : ∀ k blk, k ≠ id → k ≠ idt → k ≠ ido → H.get k = some blk → H'.get k = some blk
  nx : H.next ≤ H'.next
  t : idt' = idt ∨ H.next ≤ idt'
  o : ido' = ido ∨ H.next ≤ ido'
  lt : (∀ k blk, H.get k = some blk → k < H.next) → ∀ k blk, H'.get k = some blk → k < H'.next
theorem Left.refl (H : Hp) (id idt ido : Nat) : Left H H id idt ido idt ido := ⟨fun _ _ _ _ _ h => h, Nat.le_refl _, .inl rfl, .inl rfl, fun h => h⟩
theorem yll {ts : List Str} {os : List Nat} {x : Str} (hall : ∀ n ∈ os, n < ts.length) (h : x ∉ y6a ts os) : y6a (ts ++ [x]) (ydz os (ybm (y6a ts os) x) ts.length) = (y6a ts os).take (ybm (y6a ts os) x) ++ x :: (y6a ts os).drop (ybm (y6a ts os) x) := by
  have e : ∀ l : List Nat, (∀ n ∈ l, n < ts.length) → (l.map fun n => (ts ++ [x]).getD n []) = l.map fun n => ts.getD n [] := fun l hl => by
    apply List.map_congr_left
    intro n hn
    rw [List.getD_eq_getElem?_getD, List.getD_eq_getElem?_getD, List.getElem?_append_left (hl n hn)]
  unfold ydz
  generalize ybm (y6a ts os) x = p
  unfold y6a
  rw [List.map_append, List.map_cons, e _ (fun n hn => hall n (List.mem_of_mem_take hn)), e _ (fun n hn => hall n (List.mem_of_mem_drop hn)), List.map_take, List.map_drop]
  simp [List.getD_eq_getElem?_getD]
theorem Put_ok (id idt ido : Nat) (ts : List Str) (os : List Nat) (x : Str) (H : Hp) (hbig : ts.length ≤ 1000000) (T : TabAt H id idt ido ts os) :
    AC Tryz.prog y5j [.p (some (id, 0, 2)), .s x] H (fun v H' => (∃ a b, v = .tup [.i .i64 a, .b b]) ∧ ∃ idt' ido', TabAt H' id idt' ido' (putT ts os x) (putO ts os x) ∧ Left H H' id idt ido idt' ido') := by
  have hR : y52 (y6a ts os) := T.ris
  have hRl : (y6a ts os).length = os.length := by simp [y6a]
  have hpl := yln (y6a ts os) x
  have hpm := yio hR x
  have hTl := T.len
  refine AC.lt (by kernel_rfl) fun hlt => ?_
  refine AC.code y12.at y12.ok ?_
  obtain ⟨tv, ov, m, hi, hm, ht, ho⟩ := T.ex
  have hil := hlt _ _ hi
  simp only [y12]
  refine AX.sr ?_
  simp [y12.r0]
  refine AX.sr ?_
  simp [y12.r1]
  refine AC.fix (place_ok id idt ido ts os x H T) ?_
  obtain ⟨p, hp⟩ : ∃ p, p = ybm (y6a ts os) x := ⟨_, rfl⟩
  rw [← hp] at hpl hpm ⊢
  simp
  refine AX.seq (AX.seq (AX.reg ?_))
  simp [y12.r2]
  by_cases hx : x ∈ y6a ts os
  · refine AX.pcond (t := true) (by simp [hx]) (fun _ => AX.seq (AX.reg ?_)) (fun h => by simp at h)
    have hpos := (List.getElem?_eq_some_iff.1 (hpm.1 hx)).1
    rcases ho with ⟨e, z, rfl⟩ | ⟨hne, rfl, mo, go, hmo⟩
    · have e0 : os = [] := by simpa [nc] using e
      subst e0; simp [y6a] at hx
    have hol : (nc os).length = os.length := by simp [nc]
    rw [hol] at hmo hi
    obtain ⟨n, hn⟩ : ∃ n, os[p]? = some n := ⟨_, List.getElem?_eq_getElem (by omega)⟩
    have hld : ((nc os).drop p).take 1 = [.i .i64 (n : Nat)] := ycx (by simp [nc, hn])
    simp [y12.r3, hi, hm, go, hmo, hld, show p < os.length by omega, show p + 1 ≤ os.length by omega]
    refine AX.ret ?_
    simp [putT, putO, hx]
    exact ⟨idt, ido, ⟨⟨tv, _, m, by rw [hi], hm, ht, .inr ⟨hne, by rw [hol], mo, go, by rw [hol]; exact hmo⟩⟩, T.len, T.all, T.big, T.ris⟩, Left.refl _ _ _ _⟩
  refine AX.pcond (t := false) (by simp [hx]) (fun h => by simp at h) (fun _ => AX.skip ?_)
  simp
  have hput : putT ts os x = ts ++ [x] := by unfold putT; rw [if_neg hx]
  have hpuo : putO ts os x = ydz os p ts.length := by unfold putO; rw [if_neg hx, hp]
  rw [hput, hpuo]
  have hfin : ∀ (H' : Hp) (idt' ido' : Nat), (∃ m', H'.get id = some (.cells [.sl (some (idt', 0, ts.length + 1)) (ts.length + 1) 1, .sl (some (ido', 0, ts.length + 1)) (ts.length + 1) 1] m') ∧ m' ≤ 2) →
      (∃ m', H'.get idt' = some (.cells (tcs (ts ++ [x])) m') ∧ m' ≤ ts.length + 1) → (∃ m', H'.get ido' = some (.cells (nc (ydz os p ts.length)) m') ∧ m' ≤ ts.length + 1) → TabAt H' id idt' ido' (ts ++ [x]) (ydz os p ts.length) := by
    rintro H' idt' ido' ⟨m1, h1, h2⟩ ⟨m3, h3, h4⟩ ⟨m5, h5, h6⟩
    have l1 : (tcs (ts ++ [x])).length = ts.length + 1 := by simp [tcs]
    have l2 : (nc (ydz os p ts.length)).length = ts.length + 1 := by simp [nc, yfa (show p ≤ os.length by omega)]; exact hTl
    refine ⟨⟨_, _, m1, h1, h2, .inr ⟨by simp [tcs], by rw [l1], m3, h3, by rw [l1]; exact h4⟩, .inr ⟨by simp [nc, ydz], by rw [l2], m5, h5, by rw [l2]; exact h6⟩⟩, ?_, fun n hn => ?_, ?_, ?_⟩
    · rw [yfa (show p ≤ os.length by omega)]; simp [hTl]
    · simp only [ydz, List.mem_append, List.mem_cons] at hn
      simp only [List.length_append, List.length_cons, List.length_nil]
      rcases hn with hn | rfl | hn
      · have := T.all n (List.mem_of_mem_take hn); omega
      · omega
      · have := T.all n (List.mem_of_mem_drop hn); omega
    · simp; omega
    · have := yll T.all hx
      rw [← hp] at this
      show y52 (y6a (ts ++ [x]) (ydz os p ts.length))
      rw [this]
      have h7 := yco hR x
      rw [ygr hR, if_neg hx, ← hp] at h7
      exact h7
  by_cases he : ts = []
  · subst he
    have he2 : os = [] := List.length_eq_zero_iff.1 hTl
    subst he2
    have hp0 : p = 0 := by have h0 : (y6a [] []).length = 0 := rfl
                           omega
    subst hp0
    obtain ⟨z, rfl⟩ : ∃ z, tv = .sl none 0 z := ht.elim (fun h => h.2) (fun h => absurd rfl h.1)
    obtain ⟨z2, rfl⟩ : ∃ z, ov = .sl none 0 z := ho.elim (fun h => h.2) (fun h => absurd rfl h.1)
    refine AX.sr ?_
    simp [y12.r4, hi, hm]
    refine AX.sr ?_
    have e1 : y3m H 1 16 (.sl none 0 z) (.fs [[.s x]]) = some (.sl (some (H.next, 0, 1)) 1 1, H.add (.cells [.s x] 1)) := by simp [y3m, y73, y86]
    simp [y12.r5, hi, hm, y8y, -y3m, e1, show id ≠ H.next by omega]
    refine AX.sr ?_
    simp [y12.r6, hm, y8y, show id ≠ H.next by omega, show id ≠ H.next + 1 by omega]
    refine AC.fix (yk8 0 (H.next + 1) 1 z2 _ (by simp)) ?_
    simp [hm, show id ≠ H.next by omega, show id ≠ H.next + 1 by omega, show id ≠ H.next + 1 + 1 by omega]
    refine AX.sr ?_
    simp [y12.r7]
    refine AX.ret ?_
    simp
    refine ⟨H.next, H.next + 1 + 1, hfin _ _ _ ⟨2, by simp, by omega⟩ ⟨1, by simp [tcs, show H.next ≠ id by omega, show H.next ≠ H.next + 1 + 1 by omega], by simp⟩ ⟨1, by simp [ydz, show H.next + 1 + 1 ≠ id by omega], by simp⟩, fun k blk h1 h2 h3 h => ?_, by simp; omega, .inr (Nat.le_refl _), .inr (by omega), fun _ => Hp.upd_lt (Hp.add_lt (Hp.add_lt (Hp.upd_lt (Hp.add_lt hlt _) (by simp; omega) _) _) _) (by simp; omega) _⟩
    have hk := hlt _ _ h
    simp [h1, show k ≠ H.next by omega, show k ≠ H.next + 1 by omega, show k ≠ H.next + 1 + 1 by omega]
    exact h
  · have hoe : os ≠ [] := fun h => he (List.length_eq_zero_iff.1 (by rw [← hTl, h]; rfl))
    obtain ⟨rfl, mt, gt, hmt⟩ : tv = .sl (some (idt, 0, ts.length)) ts.length 1 ∧ ∃ m, H.get idt = some (.cells (tcs ts) m) ∧ m ≤ ts.length := by
      rcases ht with ⟨e, _⟩ | ⟨_, h, mt, gt, hmt⟩
      · exact absurd (by simpa [tcs] using e) he
      · have : (tcs ts).length = ts.length := by simp [tcs]
        rw [this] at h hmt
        exact ⟨h, mt, gt, hmt⟩
    obtain ⟨rfl, mo, go, hmo⟩ : ov = .sl (some (ido, 0, os.length)) os.length 1 ∧ ∃ m, H.get ido = some (.cells (nc os) m) ∧ m ≤ os.length := by
      rcases ho with ⟨e, _⟩ | ⟨_, h, mo, go, hmo⟩
      · exact absurd (by simpa [nc] using e) hoe
      · have : (nc os).length = os.length := by simp [nc]
        rw [this] at h hmo
        exact ⟨h, mo, go, hmo⟩
    have d1 : id ≠ idt := fun e => by
      rw [← e, hi] at gt; injection gt with gt; injection gt with gt
      cases ts with
      | nil => exact he rfl
      | cons a r => simp [tcs] at gt
    have d2 : id ≠ ido := fun e => by
      rw [← e, hi] at go; injection go with go; injection go with go
      cases os with
      | nil => exact hoe rfl
      | cons a r => simp [nc] at go
    have d3 : idt ≠ ido := fun e => by
      rw [e, go] at gt; injection gt with gt; injection gt with gt
      cases ts with
      | nil => exact he rfl
      | cons a r => cases os with
        | nil => exact hoe rfl
        | cons b q => simp [tcs, nc] at gt
    have l1 := hlt _ _ gt
    have l2 := hlt _ _ go
    refine AX.sr ?_
    simp [y12.r4, hi, hm]
    refine AX.sr ?_
    have e1 : y3m H 1 16 (.sl (some (idt, 0, ts.length)) ts.length 1) (.fs [[.s x]]) = some (.sl (some (idt, 0, ts.length + 1)) (ts.length + 1) 1, H.upd idt (.cells (tcs ts ++ [.s x]) mt)) := by
      have : (tcs ts).length = ts.length := by simp [tcs]
      simp [y3m, y73, y86, gt, this, y5l]
      omega
    simp [y12.r5, hi, hm, y8y, -y3m, e1, d1]
    have g5 : ((H.upd idt (.cells (tcs ts ++ [.s x]) mt)).upd id (.cells [.sl (some (idt, 0, ts.length + 1)) (ts.length + 1) 1, .sl (some (ido, 0, os.length)) os.length 1] 2)).get ido = some (.cells (nc os) mo) := by
      simp [Ne.symm d2, Ne.symm d3, go]
    refine AX.sr ?_
    simp [y12.r6, hm, y8y]
    refine AC.fix (ynv os p ts.length ido H.next mo 1 (by omega) (by omega) (by omega) _ ?_ (by simp)) ?_
    · rw [show ∀ b, (((H.upd idt (.cells (tcs ts ++ [.s x]) mt)).upd id (.cells [.sl (some (idt, 0, ts.length + 1)) (ts.length + 1) 1, .sl (some (ido, 0, os.length)) os.length 1] 2)).add b).get ido = ((H.upd idt (.cells (tcs ts ++ [.s x]) mt)).upd id (.cells [.sl (some (idt, 0, ts.length + 1)) (ts.length + 1) 1, .sl (some (ido, 0, os.length)) os.length 1] 2)).get ido from fun b => by simp [show ido ≠ H.next by omega]]
      exact g5
    simp [Hp.del, d2, show id ≠ H.next by omega, show id ≠ H.next + 1 by omega, hTl]
    refine AX.sr ?_
    simp [y12.r7]
    refine AX.ret ?_
    simp
    refine ⟨idt, H.next + 1, hfin _ _ _ ⟨2, by simp, by omega⟩ ⟨mt, ?_, by omega⟩ ⟨ts.length + 1, ?_, by omega⟩, fun k blk h1 h2 h3 h => ?_, by simp; omega, .inl rfl, .inr (by omega), fun _ k blk h => ?_⟩
    · simp [Ne.symm d1, show idt ≠ H.next + 1 by omega, d3, show idt ≠ H.next by omega, tcs]
    · simp [show H.next + 1 ≠ id by omega]
    · have hk := hlt _ _ h
      simp [h1, h2, h3, show k ≠ H.next by omega, show k ≠ H.next + 1 by omega]
      exact h
    · by_cases k1 : k = id
      · simp; omega
      · by_cases k2 : k = H.next + 1
        · simp; omega
        · by_cases k3 : k = H.next
          · simp; omega
          · by_cases k4 : k = idt
            · simp; omega
            · by_cases k5 : k = ido
              · simp; omega
              · simp [k1, k2, k3, k4, k5] at h
                have := hlt _ _ h
                simp; omega
end Go.Proofs.YtjajpilacdfnbaaGreatDoor
