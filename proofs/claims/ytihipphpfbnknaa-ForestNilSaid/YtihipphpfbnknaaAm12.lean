/- AM, part 12: contracts, code and its weakest preconditions. -/
import Derived.Test.YtihipphpfbnknaaAm11
import Derived.Orders
namespace Go.Proofs.Ytihipphpfbnknaa.Am
open Go Go.RowKit
set_option linter.unusedSimpArgs false
set_option linter.unusedVariables false

/-- The contract of a function: what comes in, in which heap; what it answers, and the heap behind it. -/
def okFn (P : Program) (f : FuncId) : Bool := match P.funcs[f]? with | some fn => fn.body.isSome && fn.name != "runtime.NumGoroutine" | none => false
def AC (P : Program) (f : FuncId) (args : List V) (H : Hp) (R : V → Hp → Prop) : Prop :=
  okFn P f = true ∧ ∀ (κ : K) (cs : List Value), Sim κ H → VRs κ args cs →
    Calls P f cs.toArray κ.w fun e w' => ∃ κ' v cv H', e = .returned cv ∧ κ'.w = w' ∧ κ.Le κ' ∧ Sim κ' H' ∧ VR κ' v cv ∧ R v H'

theorem AC.mono {P : Program} {f : FuncId} {args : List V} {H : Hp} {R R' : V → Hp → Prop} (h : AC P f args H R) (hr : ∀ v H', R v H' → R' v H') : AC P f args H R' :=
  ⟨h.1, fun κ cs S r => (h.2 κ cs S r).mono fun e w' ⟨κ', v, cv, H', a, b, c, d, e', f⟩ => ⟨κ', v, cv, H', a, b, c, d, e', hr _ _ f⟩⟩

/-- A value and a heap say less. -/
def WkV (v : V) (H : Hp) (v' : V) (H' : Hp) : Prop :=
  ∀ κ c, Sim κ H → VR κ v c → ∃ κ', κ'.w = κ.w ∧ κ.Le κ' ∧ Sim κ' H' ∧ VR κ' v' c
def Wk (F : Fr) (H : Hp) (F' : Fr) (H' : Hp) : Prop :=
  ∀ κ tmps, Sim κ H → FR κ F tmps → ∃ κ', κ'.w = κ.w ∧ κ.Le κ' ∧ Sim κ' H' ∧ FR κ' F' tmps

theorem WkV.refl (v : V) (H : Hp) : WkV v H v H := fun κ c S r => ⟨κ, rfl, .refl κ, S, r⟩
theorem WkV.trans {v H v' H' v'' H''} (a : WkV v H v' H') (b : WkV v' H' v'' H'') : WkV v H v'' H'' := fun κ c S r => by
  obtain ⟨κ1, w1, l1, S1, r1⟩ := a κ c S r
  obtain ⟨κ2, w2, l2, S2, r2⟩ := b κ1 c S1 r1
  exact ⟨κ2, w2.trans w1, l1.trans l2, S2, r2⟩
theorem WkV.drop {v : V} {H H' : Hp} (h : H'.Sub H) : WkV v H v H' := fun κ c S r => ⟨κ, rfl, .refl κ, S.weak h, r⟩
theorem Wk.refl (F : Fr) (H : Hp) : Wk F H F H := fun κ c S r => ⟨κ, rfl, .refl κ, S, r⟩
theorem Wk.trans {v H v' H' v'' H''} (a : Wk v H v' H') (b : Wk v' H' v'' H'') : Wk v H v'' H'' := fun κ c S r => by
  obtain ⟨κ1, w1, l1, S1, r1⟩ := a κ c S r
  obtain ⟨κ2, w2, l2, S2, r2⟩ := b κ1 c S1 r1
  exact ⟨κ2, w2.trans w1, l1.trans l2, S2, r2⟩
theorem Wk.drop {F : Fr} {H H' : Hp} (h : H'.Sub H) : Wk F H F H' := fun κ c S r => ⟨κ, rfl, .refl κ, S.weak h, r⟩
theorem Wk.keep {F : Fr} {H : Hp} (ts : List Nat) : Wk F H (fkeep F ts) H := fun κ c S r => ⟨κ, rfl, .refl κ, S, r.keep ts⟩
theorem AC.wk {P : Program} {f : FuncId} {args : List V} {H : Hp} {R R' : V → Hp → Prop} (h : AC P f args H R') (hr : ∀ v H', R' v H' → ∃ v' H'', WkV v H' v' H'' ∧ R v' H'') : AC P f args H R :=
  ⟨h.1, fun κ cs S r => (h.2 κ cs S r).mono fun e w' ⟨κ', v, cv, H', a, b, c, d, e', f⟩ => by
    obtain ⟨v', H'', wk, q⟩ := hr v H' f
    obtain ⟨κ2, w2, l2, S2, r2⟩ := wk κ' cv d e'
    exact ⟨κ2, v', cv, H'', a, w2.trans b, c.trans l2, S2, r2, q⟩⟩

/-! ### code -/
inductive ADo where
  | op (o : AOp)
  | call (f : FuncId) (args : List AO)
  | callv (fv : AO) (args : List AO)
structure AStep where
  dst : Option Nat
  g : Option (Nat × Bool)
  d : ADo

inductive ACode where
  | skip
  | region (ss : List AStep)
  | draw (bs : List Nat) (ss : List AStep)
  | drawA (bs als : List Nat) (ss : List AStep)
  | seq (a b : ACode)
  | cond (c : AO) (a b : ACode)
  | block (id : Nat) (c : ACode)
  | loop (c : ACode)
  | exit (id : Nat)
  | ret
  | post (ts : List Nat) (c : ACode)

inductive AEx where
  | normal
  | exit (id : Nat)
  | ret
def AEx.ex : AEx → Exit
  | .normal => .normal
  | .exit id => .exit id
  | .ret => .ret

abbrev Post := AEx → Fr → Hp → Prop

/-- Where the run stands. -/
structure At (κ : K) (F : Fr) (H : Hp) (n : Nat) (a : Act) : Prop where
  S : Sim κ H
  r : FR κ F a.tmps
  size : n ≤ a.tmps.size
  defers : a.defers = []

def QC (Q : Post) (κ0 : K) (n : Nat) : Exit → Act → World → Prop := fun e a w => ∃ κ F H x, κ.w = w ∧ κ0.Le κ ∧ At κ F H n a ∧ e = AEx.ex x ∧ Q x F H

/-- Weakest precondition, in meaning. -/
def AW (P : Program) (n : Nat) (c : Code) (Q : Post) (F : Fr) (H : Hp) : Prop :=
  ∀ κ a, At κ F H n a → c.wp P (QC Q κ n) a κ.w

theorem AW.mono {P : Program} {n : Nat} {c : Code} {Q Q' : Post} {F : Fr} {H : Hp} (h : AW P n c Q F H) (hq : ∀ x F H, Q x F H → Q' x F H) : AW P n c Q' F H :=
  fun κ a A => wp_mono (h κ a A) fun e a w ⟨κ', F', H', x, h1, h2, h3, h4, h5⟩ => ⟨κ', F', H', x, h1, h2, h3, h4, hq _ _ _ h5⟩
theorem AW.wk {P : Program} {n : Nat} {c : Code} {Q : Post} {F F' : Fr} {H H' : Hp} (k : Wk F H F' H') (h : AW P n c Q F' H') : AW P n c Q F H :=
  fun κ a A => by
    obtain ⟨κ1, w1, l1, S1, r1⟩ := k κ a.tmps A.S A.r
    have := h κ1 a ⟨S1, r1, A.size, A.defers⟩
    rw [w1] at this
    exact wp_mono this fun e a w ⟨κ', F', H', x, h1, h2, h3, h4, h5⟩ => ⟨κ', F', H', x, h1, l1.trans h2, h3, h4, h5⟩

def Post.then (K : Fr → Hp → Prop) (Q : Post) : Post
  | .normal, F, H => K F H
  | x, F, H => Q x F H

theorem AW.seq {P : Program} {n : Nat} {c d : Code} {Q : Post} {F : Fr} {H : Hp} (h : AW P n c (Post.then (AW P n d Q) Q) F H) : AW P n (.seq c d) Q F H :=
  fun κ a A => wp_seq (wp_mono (h κ a A) fun e a' w ⟨κ', F', H', x, h1, h2, h3, h4, h5⟩ => by
    subst h4; subst h1
    cases x with
    | normal =>
      refine wp_mono (h5 κ' a' h3) fun e a w ⟨κ2, F2, H2, x2, q1, q2, q3, q4, q5⟩ => ⟨κ2, F2, H2, x2, q1, h2.trans q2, q3, q4, q5⟩
    | exit id => exact ⟨κ', F', H', .exit id, rfl, h2, h3, rfl, h5⟩
    | ret => exact ⟨κ', F', H', .ret, rfl, h2, h3, rfl, h5⟩)

theorem AW.skip {P : Program} {n : Nat} {Q : Post} {F : Fr} {H : Hp} (h : Q .normal F H) : AW P n .skip Q F H :=
  fun κ a A => wp_skip ⟨κ, F, H, .normal, rfl, .refl κ, A, rfl, h⟩
theorem AW.exit {P : Program} {n id : Nat} {Q : Post} {F : Fr} {H : Hp} (h : Q (.exit id) F H) : AW P n (.exit id) Q F H :=
  fun κ a A => wp_exit ⟨κ, F, H, .exit id, rfl, .refl κ, A, rfl, h⟩
theorem AW.ret {P : Program} {n : Nat} {Q : Post} {F : Fr} {H : Hp} (h : Q .ret F H) : AW P n .ret Q F H :=
  fun κ a A => wp_ret ⟨κ, F, H, .ret, rfl, .refl κ, A, rfl, h⟩
theorem AW.cond {P : Program} {n : Nat} {o : Operand} {x : AO} {c d : Code} {Q : Post} {F : Fr} {H : Hp} {b : Bool} (ho : okAO o x = true) (hb : ev F x = .b b) (h1 : b = true → AW P n c Q F H) (h2 : b = false → AW P n d Q F H) :
    AW P n (.cond o c d) Q F H :=
  fun κ a A => by
    have := okAO_ok ho A.r
    rw [hb] at this
    exact wp_cond_split (VR.inv_b this) (fun e => h1 e κ a A) (fun e => h2 e κ a A)
def Post.block (id : Nat) (Q : Post) : Post
  | .exit k, F, H => if k = id then Q .normal F H else Q (.exit k) F H
  | x, F, H => Q x F H
theorem AW.block {P : Program} {n id : Nat} {c : Code} {Q : Post} {F : Fr} {H : Hp} (h : AW P n c (Post.block id Q) F H) : AW P n (.block id c) Q F H :=
  fun κ a A => wp_block (wp_mono (h κ a A) fun e a' w ⟨κ', F', H', x, h1, h2, h3, h4, h5⟩ => by
    subst h4
    cases x with
    | normal => exact ⟨κ', F', H', .normal, h1, h2, h3, rfl, h5⟩
    | exit k =>
      simp only [Post.block] at h5
      show (if k = id then _ else _ : Prop)
      split
      · rename_i hk
        rw [if_pos hk] at h5
        exact ⟨κ', F', H', .normal, h1, h2, h3, rfl, h5⟩
      · rename_i hk
        rw [if_neg hk] at h5
        exact ⟨κ', F', H', .exit k, h1, h2, h3, rfl, h5⟩
    | ret => exact ⟨κ', F', H', .ret, h1, h2, h3, rfl, h5⟩)

/-- A loop whose measure is told by its relation. -/
theorem wp_loop_told {P : Program} {c : Code} {Q : Exit → Act → World → Prop} (I : Nat → Act → World → Prop) : ∀ (m : Nat) (a : Act) (w : World), I m a w →
    (∀ m a w, I m a w → c.wp P (Exit.then (fun a' w' => ∃ m', m' < m ∧ I m' a' w') Q) a w) → (Code.loop c).wp P Q a w := by
  intro m a w h0 round b k cs
  have key : ∀ m a w, I m a w → ∃ e a' w', Q e a' w' ∧ Arrives P (lone (b.at a (.code c :: .inLoop c :: k)) cs w) b k cs e a' w' := by
    intro m
    induction m using Nat.strongRecOn with
    | _ m ih =>
      intro a w hI
      obtain ⟨e, a₁, w₁, hq, harr⟩ := round m a w hI b (.inLoop c :: k) cs
      cases e with
      | normal =>
        obtain ⟨m', hlt, hI₁⟩ := hq
        obtain ⟨e₂, a₂, w₂, hq₂, harr₂⟩ := ih m' hlt a₁ w₁ hI₁
        exact ⟨e₂, a₂, w₂, hq₂, .of_steps (Steps.trans harr (.one step_inLoop)) harr₂⟩
      | exit id => exact ⟨_, a₁, w₁, hq, .pass (x := .inLoop c) rfl (fun _ _ => .inl (by simp)) harr⟩
      | goto l => exact ⟨_, a₁, w₁, hq, .pass (x := .inLoop c) rfl (fun _ _ => .inl (by simp)) harr⟩
      | ret => exact ⟨_, a₁, w₁, hq, .pass (x := .inLoop c) rfl (fun _ _ => .inl (by simp)) harr⟩
      | panic ch => exact ⟨_, a₁, w₁, hq, .pass (x := .inLoop c) rfl (fun _ _ => .inl (by simp)) harr⟩
      | outgrown => exact ⟨_, a₁, w₁, hq, .pass (x := .inLoop c) rfl (fun _ _ => .inl (by simp)) harr⟩
  obtain ⟨e, a', w', hq, harr⟩ := key m a w h0
  exact ⟨e, a', w', hq, .of_steps (.one step_loop) harr⟩

theorem AW.loop {P : Program} {n : Nat} {c : Code} {Q : Post} {F : Fr} {H : Hp} (I : Nat → Fr → Hp → Prop) (m : Nat) (h0 : I m F H)
    (hr : ∀ m F H, I m F H → AW P n c (Post.then (fun F' H' => ∃ m' F'' H'', m' < m ∧ Wk F' H' F'' H'' ∧ I m' F'' H'') Q) F H) : AW P n (.loop c) Q F H :=
  fun κ a A => by
    refine wp_loop_told (fun m' a' w' => ∃ κ' F' H', κ'.w = w' ∧ κ.Le κ' ∧ At κ' F' H' n a' ∧ I m' F' H') m a κ.w ⟨κ, F, H, rfl, .refl κ, A, h0⟩ ?_
    rintro m1 a1 w1 ⟨κ1, F1, H1, rfl, l1, A1, i1⟩
    refine wp_mono (hr m1 F1 H1 i1 κ1 a1 A1) fun e a' w ⟨κ', F', H', x, h1, h2, h3, h4, h5⟩ => ?_
    subst h4; subst h1
    cases x with
    | normal =>
      obtain ⟨m', F2, H2, hlt, wk, i2⟩ := h5
      obtain ⟨κ3, w3, l3, S3, r3⟩ := wk κ' a'.tmps h3.S h3.r
      exact ⟨m', hlt, κ3, F2, H2, w3, l1.trans (h2.trans l3), ⟨S3, r3, h3.size, h3.defers⟩, i2⟩
    | exit id => exact ⟨κ', F', H', .exit id, rfl, l1.trans h2, h3, rfl, h5⟩
    | ret => exact ⟨κ', F', H', .ret, rfl, l1.trans h2, h3, rfl, h5⟩

theorem AW.post {P : Program} {n : Nat} {c : Code} {Q : Post} {F : Fr} {H : Hp} (ts : List Nat) (h : AW P n c (Post.then (fun F H => Q .normal (fkeep F ts) H) Q) F H) : AW P n c Q F H :=
  fun κ a A => wp_mono (h κ a A) fun e a' w ⟨κ', F', H', x, h1, h2, h3, h4, h5⟩ => by
    cases x with
    | normal => exact ⟨κ', fkeep F' ts, H', .normal, h1, h2, ⟨h3.S, h3.r.keep ts, h3.size, h3.defers⟩, h4, h5⟩
    | exit id => exact ⟨κ', F', H', .exit id, h1, h2, h3, h4, h5⟩
    | ret => exact ⟨κ', F', H', .ret, h1, h2, h3, h4, h5⟩

/-- A join: what holds where ways meet. -/
theorem AW.cut {P : Program} {n : Nat} {c d : Code} {Q : Post} {F : Fr} {H : Hp} (J : Fr → Hp → Prop) (h1 : AW P n c (Post.then (fun F H => ∃ F' H', Wk F H F' H' ∧ J F' H') Q) F H) (h2 : ∀ F H, J F H → AW P n d Q F H) :
    AW P n (.seq c d) Q F H :=
  .seq (h1.mono fun x F H h => by
    cases x with
    | normal => obtain ⟨F', H', wk, j⟩ := h; exact AW.wk wk (h2 F' H' j)
    | exit id => exact h
    | ret => exact h)

/-! ### regions -/
def put (F : Fr) (d : Option Nat) (v : V) : Fr :=
  match d with
  | some t => fset F t v
  | none => F
def dstOk (n : Nat) : Option Nat → Bool
  | some d => decide (d < n)
  | none => true

theorem At.put {κ κ' : K} {F : Fr} {H H' : Hp} {n : Nat} {a : Act} (A : At κ F H n a) (le : κ.Le κ') (S : Sim κ' H') {d : Option Nat} (hd : dstOk n d = true) {v : V} {c : Value} (r : VR κ' v c) : At κ' (Am.put F d v) H' n (a.put d c) := by
  cases d with
  | none => exact ⟨S, A.r.mono le, A.size, A.defers⟩
  | some d =>
    simp only [dstOk, decide_eq_true_eq] at hd
    refine ⟨S, (A.r.mono le).set (by have := A.size; omega) r, by simpa [Act.put] using A.size, A.defers⟩

theorem VR.und (κ : K) : VR κ (.tup []) undef := VR.tup (κ := κ) [] [] rfl (fun j v h => by simp at h)
theorem VR.inv_und {κ : K} {c : Value} (r : VR κ (.tup []) c) : c = undef := by
  cases r with
  | tup _ cs l _ =>
    have : cs = [] := by cases cs <;> simp at l ⊢
    subst this; rfl

def awpS (P : Program) : List AStep → (Fr → Hp → Prop) → Fr → Hp → Prop
  | [], K, F, H => K F H
  | s :: r, K, F, H =>
    let go : Prop := match s.d with
      | .op o => match astep o F H with
        | some (v, H') => awpS P r K (put F s.dst v) H'
        | none => False
      | .call f args => AC P f (evs F args) H fun v H' => awpS P r K (put F s.dst v) H'
      | .callv fv args => match ev F fv with
        | .fn f caps => AC P f (evs F args ++ caps) H fun v H' => awpS P r K (put F s.dst v) H'
        | _ => False
    match s.g with
    | none => go
    | some (t, b) => match fget F t with
      | .b x => (x = b → go) ∧ (x ≠ b → awpS P r K (put F s.dst (.tup [])) H)
      | .tup [] => awpS P r K (put F s.dst (.tup [])) H
      | _ => False

def guardOk (ops : Array Oper) (g : Option (Nat × Bool)) (g' : Option (Nat × Bool)) : Bool :=
  match g, g' with
  | none, none => true
  | some (j, b), some (t, b') => ((ops[j]?).bind (·.dst)) == some t && b == b'
  | _, _ => false
def okDo (P : Program) (o : Op) (d : ADo) : Bool :=
  match d with
  | .op a => okOp P o a
  | .call f args => match o with
    | .call ⟨.value (.func g), os, _⟩ => f == g && okAOs os.toList args
    | _ => false
  | .callv fv args => match o with
    | .call ⟨.value x, os, _⟩ => okAO x fv && okAOs os.toList args
    | _ => false
def okStep (P : Program) (n : Nat) (ops : Array Oper) (o : Oper) (s : AStep) : Bool :=
  o.dst == s.dst && dstOk n s.dst && guardOk ops o.guard s.g && okDo P o.op s.d
def okSteps (P : Program) (n : Nat) (ops : Array Oper) : List Oper → List AStep → Bool
  | [], [] => true
  | o :: os, s :: ss => okStep P n ops o s && okSteps P n ops os ss
  | _, _ => false

theorem wanted_of {ops : Array Oper} {o : Oper} {a : Act} {κ : K} {F : Fr} (r : FR κ F a.tmps) {g' : Option (Nat × Bool)} (h : guardOk ops o.guard g' = true) :
    (g' = none ∧ Region.wanted o (yielded ops a.tmps) = true) ∨ ∃ t b, g' = some (t, b) ∧ (∀ x, fget F t = .b x → Region.wanted o (yielded ops a.tmps) = decide (x = b)) ∧ (fget F t = .tup [] → Region.wanted o (yielded ops a.tmps) = false) := by
  unfold guardOk at h
  split at h
  · rename_i h1; exact .inl ⟨rfl, by simp [Region.wanted, h1]⟩
  · rename_i j b t b' h1
    simp only [Bool.and_eq_true, beq_iff_eq] at h
    obtain ⟨h2, rfl⟩ := h
    refine .inr ⟨t, b, rfl, fun x hx => ?_, fun hx => ?_⟩
    rotate_left
    · have := r t
      rw [hx] at this
      have hb := VR.inv_und this
      have hy : yielded ops a.tmps j = none := by
        unfold yielded
        rw [h2]
        simp only [Option.bind_some]
        cases hh : a.tmps[t]? with
        | none => rfl
        | some c =>
          have : c = undef := by simpa [Array.getD_eq_getD_getElem?, hh] using hb
          subst this; rfl
      simp [Region.wanted, h1, hy]
    have := r t
    rw [hx] at this
    have hb := VR.inv_b this
    have hy : yielded ops a.tmps j = some x := by
      unfold yielded
      rw [h2]
      simp only [Option.bind_some]
      have hlt : t < a.tmps.size := by
        rcases Nat.lt_or_ge t a.tmps.size with q | q
        · exact q
        · simp [Array.getD_eq_getD_getElem?, Array.getElem?_eq_none q, undef] at hb
      have : a.tmps[t]? = some (.bool x) := by
        rw [Array.getD_eq_getD_getElem?, Array.getElem?_eq_getElem hlt] at hb
        rw [Array.getElem?_eq_getElem hlt]
        simpa using hb
      rw [this]
    simp [Region.wanted, h1, hy]
    by_cases e : x = b <;> simp [e]
  · cases h

theorem calls_of_AC {P : Program} {f : FuncId} {vs : List V} {H : Hp} {R : V → Hp → Prop} (h : AC P f vs H R) {κ : K} (S : Sim κ H) {cs : Array Value} (r : VRs κ vs cs.toList) :
    Calls P f cs κ.w fun e w' => ∃ κ' v cv H', e = .returned cv ∧ κ'.w = w' ∧ κ.Le κ' ∧ Sim κ' H' ∧ VR κ' v cv ∧ R v H' := by
  have := h.2 κ cs.toList S r
  simpa using this

theorem wp_call {P : Program} {o : Oper} {a : Act} {J : Act → World → Prop} {Q : Exit → Act → World → Prop} {f : FuncId} {vs : List V} {H : Hp} {R : V → Hp → Prop} (h : AC P f vs H R) {κ : K} (S : Sim κ H) {cs : Array Value}
    (r : VRs κ vs cs.toList) (hrun : (execOp a.eval o).run P κ.w = .ok (.enter f cs) κ.w) (hK : ∀ κ' v cv H', κ.Le κ' → Sim κ' H' → VR κ' v cv → R v H' → J (a.put o.dst cv) κ'.w) : o.wp P a κ.w J Q := by
  unfold Oper.wp
  rw [hrun]
  rw [Oper.upon_enter]
  refine (calls_of_AC h S r).mono fun e w' ⟨κ', v, cv, H', he, hw, le, S', rv, hR⟩ => ?_
  subst he; subst hw
  exact hK κ' v cv H' le S' rv hR

theorem callFunc_enter {P : Program} {f : FuncId} {cs : Array Value} {w : World} (h : okFn P f = true) : (callFunc f cs).run P w = .ok (.enter f cs) w := by
  unfold okFn at h
  split at h
  · rename_i fn hf
    simp only [Bool.and_eq_true, bne_iff_ne, ne_eq] at h
    have hb : ¬ (fn.body = none) := fun hb => by simp [hb] at h
    simp [callFunc, hf, h.2, hb]
  · cases h

theorem VRs.append {κ : K} {a b : List V} {c d : List Value} (h : VRs κ a c) (k : VRs κ b d) : VRs κ (a ++ b) (c ++ d) := by
  refine .of_get (by simp [h.1, k.1]) fun j v hj => ?_
  have hl := h.1
  by_cases hja : j < a.length
  · rw [List.getElem?_append_left hja] at hj
    rw [List.getElem?_append_left (by omega)]
    exact h.get hj
  · rw [List.getElem?_append_right (by omega)] at hj
    rw [List.getElem?_append_right (by omega), ← hl]
    exact k.get hj

/-- One step, without its guard. -/
def goS (P : Program) (s : AStep) (K : V → Hp → Prop) (F : Fr) (H : Hp) : Prop :=
  match s.d with
  | .op o => match astep o F H with
    | some (v, H') => K v H'
    | none => False
  | .call f args => AC P f (evs F args) H K
  | .callv fv args => match ev F fv with
    | .fn f caps => AC P f (evs F args ++ caps) H K
    | _ => False

theorem go_ok {P : Program} {n : Nat} {o : Oper} {s : AStep} (hd : o.dst = s.dst) (hn : dstOk n s.dst = true) (ho : okDo P o.op s.d = true) {K0 : V → Hp → Prop} {F : Fr} {H : Hp} (hg : goS P s K0 F H) {κ : K} {a : Act} (A : At κ F H n a)
    {J : Act → World → Prop} {Q : Exit → Act → World → Prop} (hK : ∀ κ' v cv H', κ.Le κ' → At κ' (Am.put F s.dst v) H' n (a.put o.dst cv) → K0 v H' → J (a.put o.dst cv) κ'.w) : o.wp P a κ.w J Q := by
  obtain ⟨sd, sg, sdo⟩ := s
  simp only at hd hn ho hK
  cases sdo with
  | op p =>
    simp only [goS] at hg
    simp only [okDo] at ho
    split at hg
    · rename_i v H' hst
      obtain ⟨κ', nx, cv, le, S', rv, run, hnx⟩ := okOp_ok ho F H v H' hst κ a A.S A.r
      have A' := A.put le S' (d := sd) hn rv
      rw [← hd] at A'
      have := hK κ' v cv H' le (by rw [← hd]; exact A') hg
      unfold Oper.wp
      rw [run]
      rcases hnx with rfl | ⟨rfl, rfl⟩
      · exact this
      · exact this
    · exact hg.elim
  | call f args =>
    simp only [goS] at hg
    simp only [okDo] at ho
    split at ho
    · rename_i g os ts hop
      simp only [Bool.and_eq_true, beq_iff_eq] at ho
      obtain ⟨rfl, h2⟩ := ho
      have hv := okAOs_ok h2 A.r
      refine wp_call hg A.S (cs := os.map a.eval) (by rw [Array.toList_map]; exact hv) ?_ fun κ' v cv H' le S' rv hR => hK κ' v cv H' le ?_ hR
      · simp only [execOp, hop, resolve, Sem.run_bind, Act.eval, Deferred.ofValue, Sem.run_pure, Result.andThen_ok, invoke]
        simpa using callFunc_enter hg.1
      · have := A.put le S' (d := sd) hn rv
        rw [hd]; exact this
    · cases ho
  | callv fv args =>
    simp only [goS] at hg
    simp only [okDo] at ho
    split at hg
    · rename_i f caps hfv
      split at ho
      · rename_i x os ts hop
        simp only [Bool.and_eq_true] at ho
        obtain ⟨h1, h2⟩ := ho
        have hv := okAOs_ok h2 A.r
        have hx := okAO_ok h1 A.r
        rw [hfv] at hx
        generalize hcx : a.eval x = c at hx
        cases hx with
        | fn _ _ cs g1 g2 =>
          refine wp_call hg A.S (cs := os.map a.eval ++ cs.toArray) (by simpa using hv.append ⟨g1, g2⟩) ?_ fun κ' v cv H' le S' rv hR => hK κ' v cv H' le ?_ hR
          · simp only [execOp, hop, resolve, Sem.run_bind, hcx, Deferred.ofValue, Sem.run_pure, Result.andThen_ok, invoke]
            simpa using callFunc_enter hg.1
          · have := A.put le S' (d := sd) hn rv
            rw [hd]; exact this
      · cases ho
    · exact hg.elim

theorem awpS_cons {P : Program} {s : AStep} {r : List AStep} {K : Fr → Hp → Prop} {F : Fr} {H : Hp} :
    awpS P (s :: r) K F H = match s.g with
      | none => goS P s (fun v H' => awpS P r K (put F s.dst v) H') F H
      | some (t, b) => match fget F t with
        | .b x => (x = b → goS P s (fun v H' => awpS P r K (put F s.dst v) H') F H) ∧ (x ≠ b → awpS P r K (put F s.dst (.tup [])) H)
        | .tup [] => awpS P r K (put F s.dst (.tup [])) H
        | _ => False := by
  rfl

theorem awpS_ok {P : Program} {n : Nat} {ops : Array Oper} : ∀ {os : List Oper} {ss : List AStep}, okSteps P n ops os ss = true → ∀ {J : Fr → Hp → Prop} {F : Fr} {H : Hp}, awpS P ss J F H → ∀ {κ : K} {a : Act}, At κ F H n a →
    ∀ {Q : Exit → Act → World → Prop}, (∀ κ' F' H' a', κ.Le κ' → At κ' F' H' n a' → J F' H' → Q .normal a' κ'.w) → wpList P ops Q os a κ.w
  | [], [], _, J, F, H, h, κ, a, A, Q, hQ => hQ κ F H a (.refl κ) A h
  | o :: os, s :: ss, hok, J, F, H, h, κ, a, A, Q, hQ => by
    simp only [okSteps, okStep, Bool.and_eq_true, beq_iff_eq] at hok
    obtain ⟨⟨⟨⟨h1, h2⟩, h3⟩, h4⟩, h5⟩ := hok
    rw [awpS_cons] at h
    have rest : ∀ κ' F' H' a', κ.Le κ' → At κ' F' H' n a' → awpS P ss J F' H' → wpList P ops Q os a' κ'.w := fun κ' F' H' a' le A' hr =>
      awpS_ok h5 hr A' fun κ2 F2 H2 a2 le2 A2 k2 => hQ κ2 F2 H2 a2 (le.trans le2) A2 k2
    have go : goS P s (fun v H' => awpS P ss J (put F s.dst v) H') F H → Region.wanted o (yielded ops a.tmps) = true → wpList P ops Q (o :: os) a κ.w := fun hg hw => by
      unfold wpList
      rw [if_pos hw]
      exact .inl (go_ok h1 h2 h4 hg A fun κ' v cv H' le A' hr => rest κ' _ H' _ le A' hr)
    rcases wanted_of A.r h3 with ⟨e, hw⟩ | ⟨t, b, e, hw⟩
    · rw [e] at h
      exact go h hw
    · rw [e] at h
      split at h
      · rename_i e'; cases e'
      · rename_i t' b' e'
        injection e' with e'; injection e' with e1 e2; subst e1; subst e2
        split at h
        · rename_i x hx
          have hwx := hw.1 x hx
          by_cases hxb : x = b
          · exact go (h.1 hxb) (by rw [hwx]; simp [hxb])
          · unfold wpList
            rw [if_neg (by rw [hwx]; simp [hxb])]
            have A' := A.put (.refl κ) A.S (d := s.dst) h2 (.und κ)
            rw [← h1] at A'
            exact rest κ _ H _ (.refl κ) A' (by rw [h1]; exact h.2 hxb)
        · rename_i hx
          unfold wpList
          rw [if_neg (by rw [hw.2 hx]; simp)]
          have A' := A.put (.refl κ) A.S (d := s.dst) h2 (.und κ)
          rw [← h1] at A'
          exact rest κ _ H _ (.refl κ) A' (by rw [h1]; exact h)
        · exact h.elim
  | [], _ :: _, h, _, _, _, _, _, _, _, _, _ => by cases h
  | _ :: _, [], h, _, _, _, _, _, _, _, _, _ => by cases h

theorem AW.region {P : Program} {n id : Nat} {ops : Array Oper} {ss : List AStep} (hok : okSteps P n ops ops.toList ss = true) {Q : Post} {F : Fr} {H : Hp} (h : awpS P ss (Q .normal) F H) : AW P n (.region id ops false) Q F H :=
  fun κ a A => wp_region_list (awpS_ok hok h A fun κ' F' H' a' le A' k => ⟨κ', F', H', .normal, rfl, le, A', rfl, k⟩)

end Go.Proofs.Ytihipphpfbnknaa.Am
