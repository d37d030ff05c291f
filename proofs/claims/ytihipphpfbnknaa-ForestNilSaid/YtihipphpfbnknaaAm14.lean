/- AM, part 14: drawn regions. -/
import Derived.Test.YtihipphpfbnknaaAm13
namespace Go.Proofs.Ytihipphpfbnknaa.Am
open Go Go.RowKit
set_option linter.unusedSimpArgs false
set_option linter.unusedVariables false

/-! ### who must come before whom -/
/-- i is told ahead of j. -/
inductive Rch (ops : Array Oper) : Nat → Nat → Prop
  | edge (j : Nat) (o : Oper) (e : Edge) : ops[j]? = some o → e ∈ o.after → Region.binds .any e = true → Rch ops e.on j
  | step (i k j : Nat) : Rch ops i k → Rch ops k j → Rch ops i j

def mask1 (acc : List Nat) (es : List Edge) : Nat :=
  match es with
  | [] => 0
  | e :: r => if Region.binds .any e then (2 ^ e.on ||| (acc.getD e.on 0 ||| mask1 acc r)) else mask1 acc r
def befs (acc : List Nat) : List Oper → List Nat
  | [] => acc
  | o :: r => befs (acc ++ [mask1 acc o.after.toList]) r

theorem mask1_bit {ops : Array Oper} {acc : List Nat} {j : Nat} {o : Oper} (ho : ops[j]? = some o) (hacc : ∀ k m, acc[k]? = some m → ∀ i, m.testBit i = true → Rch ops i k) :
    ∀ (es : List Edge), (∀ e ∈ es, e ∈ o.after) → ∀ i, (mask1 acc es).testBit i = true → Rch ops i j
  | [], _, i, h => by simp [mask1] at h
  | e :: r, hes, i, h => by
    simp only [mask1] at h
    split at h
    · rename_i hb
      simp only [Nat.testBit_or, Bool.or_eq_true] at h
      have he : Rch ops e.on j := .edge j o e ho (hes e (by simp)) hb
      rcases h with h | h | h
      · rw [Nat.testBit_two_pow] at h
        simp at h; subst h; exact he
      · cases ha : acc[e.on]? with
        | none => simp [List.getD, ha] at h
        | some m => simp [List.getD, ha] at h; exact .step _ _ _ (hacc _ _ ha i h) he
      · exact mask1_bit ho hacc r (fun e he => hes e (by simp [he])) i h
    · exact mask1_bit ho hacc r (fun e he => hes e (by simp [he])) i h

theorem befs_bit {ops : Array Oper} : ∀ (os : List Oper) (acc : List Nat), (∀ j, os[j]? = ops[acc.length + j]?) → (∀ k m, acc[k]? = some m → ∀ i, m.testBit i = true → Rch ops i k) →
    ∀ (j m : Nat), (befs acc os)[j]? = some m → ∀ i, m.testBit i = true → Rch ops i j
  | [], acc, _, hacc, j, m, h => hacc j m h
  | o :: r, acc, hos, hacc, j, m, h => by
    have h0 : ops[acc.length]? = some o := by simpa using (hos 0).symm
    refine befs_bit r (acc ++ [mask1 acc o.after.toList]) (fun j => ?_) (fun k m hk => ?_) j m h
    · have := hos (j + 1)
      simpa [Nat.add_assoc, Nat.add_comm 1 j] using this
    · by_cases hka : k < acc.length
      · rw [List.getElem?_append_left hka] at hk; exact hacc k m hk
      · rw [List.getElem?_append_right (by omega)] at hk
        have : k = acc.length := by
          rcases Nat.lt_or_ge (k - acc.length) 1 with q | q
          · omega
          · simp [List.getElem?_eq_none (show ([mask1 acc o.after.toList] : List Nat).length ≤ k - acc.length by simpa using q)] at hk
        subst this
        simp at hk; subst hk
        exact mask1_bit h0 hacc _ (fun e he => by simpa using he)

/-! ### the checks -/
def before (bs : List Nat) (i j : Nat) : Bool := (bs.getD j 0).testBit i
/-- Edges lead back. -/
def backOk (ops : List Oper) : Bool := ops.zipIdx.all fun (o, j) => o.after.all fun e => !Region.binds .any e || decide (e.on < j)
def clash (x y : AStep) : Bool :=
  (match x.dst with | some d => (otS y).contains d || y.dst == some d | none => false) || (match y.dst with | some d => (otS x).contains d | none => false)
def tempsOk (bs : List Nat) (ss : List AStep) : Bool :=
  ss.zipIdx.all fun (y, j) => (ss.take j).zipIdx.all fun (x, i) => !clash x y || before bs i j
/-- What is kept of a step that touches the heap: its place, its class, the heaps ahead of it and behind it, and what makes it answer the same elsewhere. -/
structure LogE where
  i : Nat
  c : Cls
  H0 : Hp
  H1 : Hp
  re : Hp → Prop
def pairOk (bs : List Nat) (x y : LogE) : Prop :=
  before bs x.i y.i = true ∨ match x.c, y.c with
    | .eff, .eff => False
    | .rd, .eff => x.re y.H1
    | .eff, .rd => y.re x.H0
    | _, _ => True
def pairsOk (bs : List Nat) : List LogE → LogE → Prop
  | [], _ => True
  | x :: l, y => pairOk bs x y ∧ pairsOk bs l y
theorem pairsOk_mem {bs : List Nat} {y : LogE} : ∀ {l : List LogE}, pairsOk bs l y → ∀ x ∈ l, pairOk bs x y
  | [], _, _, h => by cases h
  | x :: l, h, z, hz => by
    rcases List.mem_cons.1 hz with rfl | hz
    · exact h.1
    · exact pairsOk_mem h.2 z hz

theorem tempsOk_spec {bs : List Nat} {ss : List AStep} (h : tempsOk bs ss = true) {i j : Nat} {x y : AStep} (hij : i < j) (hi : ss[i]? = some x) (hj : ss[j]? = some y) (hc : clash x y = true) : before bs i j = true := by
  have hm : (y, j) ∈ ss.zipIdx := by rw [List.mem_zipIdx_iff_getElem?]; simpa using hj
  have h1 := List.all_eq_true.1 h _ hm
  have hm2 : (x, i) ∈ (ss.take j).zipIdx := by
    rw [List.mem_zipIdx_iff_getElem?]
    simp [hij, hi]
  have := List.all_eq_true.1 h1 _ hm2
  simpa [hc] using this

/-! ### the text's run -/
structure StepR (P : Program) (n : Nat) (ops : Array Oper) (j : Nat) (s : AStep) (F F' : Fr) (H H' : Hp) (v : V) (c : Cls) (re : Hp → Prop) : Prop where
  ex : ∃ o, ops[j]? = some o ∧ o.dst = s.dst
  dok : dstOk n s.dst = true
  put : F' = Am.put F s.dst v
  same : c ≠ .eff → H' = H
  here : c = .rd → re H
  run : ∀ (κ : K) (a : Act) (F2 : Fr) (H2 : Hp), At κ F2 H2 n a → Agree (otS s) F2 F → (c = .eff → H2 = H) → (c = .rd → re H2) →
    ∀ (J : Act → World → Prop) (Q : Exit → Act → World → Prop), (∀ κ' cv, κ.Le κ' → Sim κ' (if c = .eff then H' else H2) → VR κ' v cv → J (a.put s.dst cv) κ'.w) → wpOp P ops Q j J a κ.w

def callC (P : Program) (f : FuncId) (args : List V) (K : Cls → V → Hp → (Hp → Prop) → Prop) (H : Hp) : Prop :=
  (∃ v, (∀ H2, AC P f args H2 fun u H' => u = v ∧ H' = H2) ∧ K .pure v H (fun _ => True)) ∨
  (∃ v, AC P f args H (fun u H' => u = v ∧ H' = H) ∧ K .rd v H (fun H2 => AC P f args H2 fun u H' => u = v ∧ H' = H2)) ∨
  ∃ v H1, AC P f args H (fun u H' => u = v ∧ H' = H1) ∧ K .eff v H1 (fun _ => True)
def goD (P : Program) (s : AStep) (K : Cls → V → Hp → (Hp → Prop) → Prop) (F : Fr) (H : Hp) : Prop :=
  match s.d with
  | .op o => match astep o F H with
    | some (v, H') => K (clsO o F) v H' (fun H2 => astep o F H2 = some (v, H2))
    | none => False
  | .call f args => callC P f (evs F args) K H
  | .callv fv args => match ev F fv with
    | .fn f caps => callC P f (evs F args ++ caps) K H
    | _ => False

/-- A step in the log. -/
def logD (bs : List Nat) (j : Nat) (c : Cls) (H H' : Hp) (re : Hp → Prop) (log : List LogE) (k : List LogE → Prop) : Prop :=
  match c with
  | .pure => k log
  | c => pairsOk bs log ⟨j, c, H, H', re⟩ ∧ k (log ++ [⟨j, c, H, H', re⟩])
def awpD (P : Program) (bs : List Nat) : Nat → List AStep → List LogE → (Fr → Hp → Prop) → Fr → Hp → Prop
  | _, [], _, K, F, H => K F H
  | j, s :: r, log, K, F, H =>
    match s.g with
    | none => goD P s (fun c v H' re => logD bs j c H H' re log fun log' => awpD P bs (j + 1) r log' K (put F s.dst v) H') F H
    | some (t, b) => match fget F t with
      | .b x => (x = b → goD P s (fun c v H' re => logD bs j c H H' re log fun log' => awpD P bs (j + 1) r log' K (put F s.dst v) H') F H) ∧ (x ≠ b → awpD P bs (j + 1) r log K (put F s.dst (.tup [])) H)
      | .tup [] => awpD P bs (j + 1) r log K (put F s.dst (.tup [])) H
      | _ => False

end Go.Proofs.Ytihipphpfbnknaa.Am
