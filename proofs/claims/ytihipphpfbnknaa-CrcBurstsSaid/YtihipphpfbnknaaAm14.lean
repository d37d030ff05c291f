/- AM, part 14: drawn regions. -/
import Derived.Test.YtihipphpfbnknaaAm13
namespace Go.Proofs.Ytihipphpfbnknaa.Am
open Go Go.RowKit
set_option linter.unusedSimpArgs false
set_option linter.unusedVariables false

/-! ### who must come before whom -/
/-- i is told ahead of j. -/
inductive Rch (ops : Array Oper) : Nat → Nat → Prop
  | edge (j : Nat) (o : Oper) (e : Edge) : ops[j]? = some o → e ∈ o.after → Region.binds .any e = true → Rch ops e.on j
  | step (i k j : Nat) : Rch ops i k → Rch ops k j → Rch ops i j

def mask1 (acc : List Nat) (es : List Edge) : Nat :=
  match es with
  | [] => 0
  | e :: r => if Region.binds .any e then (2 ^ e.on ||| (acc.getD e.on 0 ||| mask1 acc r)) else mask1 acc r
def befs (acc : List Nat) : List Oper → List Nat
  | [] => acc
  | o :: r => befs (acc ++ [mask1 acc o.after.toList]) r

theorem mask1_bit {ops : Array Oper} {acc : List Nat} {j : Nat} {o : Oper} (ho : ops[j]? = some o) (hacc : ∀ k m, acc[k]? = some m → ∀ i, m.testBit i = true → Rch ops i k) :
    ∀ (es : List Edge), (∀ e ∈ es, e ∈ o.after) → ∀ i, (mask1 acc es).testBit i = true → Rch ops i j
  | [], _, i, h => by simp [mask1] at h
  | e :: r, hes, i, h => by
    simp only [mask1] at h
    split at h
    · rename_i hb
      simp only [Nat.testBit_or, Bool.or_eq_true] at h
      have he : Rch ops e.on j := .edge j o e ho (hes e (by simp)) hb
      rcases h with h | h | h
      · rw [Nat.testBit_two_pow] at h
        simp at h; subst h; exact he
      · cases ha : acc[e.on]? with
        | none => simp [List.getD, ha] at h
        | some m => simp [List.getD, ha] at h; exact .step _ _ _ (hacc _ _ ha i h) he
      · exact mask1_bit ho hacc r (fun e he => hes e (by simp [he])) i h
    · exact mask1_bit ho hacc r (fun e he => hes e (by simp [he])) i h

theorem befs_bit {ops : Array Oper} : ∀ (os : List Oper) (acc : List Nat), (∀ j, os[j]? = ops[acc.length + j]?) → (∀ k m, acc[k]? = some m → ∀ i, m.testBit i = true → Rch ops i k) →
    ∀ (j m : Nat), (befs acc os)[j]? = some m → ∀ i, m.testBit i = true → Rch ops i j
  | [], acc, _, hacc, j, m, h => hacc j m h
  | o :: r, acc, hos, hacc, j, m, h => by
    have h0 : ops[acc.length]? = some o := by simpa using (hos 0).symm
    refine befs_bit r (acc ++ [mask1 acc o.after.toList]) (fun j => ?_) (fun k m hk => ?_) j m h
    · have := hos (j + 1)
      simpa [Nat.add_assoc, Nat.add_comm 1 j] using this
    · by_cases hka : k < acc.length
      · rw [List.getElem?_append_left hka] at hk; exact hacc k m hk
      · rw [List.getElem?_append_right (by omega)] at hk
        have : k = acc.length := by
          rcases Nat.lt_or_ge (k - acc.length) 1 with q | q
          · omega
          · simp [List.getElem?_eq_none (show ([mask1 acc o.after.toList] : List Nat).length ≤ k - acc.length by simpa using q)] at hk
        subst this
        simp at hk; subst hk
        exact mask1_bit h0 hacc _ (fun e he => by simpa using he)

/-! ### the checks -/
def before (bs : List Nat) (i j : Nat) : Bool := (bs.getD j 0).testBit i
/-- Edges lead back. -/
def backOk (ops : List Oper) : Bool := ops.zipIdx.all fun (o, j) => o.after.all fun e => !Region.binds .any e || decide (e.on < j)
def clash (x y : AStep) : Bool :=
  (match x.dst with | some d => (otS y).contains d || y.dst == some d | none => false) || (match y.dst with | some d => (otS x).contains d | none => false)
def tempsOk (bs : List Nat) (ss : List AStep) : Bool :=
  ss.zipIdx.all fun (y, j) => (ss.take j).zipIdx.all fun (x, i) => !clash x y || before bs i j
def heapClash : Cls → Cls → Bool
  | .eff, .eff | .eff, .rd | .rd, .eff => true
  | _, _ => false
def chainAll (bs : List Nat) : Nat → List Cls → List Cls → Bool
  | _, _, [] => true
  | j, pre, c :: r => (pre.zipIdx.all fun (x, i) => !heapClash x c || before bs i j) && chainAll bs (j + 1) (pre ++ [c]) r

theorem chainAll_spec {bs : List Nat} : ∀ (r pre : List Cls), chainAll bs pre.length pre r = true → (∀ (i j : Nat) x c, i < j → j < pre.length → pre[i]? = some x → pre[j]? = some c → heapClash x c = true → before bs i j = true) →
    ∀ (i j : Nat) x c, i < j → (pre ++ r)[i]? = some x → (pre ++ r)[j]? = some c → heapClash x c = true → before bs i j = true
  | [], pre, _, hp, i, j, x, c, hij, hi, hj, hc => by
    simp only [List.append_nil] at hi hj
    exact hp i j x c hij (List.getElem?_eq_some_iff.1 hj).1 hi hj hc
  | y :: r, pre, h, hp, i, j, x, c, hij, hi, hj, hc => by
    simp only [chainAll, Bool.and_eq_true] at h
    have := chainAll_spec r (pre ++ [y]) (by simpa using h.2) (fun i j x c hij hj hi' hj' hc => ?_) i j x c hij (by simpa using hi) (by simpa using hj) hc
    · exact this
    · by_cases hjl : j < pre.length
      · rw [List.getElem?_append_left (by omega)] at hi'
        rw [List.getElem?_append_left hjl] at hj'
        exact hp i j x c hij hjl hi' hj' hc
      · have hje : j = pre.length := by simp at hj; omega
        subst hje
        rw [List.getElem?_append_left hij] at hi'
        rw [List.getElem?_append_right (by omega)] at hj'
        simp at hj'; subst hj'
        have hm : (x, i) ∈ pre.zipIdx := by
          rw [List.mem_zipIdx_iff_getElem?]; simpa using hi'
        have := List.all_eq_true.1 h.1 _ hm
        simpa [hc] using this

theorem tempsOk_spec {bs : List Nat} {ss : List AStep} (h : tempsOk bs ss = true) {i j : Nat} {x y : AStep} (hij : i < j) (hi : ss[i]? = some x) (hj : ss[j]? = some y) (hc : clash x y = true) : before bs i j = true := by
  have hm : (y, j) ∈ ss.zipIdx := by rw [List.mem_zipIdx_iff_getElem?]; simpa using hj
  have h1 := List.all_eq_true.1 h _ hm
  have hm2 : (x, i) ∈ (ss.take j).zipIdx := by
    rw [List.mem_zipIdx_iff_getElem?]
    simp [hij, hi]
  have := List.all_eq_true.1 h1 _ hm2
  simpa [hc] using this

/-! ### the text's run -/
structure StepR (P : Program) (n : Nat) (ops : Array Oper) (j : Nat) (s : AStep) (F F' : Fr) (H H' : Hp) (v : V) (c : Cls) : Prop where
  ex : ∃ o, ops[j]? = some o ∧ o.dst = s.dst
  dok : dstOk n s.dst = true
  put : F' = Am.put F s.dst v
  same : c ≠ .eff → H' = H
  run : ∀ (κ : K) (a : Act) (F2 : Fr) (H2 : Hp), At κ F2 H2 n a → Agree (otS s) F2 F → (c ≠ .pure → H2 = H) →
    ∀ (J : Act → World → Prop) (Q : Exit → Act → World → Prop), (∀ κ' cv, κ.Le κ' → Sim κ' (if c = .eff then H' else H2) → VR κ' v cv → J (a.put s.dst cv) κ'.w) → wpOp P ops Q j J a κ.w

def goD (P : Program) (s : AStep) (K : Cls → V → Hp → Prop) (F : Fr) (H : Hp) : Prop :=
  match s.d with
  | .op o => match astep o F H with
    | some (v, H') => K (clsO o F) v H'
    | none => False
  | .call f args => (∃ v, (∀ H2, AC P f (evs F args) H2 fun u H' => u = v ∧ H' = H2) ∧ K .pure v H) ∨ ∃ v H1, AC P f (evs F args) H (fun u H' => u = v ∧ H' = H1) ∧ K .eff v H1
  | .callv fv args => match ev F fv with
    | .fn f caps => (∃ v, (∀ H2, AC P f (evs F args ++ caps) H2 fun u H' => u = v ∧ H' = H2) ∧ K .pure v H) ∨ ∃ v H1, AC P f (evs F args ++ caps) H (fun u H' => u = v ∧ H' = H1) ∧ K .eff v H1
    | _ => False

def awpD (P : Program) : List AStep → List Cls → (List Cls → Fr → Hp → Prop) → Fr → Hp → Prop
  | [], cs, K, F, H => K cs F H
  | s :: r, cs, K, F, H =>
    match s.g with
    | none => goD P s (fun c v H' => awpD P r (cs ++ [c]) K (put F s.dst v) H') F H
    | some (t, b) => match fget F t with
      | .b x => (x = b → goD P s (fun c v H' => awpD P r (cs ++ [c]) K (put F s.dst v) H') F H) ∧ (x ≠ b → awpD P r (cs ++ [.pure]) K (put F s.dst (.tup [])) H)
      | .tup [] => awpD P r (cs ++ [.pure]) K (put F s.dst (.tup [])) H
      | _ => False

end Go.Proofs.Ytihipphpfbnknaa.Am
