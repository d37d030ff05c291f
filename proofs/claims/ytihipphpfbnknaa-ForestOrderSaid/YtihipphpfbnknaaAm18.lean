/- AM, part 18: words for walking. -/
import Derived.Test.YtihipphpfbnknaaAm17
namespace Go.Proofs.Ytihipphpfbnknaa.Am
open Go Go.RowKit
set_option linter.unusedSimpArgs false
set_option linter.unusedVariables false

attribute [simp] awp Post.then Post.block fkeep fget fset put ev evs astep rd swr one cellsV isCell binV binI binS isSh shI eqK unV bound maxs maxL mins minL setAll resV resL res1 fr0 evp fillV bytesOf slCells sAppend clsO AEx.ex

@[simp] theorem bits_i8 : IntKind.i8.bits = 8 := rfl
@[simp] theorem bits_u8 : IntKind.u8.bits = 8 := rfl
@[simp] theorem bits_i16 : IntKind.i16.bits = 16 := rfl
@[simp] theorem bits_u16 : IntKind.u16.bits = 16 := rfl
@[simp] theorem bits_i32 : IntKind.i32.bits = 32 := rfl
@[simp] theorem bits_u32 : IntKind.u32.bits = 32 := rfl
@[simp] theorem bits_i64 : IntKind.i64.bits = 64 := rfl
@[simp] theorem bits_u64 : IntKind.u64.bits = 64 := rfl

@[simp] theorem nlit_lt (a n : Nat) : ((a : Int) < no_index (OfNat.ofNat n : Int)) = (a < OfNat.ofNat n) := propext Int.ofNat_lt
@[simp] theorem nlit_le (a n : Nat) : ((a : Int) ≤ no_index (OfNat.ofNat n : Int)) = (a ≤ OfNat.ofNat n) := propext Int.ofNat_le
@[simp] theorem nlit_lt' (a n : Nat) : (no_index (OfNat.ofNat n : Int) < (a : Int)) = (OfNat.ofNat n < a) := propext Int.ofNat_lt
@[simp] theorem nlit_le' (a n : Nat) : (no_index (OfNat.ofNat n : Int) ≤ (a : Int)) = (OfNat.ofNat n ≤ a) := propext Int.ofNat_le
@[simp] theorem nlit_eq (a n : Nat) : ((a : Int) = no_index (OfNat.ofNat n : Int)) = (a = OfNat.ofNat n) := propext Int.ofNat_inj
@[simp] theorem nlit_eq' (a n : Nat) : (no_index (OfNat.ofNat n : Int) = (a : Int)) = (OfNat.ofNat n = a) := propext Int.ofNat_inj

@[simp] theorem ncast_lt (a b : Nat) : ((a : Int) < (b : Int)) = (a < b) := propext Int.ofNat_lt
@[simp] theorem ncast_le (a b : Nat) : ((a : Int) ≤ (b : Int)) = (a ≤ b) := propext Int.ofNat_le
@[simp] theorem ncast_eq (a b : Nat) : ((a : Int) = (b : Int)) = (a = b) := propext Int.ofNat_inj

@[simp] theorem V_beq (a b : Int) : V.b (a == b) = V.b (decide (a = b)) := by rw [Bool.beq_eq_decide_eq]
@[simp] theorem V_bne (a b : Int) : V.b (a != b) = V.b (!decide (a = b)) := by rw [bne, Bool.beq_eq_decide_eq]
@[simp] theorem V_beqL (a b : List UInt8) : V.b (a == b) = V.b (decide (a = b)) := by rw [Bool.beq_eq_decide_eq]
@[simp] theorem V_bneL (a b : List UInt8) : V.b (a != b) = V.b (!decide (a = b)) := by rw [bne, Bool.beq_eq_decide_eq]

def stp (x : Option (V × Hp)) (k : V → Hp → Prop) : Prop := match x with | some (v, H) => k v H | none => False
@[simp] theorem stp_some (v : V) (H : Hp) (k : V → Hp → Prop) : stp (some (v, H)) k = k v H := id rfl
@[simp] theorem stp_none (k : V → Hp → Prop) : stp none k = False := rfl
@[simp] theorem stp_ite (c : Prop) [Decidable c] (x y : Option (V × Hp)) (k : V → Hp → Prop) : stp (if c then x else y) k = if c then stp x k else stp y k := by split <;> rfl

section
variable {P : Program} {r : List AStep} {K : Fr → Hp → Prop} {F : Fr} {H : Hp} {d : Option Nat}
@[simp] theorem awpS_nil : awpS P [] K F H = K F H := id rfl
/-- What comes behind a step. -/
def kS (P : Program) (r : List AStep) (K : Fr → Hp → Prop) (F : Fr) (d : Option Nat) (v : V) (H : Hp) : Prop := awpS P r K (put F d v) H
@[simp] theorem kS_eq (v : V) (H : Hp) : kS P r K F d v H = awpS P r K (put F d v) H := id rfl
@[simp] theorem awpS_op {o : AOp} : awpS P (⟨d, none, .op o⟩ :: r) K F H = stp (astep o F H) (kS P r K F d) := id rfl
@[simp] theorem awpS_call {f : FuncId} {args : List AO} : awpS P (⟨d, none, .call f args⟩ :: r) K F H = AC P f (evs F args) H (kS P r K F d) := id rfl
def callv (P : Program) (v : V) (args : List V) (H : Hp) (k : V → Hp → Prop) : Prop := match v with | .fn f caps => AC P f (args ++ caps) H k | _ => False
@[simp] theorem callv_fn {f : FuncId} {caps args : List V} {k : V → Hp → Prop} : callv P (.fn f caps) args H k = AC P f (args ++ caps) H k := id rfl
@[simp] theorem awpS_callv {fv : AO} {args : List AO} : awpS P (⟨d, none, .callv fv args⟩ :: r) K F H = callv P (ev F fv) (evs F args) H (kS P r K F d) := id rfl
/-- A step under a guard. -/
def grdS (P : Program) (v : V) (t : Nat) (b : Bool) (d : Option Nat) (x : ADo) (r : List AStep) (K : Fr → Hp → Prop) (F : Fr) (H : Hp) : Prop :=
  match v with | .b y => (y = b → awpS P (⟨d, none, x⟩ :: r) K F H) ∧ (y ≠ b → awpS P r K (put F d (.tup [])) H) | .tup [] => awpS P r K (put F d (.tup [])) H | _ => False
@[simp] theorem grdS_tt {t : Nat} {x : ADo} : grdS P (.b true) t true d x r K F H = awpS P (⟨d, none, x⟩ :: r) K F H := by simp [grdS]
@[simp] theorem grdS_ff {t : Nat} {x : ADo} : grdS P (.b false) t false d x r K F H = awpS P (⟨d, none, x⟩ :: r) K F H := by simp [grdS]
@[simp] theorem grdS_tf {t : Nat} {x : ADo} : grdS P (.b true) t false d x r K F H = awpS P r K (put F d (.tup [])) H := by simp [grdS]
@[simp] theorem grdS_ft {t : Nat} {x : ADo} : grdS P (.b false) t true d x r K F H = awpS P r K (put F d (.tup [])) H := by simp [grdS]
@[simp] theorem grdS_u {t : Nat} {b : Bool} {x : ADo} : grdS P (.tup []) t b d x r K F H = awpS P r K (put F d (.tup [])) H := id rfl
@[simp] theorem awpS_guard {t : Nat} {b : Bool} {x : ADo} : awpS P (⟨d, some (t, b), x⟩ :: r) K F H = grdS P (fget F t) t b d x r K F H := by
  unfold grdS; rw [awpS_cons]; dsimp only; generalize fget F t = u; cases u <;> first | rfl | (rename_i vs; cases vs <;> rfl)

def stpD (c : Cls) (x : Option (V × Hp)) (k : Cls → V → Hp → (Hp → Prop) → Prop) (re : V → Hp → Prop) : Prop := match x with | some (v, H) => k c v H (re v) | none => False
@[simp] theorem stpD_some (c : Cls) (v : V) (H : Hp) (k : Cls → V → Hp → (Hp → Prop) → Prop) (re : V → Hp → Prop) : stpD c (some (v, H)) k re = k c v H (re v) := id rfl
@[simp] theorem stpD_none (c : Cls) (k : Cls → V → Hp → (Hp → Prop) → Prop) (re : V → Hp → Prop) : stpD c none k re = False := rfl
def reOp (o : AOp) (F : Fr) (v : V) (H : Hp) : Prop := astep o F H = some (v, H)
@[simp] theorem reOp_eq (o : AOp) (F : Fr) (v : V) (H : Hp) : reOp o F v H = (astep o F H = some (v, H)) := id rfl
def reCall (P : Program) (f : FuncId) (args : List V) (v : V) (H : Hp) : Prop := AC P f args H fun u H' => u = v ∧ H' = H
@[simp] theorem reCall_eq (P : Program) (f : FuncId) (args : List V) (v : V) (H : Hp) : reCall P f args v H = AC P f args H fun u H' => u = v ∧ H' = H := id rfl
theorem before_eq (bs : List Nat) (i j : Nat) : before bs i j = decide (bs.getD j 0 / 2 ^ i % 2 = 1) := by rw [before, Nat.testBit_eq_decide_div_mod_eq]
section
variable {bs : List Nat} {i j : Nat} {A B C D : Hp} {p q : Hp → Prop}
@[simp] theorem pairOk_ee : pairOk bs ⟨i, .eff, A, B, p⟩ ⟨j, .eff, C, D, q⟩ = (bs.getD j 0 / 2 ^ i % 2 = 1) := by simp [pairOk, before_eq]
@[simp] theorem pairOk_rr : pairOk bs ⟨i, .rd, A, B, p⟩ ⟨j, .rd, C, D, q⟩ = True := by simp [pairOk]
@[simp] theorem pairOk_re : pairOk bs ⟨i, .rd, A, B, p⟩ ⟨j, .eff, C, D, q⟩ = (bs.getD j 0 / 2 ^ i % 2 = 1 ∨ p D) := by simp [pairOk, before_eq]
@[simp] theorem pairOk_er : pairOk bs ⟨i, .eff, A, B, p⟩ ⟨j, .rd, C, D, q⟩ = (bs.getD j 0 / 2 ^ i % 2 = 1 ∨ q A) := by simp [pairOk, before_eq]
@[simp] theorem pairsOk_nil (y : LogE) : pairsOk bs [] y = True := rfl
@[simp] theorem pairsOk_cons (x : LogE) (l : List LogE) (y : LogE) : pairsOk bs (x :: l) y = (pairOk bs x y ∧ pairsOk bs l y) := id rfl
end
variable {bs : List Nat} {j : Nat} {log : List LogE}
/-- What comes behind a step of a statement whose order is open. -/
def kD (P : Program) (bs : List Nat) (j : Nat) (r : List AStep) (log : List LogE) (K : Fr → Hp → Prop) (F : Fr) (H : Hp) (d : Option Nat) (c : Cls) (v : V) (H' : Hp) (re : Hp → Prop) : Prop :=
  logD bs j c H H' re log fun log' => awpD P bs (j + 1) r log' K (put F d v) H'
@[simp] theorem kD_pure (v : V) (H' : Hp) (re : Hp → Prop) : kD P bs j r log K F H d .pure v H' re = awpD P bs (j + 1) r log K (put F d v) H' := id rfl
@[simp] theorem kD_rd (v : V) (H' : Hp) (re : Hp → Prop) : kD P bs j r log K F H d .rd v H' re = (pairsOk bs log ⟨j, .rd, H, H', re⟩ ∧ awpD P bs (j + 1) r (log ++ [⟨j, .rd, H, H', re⟩]) K (put F d v) H') := id rfl
@[simp] theorem kD_eff (v : V) (H' : Hp) (re : Hp → Prop) : kD P bs j r log K F H d .eff v H' re = (pairsOk bs log ⟨j, .eff, H, H', re⟩ ∧ awpD P bs (j + 1) r (log ++ [⟨j, .eff, H, H', re⟩]) K (put F d v) H') := id rfl
@[simp] theorem awpD_nil : awpD P bs j [] log K F H = K F H := id rfl
@[simp] theorem awpD_op {o : AOp} : awpD P bs j (⟨d, none, .op o⟩ :: r) log K F H = stpD (clsO o F) (astep o F H) (kD P bs j r log K F H d) (reOp o F) := id rfl
def callD (P : Program) (f : FuncId) (args : List V) (H : Hp) (k : Cls → V → Hp → (Hp → Prop) → Prop) : Prop := callC P f args k H
@[simp] theorem awpD_call {f : FuncId} {args : List AO} : awpD P bs j (⟨d, none, .call f args⟩ :: r) log K F H = callD P f (evs F args) H (kD P bs j r log K F H d) := id rfl
def callvD (P : Program) (v : V) (args : List V) (H : Hp) (k : Cls → V → Hp → (Hp → Prop) → Prop) : Prop := match v with | .fn f caps => callD P f (args ++ caps) H k | _ => False
@[simp] theorem callvD_fn {f : FuncId} {caps args : List V} {k : Cls → V → Hp → (Hp → Prop) → Prop} : callvD P (.fn f caps) args H k = callD P f (args ++ caps) H k := id rfl
@[simp] theorem awpD_callv {fv : AO} {args : List AO} : awpD P bs j (⟨d, none, .callv fv args⟩ :: r) log K F H = callvD P (ev F fv) (evs F args) H (kD P bs j r log K F H d) := id rfl
def grdD (P : Program) (v : V) (b : Bool) (d : Option Nat) (x : ADo) (bs : List Nat) (j : Nat) (r : List AStep) (log : List LogE) (K : Fr → Hp → Prop) (F : Fr) (H : Hp) : Prop :=
  match v with | .b y => (y = b → awpD P bs j (⟨d, none, x⟩ :: r) log K F H) ∧ (y ≠ b → awpD P bs (j + 1) r log K (put F d (.tup [])) H) | .tup [] => awpD P bs (j + 1) r log K (put F d (.tup [])) H | _ => False
@[simp] theorem grdD_tt {x : ADo} : grdD P (.b true) true d x bs j r log K F H = awpD P bs j (⟨d, none, x⟩ :: r) log K F H := by simp [grdD]
@[simp] theorem grdD_ff {x : ADo} : grdD P (.b false) false d x bs j r log K F H = awpD P bs j (⟨d, none, x⟩ :: r) log K F H := by simp [grdD]
@[simp] theorem grdD_tf {x : ADo} : grdD P (.b true) false d x bs j r log K F H = awpD P bs (j + 1) r log K (put F d (.tup [])) H := by simp [grdD]
@[simp] theorem grdD_ft {x : ADo} : grdD P (.b false) true d x bs j r log K F H = awpD P bs (j + 1) r log K (put F d (.tup [])) H := by simp [grdD]
@[simp] theorem grdD_u {b : Bool} {x : ADo} : grdD P (.tup []) b d x bs j r log K F H = awpD P bs (j + 1) r log K (put F d (.tup [])) H := id rfl
@[simp] theorem awpD_guard {t : Nat} {b : Bool} {x : ADo} : awpD P bs j (⟨d, some (t, b), x⟩ :: r) log K F H = grdD P (fget F t) b d x bs j r log K F H := by
  unfold grdD; rw [awpD]; dsimp only; generalize fget F t = u; cases u <;> first | rfl | (rename_i vs; cases vs <;> rfl)
theorem callD_pure {f : FuncId} {args : List V} {k : Cls → V → Hp → (Hp → Prop) → Prop} (v : V) (h : ∀ H2, AC P f args H2 fun u H' => u = v ∧ H' = H2) (hk : k .pure v H (fun _ => True)) : callD P f args H k := .inl ⟨v, h, hk⟩
theorem callD_eff {f : FuncId} {args : List V} {k : Cls → V → Hp → (Hp → Prop) → Prop} (v : V) (H1 : Hp) (h : AC P f args H fun u H' => u = v ∧ H' = H1) (hk : k .eff v H1 (fun _ => True)) : callD P f args H k := .inr (.inr ⟨v, H1, h, hk⟩)
/-- One that only looks. -/
theorem callD_rd {f : FuncId} {args : List V} {k : Cls → V → Hp → (Hp → Prop) → Prop} (v : V) (h : AC P f args H fun u H' => u = v ∧ H' = H) (hk : k .rd v H (reCall P f args v)) : callD P f args H k := .inr (.inl ⟨v, h, hk⟩)
end

section
variable {P : Program} {n : Nat} {Q : Post} {F : Fr} {H : Hp}
theorem AX.reg {ts : List Nat} {ss : List AStep} (h : awpS P ss (fun F H => Q .normal (fkeep F ts) H) F H) : AX P n (.post ts (.region ss)) Q F H := AX.post ts (AX.of (.region ss) h)
theorem AX.drw {ts bs : List Nat} {ss : List AStep} (h : awpD P bs 0 ss [] (fun F H => Q .normal (fkeep F ts) H) F H) : AX P n (.post ts (.draw bs ss)) Q F H := AX.post ts (AX.of (.draw bs ss) h)
theorem AX.ret (h : Q .ret F H) : AX P n .ret Q F H := AX.of .ret h
theorem AX.skip (h : Q .normal F H) : AX P n .skip Q F H := AX.of .skip h
theorem AX.exit {id : Nat} (h : Q (.exit id) F H) : AX P n (.exit id) Q F H := AX.of (.exit id) h
theorem AX.pcond {ts : List Nat} {x : AO} {a b : ACode} {t : Bool} (hb : ev F x = .b t) (h1 : t = true → AX P n a (Post.then (fun F H => Q .normal (fkeep F ts) H) Q) F H) (h2 : t = false → AX P n b (Post.then (fun F H => Q .normal (fkeep F ts) H) Q) F H) :
    AX P n (.post ts (.cond x a b)) Q F H := AX.post ts (AX.cond hb h1 h2)
theorem AX.pblock {ts : List Nat} {id : Nat} {a : ACode} (h : AX P n a (Post.block id (Post.then (fun F H => Q .normal (fkeep F ts) H) Q)) F H) : AX P n (.post ts (.block id a)) Q F H := AX.post ts (AX.block h)
end

/-! ### statements in which blocks are made whose order is open -/
section
variable {P : Program} {bs alx : List Nat} {N j : Nat} {r : List AStep} {log : List LogA} {als pend : List PendE} {K : Fr → Hp → Prop} {F : Fr} {C : Hp} {d : Option Nat}
@[simp] theorem bef_nil : bef bs j [] = [] := rfl
@[simp] theorem bef_cons (p : PendE) (l : List PendE) : bef bs j (p :: l) = if bs.getD j 0 / 2 ^ p.i % 2 = 1 then p :: bef bs j l else bef bs j l := by
  simp only [bef, List.filter_cons, before_eq, decide_eq_true_eq]
@[simp] theorem aft_nil : aft bs j [] = [] := rfl
@[simp] theorem aft_cons (p : PendE) (l : List PendE) : aft bs j (p :: l) = if bs.getD j 0 / 2 ^ p.i % 2 = 1 then aft bs j l else p :: aft bs j l := by
  simp only [aft, List.filter_cons, before_eq]
  by_cases h : bs.getD j 0 / 2 ^ p.i % 2 = 1
  · rw [if_pos h, decide_eq_true h]; rfl
  · rw [if_neg h, decide_eq_false h]; rfl
@[simp] theorem fillP_nil (C : Hp) : fillP C [] = C := rfl
@[simp] theorem fillP_cons (C : Hp) (p : PendE) (l : List PendE) : fillP C (p :: l) = fillP (C.upd p.id (.cells p.cs p.m)) l := rfl
@[simp] theorem Hp.res_zero (H : Hp) : H.res 0 = H := rfl
@[simp] theorem Hp.res_upd (H : Hp) (k id : Nat) (b : Blk) (h : id = H.next) : (H.res (k + 1)).upd id b = (H.add b).res k := by
  subst h; simp only [Hp.res, Hp.upd, Hp.add, Hp.mk.injEq, true_and]; omega
theorem Hp.res_upd1 (H : Hp) (id : Nat) (b : Blk) (h : id = H.next) : (H.res 1).upd id b = H.add b := by
  subst h; simp only [Hp.res, Hp.upd, Hp.add]
section
variable {i j : Nat} {C0 C1 D0 D1 : Hp} {p0 p1 q0 q1 : List PendE} {x y : Hp → Prop}
@[simp] theorem pairA_ee : pairA bs als ⟨i, .eff, C0, C1, p0, p1, x⟩ ⟨j, .eff, D0, D1, q0, q1, y⟩ = (bs.getD j 0 / 2 ^ i % 2 = 1) := by simp [pairA, before_eq]
@[simp] theorem pairA_rr : pairA bs als ⟨i, .rd, C0, C1, p0, p1, x⟩ ⟨j, .rd, D0, D1, q0, q1, y⟩ = True := by simp [pairA]
@[simp] theorem pairA_re : pairA bs als ⟨i, .rd, C0, C1, p0, p1, x⟩ ⟨j, .eff, D0, D1, q0, q1, y⟩ = (bs.getD j 0 / 2 ^ i % 2 = 1 ∨ x (fillP D1 (bef bs i q1))) := by simp [pairA, before_eq]
@[simp] theorem pairA_er : pairA bs als ⟨i, .eff, C0, C1, p0, p1, x⟩ ⟨j, .rd, D0, D1, q0, q1, y⟩ = (bs.getD j 0 / 2 ^ i % 2 = 1 ∨ y (fillP C0 (bef bs j (p0 ++ als.filter fun p => decide (i < p.i))))) := by simp [pairA, before_eq]
@[simp] theorem pairsA_nil (y : LogA) : pairsA bs als [] y = True := rfl
@[simp] theorem pairsA_cons (x : LogA) (l : List LogA) (y : LogA) : pairsA bs als (x :: l) y = (pairA bs als x y ∧ pairsA bs als l y) := id rfl
end
/-- What comes behind a step that is no block's. -/
def kA (P : Program) (bs alx : List Nat) (N j : Nat) (r : List AStep) (log : List LogA) (als pend : List PendE) (K : Fr → Hp → Prop) (F : Fr) (C : Hp) (d : Option Nat) (c : Cls) (v : V) (H' : Hp) (re : Hp → Prop) : Prop :=
  nextA bs j c C H' als pend re log fun log' pend' C' => awpA P bs alx N (j + 1) r log' als pend' K (put F d v) C'
@[simp] theorem kA_pure (v : V) (H' : Hp) (re : Hp → Prop) : kA P bs alx N j r log als pend K F C d .pure v H' re = awpA P bs alx N (j + 1) r log als pend K (put F d v) C := id rfl
@[simp] theorem kA_rd (v : V) (H' : Hp) (re : Hp → Prop) : kA P bs alx N j r log als pend K F C d .rd v H' re =
  (pairsA bs als log ⟨j, .rd, C, C, pend, pend, re⟩ ∧ awpA P bs alx N (j + 1) r (log ++ [⟨j, .rd, C, C, pend, pend, re⟩]) als pend K (put F d v) C) := id rfl
@[simp] theorem kA_eff (v : V) (H' : Hp) (re : Hp → Prop) : kA P bs alx N j r log als pend K F C d .eff v H' re =
  (pairsA bs als log ⟨j, .eff, C, H', pend, aft bs j pend, re⟩ ∧ awpA P bs alx N (j + 1) r (log ++ [⟨j, .eff, C, H', pend, aft bs j pend, re⟩]) als (aft bs j pend) K (put F d v) H') := id rfl
/-- What comes behind a step that makes a block. -/
def kM (P : Program) (bs alx : List Nat) (N j : Nat) (r : List AStep) (log : List LogA) (als pend : List PendE) (K : Fr → Hp → Prop) (F : Fr) (C : Hp) (d : Option Nat) (q : AlR) : Prop :=
  awpA P bs alx N (j + 1) r log (als ++ [⟨j, N + als.length, q.cs, q.m⟩]) (pend ++ [⟨j, N + als.length, q.cs, q.m⟩]) K (put F d (q.val (N + als.length))) C
@[simp] theorem kM_eq (q : AlR) : kM P bs alx N j r log als pend K F C d q = awpA P bs alx N (j + 1) r log (als ++ [⟨j, N + als.length, q.cs, q.m⟩]) (pend ++ [⟨j, N + als.length, q.cs, q.m⟩]) K (put F d (q.val (N + als.length))) C := id rfl
def mkA (x : Option AlR) (k : AlR → Prop) : Prop := match x with | some q => k q | none => False
@[simp] theorem mkA_some (q : AlR) (k : AlR → Prop) : mkA (some q) k = k q := id rfl
@[simp] theorem mkA_ite (c : Prop) [Decidable c] (q : AlR) (k : AlR → Prop) : mkA (if c then some q else none) k = (c ∧ k q) := by split <;> simp [mkA, *]
@[simp] theorem awpA_nil : awpA P bs alx N j [] log als pend K F C = (als.length ≤ alx.length ∧ K F (fillP C pend)) := id rfl
@[simp] theorem awpA_op {o : AOp} : awpA P bs alx N j (⟨d, none, .op o⟩ :: r) log als pend K F C = if alx.contains j then mkA (alO o F) (kM P bs alx N j r log als pend K F C d) else
    stpD (clsO o F) (astep o F (fillP C (bef bs j pend))) (kA P bs alx N j r log als pend K F C d) (reOp o F) := id rfl
@[simp] theorem awpA_call {f : FuncId} {args : List AO} : awpA P bs alx N j (⟨d, none, .call f args⟩ :: r) log als pend K F C = if alx.contains j then False else
    callD P f (evs F args) (fillP C (bef bs j pend)) (kA P bs alx N j r log als pend K F C d) := id rfl
@[simp] theorem awpA_callv {fv : AO} {args : List AO} : awpA P bs alx N j (⟨d, none, .callv fv args⟩ :: r) log als pend K F C = if alx.contains j then False else
    callvD P (ev F fv) (evs F args) (fillP C (bef bs j pend)) (kA P bs alx N j r log als pend K F C d) := id rfl
def grdA (P : Program) (v : V) (b : Bool) (d : Option Nat) (x : ADo) (bs alx : List Nat) (N j : Nat) (r : List AStep) (log : List LogA) (als pend : List PendE) (K : Fr → Hp → Prop) (F : Fr) (C : Hp) : Prop :=
  match v with | .b y => (y = b → awpA P bs alx N j (⟨d, none, x⟩ :: r) log als pend K F C) ∧ (y ≠ b → awpA P bs alx N (j + 1) r log als pend K (put F d (.tup [])) C) | .tup [] => awpA P bs alx N (j + 1) r log als pend K (put F d (.tup [])) C | _ => False
@[simp] theorem grdA_tt {x : ADo} : grdA P (.b true) true d x bs alx N j r log als pend K F C = awpA P bs alx N j (⟨d, none, x⟩ :: r) log als pend K F C := by simp [grdA]
@[simp] theorem grdA_ff {x : ADo} : grdA P (.b false) false d x bs alx N j r log als pend K F C = awpA P bs alx N j (⟨d, none, x⟩ :: r) log als pend K F C := by simp [grdA]
@[simp] theorem grdA_tf {x : ADo} : grdA P (.b true) false d x bs alx N j r log als pend K F C = awpA P bs alx N (j + 1) r log als pend K (put F d (.tup [])) C := by simp [grdA]
@[simp] theorem grdA_ft {x : ADo} : grdA P (.b false) true d x bs alx N j r log als pend K F C = awpA P bs alx N (j + 1) r log als pend K (put F d (.tup [])) C := by simp [grdA]
@[simp] theorem grdA_u {b : Bool} {x : ADo} : grdA P (.tup []) b d x bs alx N j r log als pend K F C = awpA P bs alx N (j + 1) r log als pend K (put F d (.tup [])) C := id rfl
@[simp] theorem awpA_guard {t : Nat} {b : Bool} {x : ADo} : awpA P bs alx N j (⟨d, some (t, b), x⟩ :: r) log als pend K F C = grdA P (fget F t) b d x bs alx N j r log als pend K F C := by
  unfold grdA; rw [awpA]; dsimp only; generalize fget F t = u; cases u <;> first | rfl | (rename_i vs; cases vs <;> rfl)
theorem AX.drwA {n : Nat} {Q : Post} {H : Hp} {ts bs alx : List Nat} {ss : List AStep} (h : awpA P bs alx H.next 0 ss [] [] [] (fun F H => Q .normal (fkeep F ts) H) F (H.res alx.length)) : AX P n (.post ts (.drawA bs alx ss)) Q F H := AX.post ts (AX.of (.drawA bs alx ss) fun _ => h)
attribute [simp] alO AlR.val
end

/-- All ways out are one. -/
theorem AX.join {P : Program} {n : Nat} {d : ACode} {Q : Post} {F F1 : Fr} {H H1 : Hp} (h : AX P n d (fun x F H => x = .normal ∧ F = F1 ∧ H = H1) F H) (k : Q .normal F1 H1) : AX P n d Q F H :=
  h.mono (by rintro _ _ _ ⟨rfl, rfl, rfl⟩; exact k)

@[simp] theorem Hp.upd_upd (H : Hp) (id : Nat) (a b : Blk) : (H.upd id a).upd id b = H.upd id b := by
  simp only [Hp.upd, Hp.mk.injEq, and_true]
  funext k
  split <;> rfl
theorem Hp.upd_self {H : Hp} {id : Nat} {b : Blk} (h : H.get id = some b) : H.upd id b = H := by
  cases H with
  | mk g nx =>
    simp only [Hp.upd, Hp.mk.injEq, and_true]
    funext k
    split
    · rename_i e; subst e; exact h.symm
    · rfl

/-- The end of a function. -/
def Ends (R : V → Hp → Prop) (rs : List ARes) : Post := fun x F H' => (∀ k, x ≠ .exit k) ∧ ∃ v, resV F H' rs = some v ∧ R v H'
@[simp] theorem Ends_ret {R : V → Hp → Prop} {rs : List ARes} {F : Fr} {H : Hp} : Ends R rs .ret F H = ∃ v, resV F H rs = some v ∧ R v H := by simp [Ends]
@[simp] theorem Ends_normal {R : V → Hp → Prop} {rs : List ARes} {F : Fr} {H : Hp} : Ends R rs .normal F H = ∃ v, resV F H rs = some v ∧ R v H := by simp [Ends]
theorem AC.code {P : Program} {f : FuncId} {fn : Func} {a : AFunc} (hf : P.funcs[f]? = some fn) (hok : okFunc P fn a = true) {args : List V} {H : Hp} {R : V → Hp → Prop} (h : AX P a.n a.body (Ends R a.res) (fr0 0 args) H) : AC P f args H R := AC.of hf hok h

/-- A contract that tells all. -/
theorem AC.fix {P : Program} {f : FuncId} {args : List V} {H H1 : Hp} {v : V} {K : V → Hp → Prop} (h : AC P f args H (fun r H' => r = v ∧ H' = H1)) (k : K v H1) : AC P f args H K :=
  h.mono (by rintro _ _ ⟨rfl, rfl⟩; exact k)

end Go.Proofs.Ytihipphpfbnknaa.Am
