/- AM, part 18: words for walking. -/
import Derived.Test.YtihipphpfbnknaaAm17
namespace Go.Proofs.Ytihipphpfbnknaa.Am
open Go Go.RowKit
set_option linter.unusedSimpArgs false
set_option linter.unusedVariables false

attribute [simp] awp Post.then Post.block fkeep fget fset put ev evs astep rd swr one cellsV isCell binV binI binS isSh shI eqK unV bound maxs maxL mins minL setAll resV resL res1 fr0 evp fillV bytesOf slCells sAppend clsO AEx.ex

@[simp] theorem bits_i8 : IntKind.i8.bits = 8 := rfl
@[simp] theorem bits_u8 : IntKind.u8.bits = 8 := rfl
@[simp] theorem bits_i16 : IntKind.i16.bits = 16 := rfl
@[simp] theorem bits_u16 : IntKind.u16.bits = 16 := rfl
@[simp] theorem bits_i32 : IntKind.i32.bits = 32 := rfl
@[simp] theorem bits_u32 : IntKind.u32.bits = 32 := rfl
@[simp] theorem bits_i64 : IntKind.i64.bits = 64 := rfl
@[simp] theorem bits_u64 : IntKind.u64.bits = 64 := rfl

@[simp] theorem nlit_lt (a n : Nat) : ((a : Int) < no_index (OfNat.ofNat n : Int)) = (a < OfNat.ofNat n) := propext Int.ofNat_lt
@[simp] theorem nlit_le (a n : Nat) : ((a : Int) ≤ no_index (OfNat.ofNat n : Int)) = (a ≤ OfNat.ofNat n) := propext Int.ofNat_le
@[simp] theorem nlit_lt' (a n : Nat) : (no_index (OfNat.ofNat n : Int) < (a : Int)) = (OfNat.ofNat n < a) := propext Int.ofNat_lt
@[simp] theorem nlit_le' (a n : Nat) : (no_index (OfNat.ofNat n : Int) ≤ (a : Int)) = (OfNat.ofNat n ≤ a) := propext Int.ofNat_le
@[simp] theorem nlit_eq (a n : Nat) : ((a : Int) = no_index (OfNat.ofNat n : Int)) = (a = OfNat.ofNat n) := propext Int.ofNat_inj
@[simp] theorem nlit_eq' (a n : Nat) : (no_index (OfNat.ofNat n : Int) = (a : Int)) = (OfNat.ofNat n = a) := propext Int.ofNat_inj

def stp (x : Option (V × Hp)) (k : V → Hp → Prop) : Prop := match x with | some (v, H) => k v H | none => False
@[simp] theorem stp_some (v : V) (H : Hp) (k : V → Hp → Prop) : stp (some (v, H)) k = k v H := rfl
@[simp] theorem stp_none (k : V → Hp → Prop) : stp none k = False := rfl
@[simp] theorem stp_ite (c : Prop) [Decidable c] (x y : Option (V × Hp)) (k : V → Hp → Prop) : stp (if c then x else y) k = if c then stp x k else stp y k := by split <;> rfl

section
variable {P : Program} {r : List AStep} {K : Fr → Hp → Prop} {F : Fr} {H : Hp} {d : Option Nat}
@[simp] theorem awpS_nil : awpS P [] K F H = K F H := rfl
/-- What comes behind a step. -/
def kS (P : Program) (r : List AStep) (K : Fr → Hp → Prop) (F : Fr) (d : Option Nat) (v : V) (H : Hp) : Prop := awpS P r K (put F d v) H
@[simp] theorem kS_eq (v : V) (H : Hp) : kS P r K F d v H = awpS P r K (put F d v) H := rfl
@[simp] theorem awpS_op {o : AOp} : awpS P (⟨d, none, .op o⟩ :: r) K F H = stp (astep o F H) (kS P r K F d) := rfl
@[simp] theorem awpS_call {f : FuncId} {args : List AO} : awpS P (⟨d, none, .call f args⟩ :: r) K F H = AC P f (evs F args) H (kS P r K F d) := rfl
def callv (P : Program) (v : V) (args : List V) (H : Hp) (k : V → Hp → Prop) : Prop := match v with | .fn f caps => AC P f (args ++ caps) H k | _ => False
@[simp] theorem callv_fn {f : FuncId} {caps args : List V} {k : V → Hp → Prop} : callv P (.fn f caps) args H k = AC P f (args ++ caps) H k := rfl
@[simp] theorem awpS_callv {fv : AO} {args : List AO} : awpS P (⟨d, none, .callv fv args⟩ :: r) K F H = callv P (ev F fv) (evs F args) H (kS P r K F d) := rfl
/-- A step under a guard. -/
def grdS (P : Program) (v : V) (t : Nat) (b : Bool) (d : Option Nat) (x : ADo) (r : List AStep) (K : Fr → Hp → Prop) (F : Fr) (H : Hp) : Prop :=
  match v with | .b y => (y = b → awpS P (⟨d, none, x⟩ :: r) K F H) ∧ (y ≠ b → awpS P r K (put F d (.tup [])) H) | .tup [] => awpS P r K (put F d (.tup [])) H | _ => False
@[simp] theorem grdS_tt {t : Nat} {x : ADo} : grdS P (.b true) t true d x r K F H = awpS P (⟨d, none, x⟩ :: r) K F H := by simp [grdS]
@[simp] theorem grdS_ff {t : Nat} {x : ADo} : grdS P (.b false) t false d x r K F H = awpS P (⟨d, none, x⟩ :: r) K F H := by simp [grdS]
@[simp] theorem grdS_tf {t : Nat} {x : ADo} : grdS P (.b true) t false d x r K F H = awpS P r K (put F d (.tup [])) H := by simp [grdS]
@[simp] theorem grdS_ft {t : Nat} {x : ADo} : grdS P (.b false) t true d x r K F H = awpS P r K (put F d (.tup [])) H := by simp [grdS]
@[simp] theorem grdS_u {t : Nat} {b : Bool} {x : ADo} : grdS P (.tup []) t b d x r K F H = awpS P r K (put F d (.tup [])) H := rfl
@[simp] theorem awpS_guard {t : Nat} {b : Bool} {x : ADo} : awpS P (⟨d, some (t, b), x⟩ :: r) K F H = grdS P (fget F t) t b d x r K F H := by
  unfold grdS; rw [awpS_cons]; dsimp only; generalize fget F t = u; cases u <;> first | rfl | (rename_i vs; cases vs <;> rfl)

def stpD (c : Cls) (x : Option (V × Hp)) (k : Cls → V → Hp → Prop) : Prop := match x with | some (v, H) => k c v H | none => False
@[simp] theorem stpD_some (c : Cls) (v : V) (H : Hp) (k : Cls → V → Hp → Prop) : stpD c (some (v, H)) k = k c v H := rfl
@[simp] theorem stpD_none (c : Cls) (k : Cls → V → Hp → Prop) : stpD c none k = False := rfl
variable {cs : List Cls} {J : List Cls → Fr → Hp → Prop}
@[simp] theorem awpD_nil : awpD P [] cs J F H = J cs F H := rfl
def callD (P : Program) (f : FuncId) (args : List V) (H : Hp) (k : Cls → V → Hp → Prop) : Prop :=
  (∃ v, (∀ H2, AC P f args H2 fun u H' => u = v ∧ H' = H2) ∧ k .pure v H) ∨ ∃ v H1, AC P f args H (fun u H' => u = v ∧ H' = H1) ∧ k .eff v H1
def kD (P : Program) (r : List AStep) (cs : List Cls) (J : List Cls → Fr → Hp → Prop) (F : Fr) (d : Option Nat) (c : Cls) (v : V) (H : Hp) : Prop := awpD P r (cs ++ [c]) J (put F d v) H
@[simp] theorem kD_eq (c : Cls) (v : V) (H : Hp) : kD P r cs J F d c v H = awpD P r (cs ++ [c]) J (put F d v) H := rfl
@[simp] theorem awpD_op {o : AOp} : awpD P (⟨d, none, .op o⟩ :: r) cs J F H = stpD (clsO o F) (astep o F H) (kD P r cs J F d) := rfl
@[simp] theorem awpD_call {f : FuncId} {args : List AO} : awpD P (⟨d, none, .call f args⟩ :: r) cs J F H = callD P f (evs F args) H (kD P r cs J F d) := rfl
def callvD (P : Program) (v : V) (args : List V) (H : Hp) (k : Cls → V → Hp → Prop) : Prop := match v with | .fn f caps => callD P f (args ++ caps) H k | _ => False
@[simp] theorem callvD_fn {f : FuncId} {caps args : List V} {k : Cls → V → Hp → Prop} : callvD P (.fn f caps) args H k = callD P f (args ++ caps) H k := rfl
@[simp] theorem awpD_callv {fv : AO} {args : List AO} : awpD P (⟨d, none, .callv fv args⟩ :: r) cs J F H = callvD P (ev F fv) (evs F args) H (kD P r cs J F d) := rfl
def grdD (P : Program) (v : V) (b : Bool) (d : Option Nat) (x : ADo) (r : List AStep) (cs : List Cls) (J : List Cls → Fr → Hp → Prop) (F : Fr) (H : Hp) : Prop :=
  match v with | .b y => (y = b → awpD P (⟨d, none, x⟩ :: r) cs J F H) ∧ (y ≠ b → awpD P r (cs ++ [.pure]) J (put F d (.tup [])) H) | .tup [] => awpD P r (cs ++ [.pure]) J (put F d (.tup [])) H | _ => False
@[simp] theorem grdD_tt {x : ADo} : grdD P (.b true) true d x r cs J F H = awpD P (⟨d, none, x⟩ :: r) cs J F H := by simp [grdD]
@[simp] theorem grdD_ff {x : ADo} : grdD P (.b false) false d x r cs J F H = awpD P (⟨d, none, x⟩ :: r) cs J F H := by simp [grdD]
@[simp] theorem grdD_tf {x : ADo} : grdD P (.b true) false d x r cs J F H = awpD P r (cs ++ [.pure]) J (put F d (.tup [])) H := by simp [grdD]
@[simp] theorem grdD_ft {x : ADo} : grdD P (.b false) true d x r cs J F H = awpD P r (cs ++ [.pure]) J (put F d (.tup [])) H := by simp [grdD]
@[simp] theorem grdD_u {b : Bool} {x : ADo} : grdD P (.tup []) b d x r cs J F H = awpD P r (cs ++ [.pure]) J (put F d (.tup [])) H := rfl
@[simp] theorem awpD_guard {t : Nat} {b : Bool} {x : ADo} : awpD P (⟨d, some (t, b), x⟩ :: r) cs J F H = grdD P (fget F t) b d x r cs J F H := by
  unfold grdD; rw [awpD]; dsimp only; generalize fget F t = u; cases u <;> first | rfl | (rename_i vs; cases vs <;> rfl)
theorem callD_pure {f : FuncId} {args : List V} {k : Cls → V → Hp → Prop} (v : V) (h : ∀ H2, AC P f args H2 fun u H' => u = v ∧ H' = H2) (hk : k .pure v H) : callD P f args H k := .inl ⟨v, h, hk⟩
theorem callD_eff {f : FuncId} {args : List V} {k : Cls → V → Hp → Prop} (v : V) (H1 : Hp) (h : AC P f args H fun u H' => u = v ∧ H' = H1) (hk : k .eff v H1) : callD P f args H k := .inr ⟨v, H1, h, hk⟩
end

section
variable {P : Program} {n : Nat} {Q : Post} {F : Fr} {H : Hp}
theorem AX.reg {ts : List Nat} {ss : List AStep} (h : awpS P ss (fun F H => Q .normal (fkeep F ts) H) F H) : AX P n (.post ts (.region ss)) Q F H := AX.post ts (AX.of (.region ss) h)
theorem AX.drw {ts bs : List Nat} {ss : List AStep} (h : awpD P ss [] (fun cs F H => chainAll bs 0 [] cs = true ∧ Q .normal (fkeep F ts) H) F H) : AX P n (.post ts (.draw bs ss)) Q F H := AX.post ts (AX.of (.draw bs ss) h)
theorem AX.ret (h : Q .ret F H) : AX P n .ret Q F H := AX.of .ret h
theorem AX.skip (h : Q .normal F H) : AX P n .skip Q F H := AX.of .skip h
theorem AX.exit {id : Nat} (h : Q (.exit id) F H) : AX P n (.exit id) Q F H := AX.of (.exit id) h
theorem AX.pcond {ts : List Nat} {x : AO} {a b : ACode} {t : Bool} (hb : ev F x = .b t) (h1 : t = true → AX P n a (Post.then (fun F H => Q .normal (fkeep F ts) H) Q) F H) (h2 : t = false → AX P n b (Post.then (fun F H => Q .normal (fkeep F ts) H) Q) F H) :
    AX P n (.post ts (.cond x a b)) Q F H := AX.post ts (AX.cond hb h1 h2)
theorem AX.pblock {ts : List Nat} {id : Nat} {a : ACode} (h : AX P n a (Post.block id (Post.then (fun F H => Q .normal (fkeep F ts) H) Q)) F H) : AX P n (.post ts (.block id a)) Q F H := AX.post ts (AX.block h)
end

/-- All ways out are one. -/
theorem AX.join {P : Program} {n : Nat} {d : ACode} {Q : Post} {F F1 : Fr} {H H1 : Hp} (h : AX P n d (fun x F H => x = .normal ∧ F = F1 ∧ H = H1) F H) (k : Q .normal F1 H1) : AX P n d Q F H :=
  h.mono (by rintro _ _ _ ⟨rfl, rfl, rfl⟩; exact k)

/-- The end of a function. -/
def Ends (R : V → Hp → Prop) (rs : List ARes) : Post := fun x F H' => (∀ k, x ≠ .exit k) ∧ ∃ v, resV F H' rs = some v ∧ R v H'
@[simp] theorem Ends_ret {R : V → Hp → Prop} {rs : List ARes} {F : Fr} {H : Hp} : Ends R rs .ret F H = ∃ v, resV F H rs = some v ∧ R v H := by simp [Ends]
@[simp] theorem Ends_normal {R : V → Hp → Prop} {rs : List ARes} {F : Fr} {H : Hp} : Ends R rs .normal F H = ∃ v, resV F H rs = some v ∧ R v H := by simp [Ends]
theorem AC.code {P : Program} {f : FuncId} {fn : Func} {a : AFunc} (hf : P.funcs[f]? = some fn) (hok : okFunc P fn a = true) {args : List V} {H : Hp} {R : V → Hp → Prop} (h : AX P a.n a.body (Ends R a.res) (fr0 0 args) H) : AC P f args H R := AC.of hf hok h

/-- A contract that tells all. -/
theorem AC.fix {P : Program} {f : FuncId} {args : List V} {H H1 : Hp} {v : V} {K : V → Hp → Prop} (h : AC P f args H (fun r H' => r = v ∧ H' = H1)) (k : K v H1) : AC P f args H K :=
  h.mono (by rintro _ _ ⟨rfl, rfl⟩; exact k)

end Go.Proofs.Ytihipphpfbnknaa.Am
