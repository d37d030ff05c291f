/- AM, part 1: operations that touch no memory. -/
import Derived.Test.YtihipphpfbnknaaAm0
import Derived.WalkKit
import Derived.Laws.Tables
import Derived.Laws.Append
import Derived.Lib.Strings
namespace Go.Proofs.Ytihipphpfbnknaa.Am
open Go Go.RowKit
set_option linter.unusedSimpArgs false
set_option linter.unusedVariables false

/-! ### whole numbers -/
def bAnd (k : IntKind) (x y : Int) : Int := k.wrap (BitVec.ofInt k.bits x &&& BitVec.ofInt k.bits y).toNat
def bOr (k : IntKind) (x y : Int) : Int := k.wrap (BitVec.ofInt k.bits x ||| BitVec.ofInt k.bits y).toNat
def bXor (k : IntKind) (x y : Int) : Int := k.wrap (BitVec.ofInt k.bits x ^^^ BitVec.ofInt k.bits y).toNat
def bAndNot (k : IntKind) (x y : Int) : Int := k.wrap (BitVec.ofInt k.bits x &&& ~~~BitVec.ofInt k.bits y).toNat
def binI (op : BinOp) (k : IntKind) (x y : Int) : Option V :=
  match op with
  | .add => some (.i k (k.wrap (x + y)))
  | .sub => some (.i k (k.wrap (x - y)))
  | .mul => some (.i k (k.wrap (x * y)))
  | .quo => if y = 0 then none else some (.i k (k.wrap (x.tdiv y)))
  | .rem => if y = 0 then none else some (.i k (x.tmod y))
  | .and => some (.i k (bAnd k x y))
  | .or => some (.i k (bOr k x y))
  | .xor => some (.i k (bXor k x y))
  | .andNot => some (.i k (bAndNot k x y))
  | .eql => some (.b (x == y))
  | .neq => some (.b (x != y))
  | .lss => some (.b (decide (x < y)))
  | .leq => some (.b (decide (x ≤ y)))
  | .gtr => some (.b (decide (y < x)))
  | .geq => some (.b (decide (y ≤ x)))
  | _ => none

def shI (op : BinOp) (k : IntKind) (x y : Int) : Option V :=
  if y < 0 then none else
  match op with
  | .shl => some (.i k (k.wrap (x * 2 ^ (min y.toNat k.bits))))
  | .shr => some (.i k (x.fdiv (2 ^ (min y.toNat k.bits))))
  | _ => none

def ltB (x y : List UInt8) : Bool := Op.bytesLess x y

def binS (op : BinOp) (x y : List UInt8) : Option V :=
  match op with
  | .add => if x.length + y.length ≤ 9223372036854775807 then some (.s (x ++ y)) else none
  | .eql => some (.b (x == y))
  | .neq => some (.b (!(x == y)))
  | .lss => some (.b (ltB x y))
  | .leq => some (.b (ltB x y || x == y))
  | .gtr => some (.b (!(ltB x y || x == y)))
  | .geq => some (.b (!(ltB x y)))
  | _ => none

def isSh : BinOp → Bool
  | .shl | .shr => true
  | _ => false

def binV (op : BinOp) (x y : V) : Option V :=
  match x, y with
  | .i k a, .i k' b => if isSh op then shI op k a b else if k = k' then binI op k a b else none
  | .s a, .s b => binS op a b
  | _, _ => none

theorem VR.inv_b {κ : K} {x : Bool} {c : Value} (h : VR κ (.b x) c) : c = .bool x := by cases h; rfl
theorem VR.inv_i {κ : K} {k : IntKind} {n : Int} {c : Value} (h : VR κ (.i k n) c) : c = .int k n := by cases h; rfl
theorem VR.inv_s {κ : K} {x : List UInt8} {c : Value} (h : VR κ (.s x) c) : c = .string ⟨x.toArray⟩ := by cases h; rfl

theorem toList_mk (x : List UInt8) : (⟨x.toArray⟩ : ByteArray).toList = x := by
  rw [Lib.toList_data]
theorem size_mk (x : List UInt8) : (⟨x.toArray⟩ : ByteArray).size = x.length := by simp [ByteArray.size]
theorem append_mk (x y : List UInt8) : (⟨x.toArray⟩ : ByteArray) ++ ⟨y.toArray⟩ = ⟨(x ++ y).toArray⟩ := by
  apply ByteArray.ext
  simp

theorem bin_ok {P : Program} {op : BinOp} {t : TypeId} {x y v : V} (h : binV op x y = some v) {κ : K} {ox oy : Operand} {cx cy : Value} (hx : VR κ x cx) (hy : VR κ y cy) (w : World) :
    ∃ cv, VR κ v cv ∧ (do eqGuard op t ox oy cx cy; binOp op t cx cy : Sem Value).run P w = .ok cv w := by
  unfold binV at h
  split at h
  · rename_i k a k' b
    rw [VR.inv_i hx, VR.inv_i hy]
    split at h
    · rename_i hsh
      unfold shI at h
      split at h
      · cases h
      · rename_i hneg
        cases op <;> simp [isSh] at hsh <;> simp at h <;> subst h <;> exact ⟨_, .i _ _, by simp [go_sem, Op.shift, hneg]⟩
    · rename_i hsh
      split at h
      · rename_i hk
        subst hk
        cases op <;> simp [isSh] at hsh <;> simp only [binI] at h
        case quo => split at h <;> simp at h; subst h; rename_i hz; exact ⟨_, .i _ _, by simp [go_sem, hz]⟩
        case rem => split at h <;> simp at h; subst h; rename_i hz; exact ⟨_, .i _ _, by simp [go_sem, hz]⟩
        all_goals injection h with h; subst h
        case add => exact ⟨_, .i _ _, by simp [go_sem]⟩
        case sub => exact ⟨_, .i _ _, by simp [go_sem]⟩
        case mul => exact ⟨_, .i _ _, by simp [go_sem]⟩
        case and => exact ⟨_, .i _ _, by simp [go_sem, Op.intBits, bAnd, bOr, bXor, bAndNot]⟩
        case or => exact ⟨_, .i _ _, by simp [go_sem, Op.intBits, bAnd, bOr, bXor, bAndNot]⟩
        case xor => exact ⟨_, .i _ _, by simp [go_sem, Op.intBits, bAnd, bOr, bXor, bAndNot]⟩
        case andNot => exact ⟨_, .i _ _, by simp [go_sem, Op.intBits, bAnd, bOr, bXor, bAndNot]⟩
        all_goals exact ⟨_, .b _, by simp [go_sem]⟩
      · cases h
  · rename_i a b
    rw [VR.inv_s hx, VR.inv_s hy]
    cases op <;> simp only [binS] at h
    case add =>
      split at h <;> simp at h
      subst h
      rename_i hl
      have : ¬ ((9223372036854775807 : Int) < (a.length : Int) + (b.length : Int)) := by omega
      exact ⟨_, .s _, by simp [go_sem, binOp, Op.stringOp, size_mk, append_mk, this]⟩
    all_goals first
      | (cases h; done)
      | (injection h with h; subst h; exact ⟨_, .b _, by simp [go_sem, binOp, Op.stringOp, toList_mk, ltB]⟩)
  · cases h

/-! ### equality of what is neither a whole number nor a string -/
inductive EK where
  | bool | ptr | slc | fnc | ifc | mp

def EK.fits : EK → TypeDesc → Bool
  | .bool, .bool => true
  | .ptr, .pointer _ => true
  | .slc, .slice _ => true
  | .fnc, .func _ _ _ => true
  | .ifc, .interface _ => true
  | .mp, .map _ _ => true
  | _, _ => false

def eqK : EK → V → V → Option Bool
  | .bool, .b x, .b y => some (x == y)
  | .ptr, .p none, .p none => some true
  | .ptr, .p none, .p (some _) => some false
  | .ptr, .p (some _), .p none => some false
  | .ptr, .fp _ _, .p none => some false
  | .ptr, .p none, .fp _ _ => some false
  | .fnc, .nf, .nf => some true
  | .fnc, .fn _ _, .nf => some false
  | .mp, .mp none, .mp none => some true
  | .mp, .mp (some _), .mp none => some false
  | .ifc, .ifc _ _, .nifc => some false
  | _, _, _ => none

theorem equal_at {P : Program} {t : TypeId} {d : TypeDesc} (hu : P.underlying t = some d) {x y : Value} {w : World} {r : Bool}
    (h : ∀ n, (Op.equalIn (n + 1) t x y).run P w = .ok r w) : (Op.equal t x y).run P w = .ok r w := h 9999

theorem eqK_eq {P : Program} {k : EK} {t : TypeId} {d : TypeDesc} {x y : V} {r : Bool} (hu : P.underlying t = some d) (hf : k.fits d = true) (h : eqK k x y = some r) {κ : K}
    {cx cy : Value} (hx : VR κ x cx) (hy : VR κ y cy) (w : World) : (Op.equal t cx cy).run P w = .ok r w := by
  have hun : (underlying t).run P w = .ok d w := run_underlying hu w
  refine equal_at hu fun n => ?_
  unfold eqK at h
  split at h <;> first | (cases h; done) | skip
  all_goals injection h with h
  all_goals subst h
  all_goals cases d <;> simp only [EK.fits, Bool.false_eq_true] at hf
  all_goals cases hx
  all_goals cases hy
  all_goals simp only [Op.equalIn, Sem.run_bind, hun, Result.andThen_ok]
  all_goals rfl

theorem eqG {op : BinOp} (t : TypeId) (ox oy : Operand) {x y : V} {k : EK} {r : Bool} (h : eqK k x y = some r) {κ : K} {cx cy : Value} (hx : VR κ x cx) (hy : VR κ y cy) : eqGuard op t ox oy cx cy = pure () := by
  unfold eqK at h
  split at h <;> first | (cases h; done) | skip
  all_goals cases hx
  all_goals cases hy
  all_goals first
    | exact eqGuard_at_bool ..
    | exact eqGuard_at_pointer ..
    | exact eqGuard_at_nilFunc ..
    | exact eqGuard_at_func ..
    | exact eqGuard_at_map ..
    | exact eqGuard_at_iface ..

theorem binE (t : TypeId) {x y : V} {k : EK} {r : Bool} (h : eqK k x y = some r) {κ : K} {cx cy : Value} (hx : VR κ x cx) (hy : VR κ y cy) :
    binOp .eql t cx cy = (do pure (.bool (← Op.equal t cx cy))) ∧ binOp .neq t cx cy = (do pure (.bool (!(← Op.equal t cx cy)))) := by
  unfold eqK at h
  split at h <;> first | (cases h; done) | skip
  all_goals cases hx
  all_goals cases hy
  all_goals exact ⟨rfl, rfl⟩

theorem eqK_ok {P : Program} {k : EK} {t : TypeId} {d : TypeDesc} {x y : V} {r : Bool} (hu : P.underlying t = some d) (hf : k.fits d = true) (h : eqK k x y = some r) {κ : K} (neg : Bool)
    {ox oy : Operand} {cx cy : Value} (hx : VR κ x cx) (hy : VR κ y cy) (w : World) :
    (do eqGuard (if neg then .neq else .eql) t ox oy cx cy; binOp (if neg then .neq else .eql) t cx cy : Sem Value).run P w = .ok (.bool (if neg then !r else r)) w := by
  rw [eqG t ox oy h hx hy]
  have he := eqK_eq hu hf h hx hy w
  cases neg
  · simp only [Bool.false_eq_true, if_false, Sem.run_bind, Sem.run_pure, Result.andThen_ok]
    rw [(binE t h hx hy).1]
    simp only [Sem.run_bind, Sem.run_pure, Result.andThen_ok, he]
  · simp only [if_true, Sem.run_bind, Sem.run_pure, Result.andThen_ok]
    rw [(binE t h hx hy).2]
    simp only [Sem.run_bind, Sem.run_pure, Result.andThen_ok, he]

end Go.Proofs.Ytihipphpfbnknaa.Am
