/- AM, part 0: values with contents, heaps of numbered blocks, and what they say of the model's memory. -/
import Derived.Below
import Derived.Calls
namespace Go.Proofs.Ytihipphpfbnknaa.Am
open Go Go.RowKit

/-- A value, with what it leads to where that is frozen. -/
inductive V where
  | junk
  | b (x : Bool)
  | i (k : IntKind) (n : Int)
  | s (x : List UInt8)
  | p (a : Option (Nat × Nat × Nat))
  | fp (cs : List V) (off : Nat)
  | sl (a : Option (Nat × Nat × Nat)) (len sz : Nat)
  | fs (es : List (List V))
  | mp (r : Option Nat)
  | fn (f : FuncId) (caps : List V)
  | nf
  | ifc (t : TypeId) (v : V)
  | nifc
  | agg (cs : List V)
  | tup (vs : List V)
  deriving Inhabited

inductive Blk where
  | cells (cs : List V) (m : Nat)
  | map (es : List (V × V))

structure Hp where
  get : Nat → Option Blk
  next : Nat

def Hp.upd (H : Hp) (id : Nat) (b : Blk) : Hp := { H with get := fun k => if k = id then some b else H.get k }
def Hp.add (H : Hp) (b : Blk) : Hp := { get := fun k => if k = H.next then some b else H.get k, next := H.next + 1 }
def Hp.none : Hp := ⟨fun _ => Option.none, 0⟩

/-- Where the blocks lie. -/
structure K where
  pl : Nat → Nat → Nat × Nat
  ok : Nat → Nat → Prop
  /-- Blocks that nobody writes for now. -/
  fz : Nat → Prop
  /-- Blocks that nobody writes ever: they are told by what they hold. -/
  ic : Nat → Prop
  /-- Numbers that are kept free. -/
  hole : Nat → Prop
  w : World

def nCells (w : World) (b : Nat) : Option Nat :=
  match w.heap[b]? with
  | some (.cells c _ _) => some c.size
  | _ => Option.none

inductive VR (κ : K) : V → Value → Prop
  | junk (v : Value) : VR κ .junk v
  | b (x : Bool) : VR κ (.b x) (.bool x)
  | i (k : IntKind) (n : Int) : VR κ (.i k n) (.int k n)
  | s (x : List UInt8) : VR κ (.s x) (.string ⟨x.toArray⟩)
  | p0 : VR κ (.p Option.none) (.pointer Option.none)
  | p (id off ext : Nat) : κ.ok id ext → VR κ (.p (some (id, off, ext))) (.pointer (some ⟨(κ.pl id ext).1, (κ.pl id ext).2 + off, Option.none⟩))
  | fp (cs : List V) (off b o : Nat) (cv : Nat → Value) : κ.ic b → (∀ (j : Nat) v, cs[j]? = some v → κ.w.cell? ⟨b, o + j, Option.none⟩ = some (cv j)) → (∀ (j : Nat) v, cs[j]? = some v → VR κ v (cv j)) →
      VR κ (.fp cs off) (.pointer (some ⟨b, o + off, Option.none⟩))
  | sl0 (sz : Nat) (a : Option Addr) : VR κ (.sl Option.none 0 sz) (.slice a 0 0)
  | sl (id off ext len sz cap n : Nat) (a : Addr) : κ.ok id ext → 0 < sz → len ≤ cap → off + len * sz ≤ ext → ext ≤ off + cap * sz →
      nCells κ.w (κ.pl id ext).1 = some n → (κ.pl id ext).2 + off + cap * sz ≤ n → (cap ≠ 0 → a = ⟨(κ.pl id ext).1, (κ.pl id ext).2 + off, Option.none⟩) →
      VR κ (.sl (some (id, off, ext)) len sz) (.slice (some a) len cap)
  | fs (es : List (List V)) (cap sz b o : Nat) (a : Option Addr) (cv : Nat → Nat → Value) : es.length ≤ cap → (∀ e, e ∈ es → e.length = sz) →
      (a = Option.none → cap = 0) → (es ≠ [] → a = some ⟨b, o, Option.none⟩ ∧ κ.ic b) →
      (∀ (i j : Nat) e v, es[i]? = some e → e[j]? = some v → κ.w.cell? ⟨b, o + i * sz + j, Option.none⟩ = some (cv i j)) → (∀ (i j : Nat) e v, es[i]? = some e → e[j]? = some v → VR κ v (cv i j)) →
      VR κ (.fs es) (.slice a es.length cap)
  | mp0 : VR κ (.mp Option.none) (.map Option.none)
  | mp (id : Nat) : κ.ok id 0 → VR κ (.mp (some id)) (.map (some (κ.pl id 0).1))
  | fn (f : FuncId) (caps : List V) (cs : List Value) : caps.length = cs.length → (∀ (j : Nat) v, caps[j]? = some v → VR κ v (cs.getD j undef)) →
      VR κ (.fn f caps) (.func (.func f) #[] cs.toArray)
  | nf : VR κ .nf .nilFunc
  | ifc (t : TypeId) (v : V) (cv : Value) : VR κ v cv → VR κ (.ifc t v) (.iface t cv)
  | nifc : VR κ .nifc .nilIface
  | agg (vs : List V) (cs : List Value) : vs.length = cs.length → (∀ (j : Nat) v, vs[j]? = some v → VR κ v (cs.getD j undef)) → VR κ (.agg vs) (.agg cs.toArray)
  | tup (vs : List V) (cs : List Value) : vs.length = cs.length → (∀ (j : Nat) v, vs[j]? = some v → VR κ v (cs.getD j undef)) → VR κ (.tup vs) (.tuple cs.toArray)

/-- A list of values, cell by cell. -/
def VRs (κ : K) (vs : List V) (cs : List Value) : Prop := vs.length = cs.length ∧ ∀ (j : Nat) v, vs[j]? = some v → VR κ v (cs.getD j undef)

/-- What time does. -/
structure K.Le (κ κ' : K) : Prop where
  ok : ∀ id e, κ.ok id e → κ'.ok id e ∧ κ'.pl id e = κ.pl id e
  fz : ∀ b, κ.fz b → κ'.fz b ∧ κ'.w.heap[b]? = κ.w.heap[b]?
  ic : ∀ b, κ.ic b → κ'.ic b ∧ κ'.w.heap[b]? = κ.w.heap[b]?
  icn : ∀ b, κ'.ic b → κ.ic b ∨ κ.w.heap.size ≤ b ∨ ¬ κ.fz b
  n : ∀ b n, nCells κ.w b = some n → nCells κ'.w b = some n
  size : κ.w.heap.size ≤ κ'.w.heap.size
  os : κ'.w.os = κ.w.os
  tape : κ'.w.tape = κ.w.tape
  output : κ'.w.output = κ.w.output
  hole : ∀ id, κ.hole id → κ'.hole id ∧ ∀ e, κ'.ok id e → κ.ok id e

theorem K.Le.refl (κ : K) : κ.Le κ := ⟨fun _ _ h => ⟨h, rfl⟩, fun _ h => ⟨h, rfl⟩, fun _ h => ⟨h, rfl⟩, fun _ h => .inl h, fun _ _ h => h, Nat.le_refl _, rfl, rfl, rfl, fun _ h => ⟨h, fun _ o => o⟩⟩
theorem K.Le.trans {a b c : K} (h : a.Le b) (k : b.Le c) : a.Le c :=
  ⟨fun id e x => let ⟨y, z⟩ := h.ok id e x; let ⟨u, v⟩ := k.ok id e y; ⟨u, v.trans z⟩,
   fun i x => let ⟨y, z⟩ := h.fz i x; let ⟨u, v⟩ := k.fz i y; ⟨u, v.trans z⟩,
   fun i x => let ⟨y, z⟩ := h.ic i x; let ⟨u, v⟩ := k.ic i y; ⟨u, v.trans z⟩,
   fun i x => (k.icn i x).elim (fun y => h.icn i y) (fun y => .inr (y.elim (fun y => .inl (Nat.le_trans h.size y)) fun y => .inr fun z => y (h.fz i z).1)),
   fun i n x => k.n i n (h.n i n x), Nat.le_trans h.size k.size, k.os.trans h.os, k.tape.trans h.tape, k.output.trans h.output, fun id x => let ⟨y, z⟩ := h.hole id x; let ⟨u, v⟩ := k.hole id y; ⟨u, fun e o => z e (v e o)⟩⟩

theorem cell_of_block {w w' : World} {a : Addr} (h : w'.heap[a.block]? = w.heap[a.block]?) : w'.cell? a = w.cell? a := by
  simp only [World.cell?, h]

/-- What a value looks at. -/
structure K.Mv (κ κ' : K) : Prop where
  ok : ∀ id e, κ.ok id e → κ'.ok id e ∧ κ'.pl id e = κ.pl id e
  ic : ∀ b, κ.ic b → κ'.ic b ∧ κ'.w.heap[b]? = κ.w.heap[b]?
  n : ∀ b n, nCells κ.w b = some n → nCells κ'.w b = some n
theorem VR.move {κ κ' : K} (h : κ.Mv κ') {v : V} {c : Value} (r : VR κ v c) : VR κ' v c := by
  induction r with
  | junk v => exact .junk v
  | b x => exact .b x
  | i k n => exact .i k n
  | s x => exact .s x
  | p0 => exact .p0
  | p id off ext o => have := h.ok _ _ o; rw [← this.2]; exact .p id off ext this.1
  | fp cs off b o cv hb hc _ ih =>
    have := h.ic _ hb
    exact .fp cs off b o cv this.1 (fun j v hj => by rw [cell_of_block (w := κ.w) this.2]; exact hc j v hj) ih
  | sl0 sz a => exact .sl0 sz a
  | sl id off ext len sz cap n a o z l x y hn hr ha =>
    have := h.ok _ _ o
    exact .sl id off ext len sz cap n a this.1 z l x y (by rw [this.2]; exact h.n _ _ hn) (by rw [this.2]; exact hr) (by rw [this.2]; exact ha)
  | fs es cap sz b o a cv hl hs hn ha hc _ ih =>
    refine .fs es cap sz b o a cv hl hs hn (fun e => ⟨(ha e).1, (h.ic _ (ha e).2).1⟩) (fun i j e v hi hj => ?_) ih
    have hb := (ha (by rintro rfl; simp at hi)).2
    rw [cell_of_block (w := κ.w) (h.ic _ hb).2]
    exact hc i j e v hi hj
  | mp0 => exact .mp0
  | mp id o => have := h.ok _ _ o; rw [← this.2]; exact .mp id this.1
  | fn f caps cs l _ ih => exact .fn f caps cs l ih
  | nf => exact .nf
  | ifc t v cv _ ih => exact .ifc t v cv ih
  | nifc => exact .nifc
  | agg vs cs l _ ih => exact .agg vs cs l ih
  | tup vs cs l _ ih => exact .tup vs cs l ih
theorem VR.mono {κ κ' : K} (h : κ.Le κ') {v : V} {c : Value} (r : VR κ v c) : VR κ' v c := r.move ⟨h.ok, h.ic, h.n⟩

theorem VRs.mono {κ κ' : K} (h : κ.Le κ') {vs : List V} {cs : List Value} (r : VRs κ vs cs) : VRs κ' vs cs := ⟨r.1, fun j v e => (r.2 j v e).mono h⟩

/-- A block's cells lie at its place. -/
structure Placed (κ : K) (id e : Nat) (cs : List V) : Prop where
  ex : ∃ arr t fr, κ.w.heap[(κ.pl id e).1]? = some (.cells arr t fr) ∧ (κ.pl id e).2 + e ≤ arr.size ∧
    (∀ (j : Nat) v, j < e → cs[j]? = some v → VR κ v (arr.getD ((κ.pl id e).2 + j) undef)) ∧ (fr.2 ≤ fr.1 ∨ arr.size ≤ fr.1)
  nfz : ¬ κ.fz (κ.pl id e).1

structure PlacedMap (κ : K) (id : Nat) (es : List (V × V)) : Prop where
  ex : ∃ arr clock, κ.w.heap[(κ.pl id 0).1]? = some (.map arr clock) ∧ es.length = arr.size ∧
    (∀ (j : Nat) k v, es[j]? = some (k, v) → ∃ en, arr[j]? = some en ∧ VR κ k en.key ∧ VR κ v en.val)
  nfz : ¬ κ.fz (κ.pl id 0).1

/-- The heap H as it lies in the world. -/
structure Sim (κ : K) (H : Hp) : Prop where
  ok : ∀ id e, κ.ok id e → id < H.next ∧ ∀ cs m, H.get id = some (.cells cs m) → e ≤ cs.length
  hole : ∀ id, κ.hole id → id < H.next ∧ H.get id = none
  lt : ∀ id blk, H.get id = some blk → id < H.next
  fz : ∀ b, κ.fz b → b < κ.w.heap.size
  ic : ∀ b, κ.ic b → κ.fz b
  le : ∀ id cs m, H.get id = some (.cells cs m) → m ≤ cs.length
  cells : ∀ id cs m, H.get id = some (.cells cs m) → ∀ e, m ≤ e → e ≤ cs.length → Placed κ id e cs
  maps : ∀ id es, H.get id = some (.map es) → PlacedMap κ id es
  sep : ∀ id id' e e' cs m cs' m', H.get id = some (.cells cs m) → H.get id' = some (.cells cs' m') → m ≤ e → e ≤ cs.length → m' ≤ e' → e' ≤ cs'.length →
    (κ.pl id e).1 = (κ.pl id' e').1 → id = id'
  base : ∀ id cs m e e', H.get id = some (.cells cs m) → m ≤ e → e ≤ cs.length → m ≤ e' → e' ≤ cs.length → (κ.pl id e).1 = (κ.pl id e').1 → (κ.pl id e).2 = (κ.pl id e').2
  sepm : ∀ id id' es es', H.get id = some (.map es) → H.get id' = some (.map es') → (κ.pl id 0).1 = (κ.pl id' 0).1 → id = id'

/-! ### frames -/
abbrev Fr := List (Nat × V)
def fget : Fr → Nat → V
  | [], _ => .junk
  | (t', v) :: F, t => if t = t' then v else fget F t
def fset (F : Fr) (t : Nat) (v : V) : Fr := (t, v) :: F
def fkeep (F : Fr) : List Nat → Fr
  | [] => []
  | t :: ts => (t, fget F t) :: fkeep F ts
def FR (κ : K) (F : Fr) (tmps : Array Value) : Prop := ∀ t, VR κ (fget F t) (tmps.getD t undef)
theorem FR.mono {κ κ' : K} (h : κ.Le κ') {F : Fr} {tmps : Array Value} (r : FR κ F tmps) : FR κ' F tmps := fun t => (r t).mono h
theorem FR.set {κ : K} {F : Fr} {tmps : Array Value} (r : FR κ F tmps) {d : Nat} {v : V} {c : Value} (hd : d < tmps.size) (hv : VR κ v c) : FR κ (fset F d v) (tmps.setIfInBounds d c) := by
  intro t
  simp only [fset, fget]
  by_cases h : t = d
  · subst h; simp [hd, Array.getD_eq_getD_getElem?]; exact hv
  · have := r t
    simpa [h, Array.getD_eq_getD_getElem?, Array.getElem?_setIfInBounds_ne (Ne.symm h)] using this
theorem fget_keep (F : Fr) (ts : List Nat) (t : Nat) : fget (fkeep F ts) t = .junk ∨ fget (fkeep F ts) t = fget F t := by
  induction ts with
  | nil => exact .inl rfl
  | cons x ts ih =>
    simp only [fkeep, fget]
    by_cases h : t = x
    · subst h; exact .inr (by simp)
    · rw [if_neg h]; exact ih
theorem FR.keep {κ : K} {F : Fr} {tmps : Array Value} (r : FR κ F tmps) (ts : List Nat) : FR κ (fkeep F ts) tmps := by
  intro t
  rcases fget_keep F ts t with h | h
  · rw [h]; exact .junk _
  · rw [h]; exact r t

end Go.Proofs.Ytihipphpfbnknaa.Am
