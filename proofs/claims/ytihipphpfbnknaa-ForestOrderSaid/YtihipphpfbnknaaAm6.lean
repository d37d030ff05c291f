/- AM, part 6: the table of operations. -/
import Derived.Test.YtihipphpfbnknaaAm5
namespace Go.Proofs.Ytihipphpfbnknaa.Am
open Go Go.RowKit
set_option linter.unusedSimpArgs false
set_option linter.unusedVariables false

inductive AOp where
  | mov (x : AO)
  | pick (c a b : AO)
  | new (zs : List V)
  | box (x : AO)
  | build (zero : List V) (parts : List (Nat × Nat × AO))
  | bsl (len : Nat) (zero : List V) (parts : List (Nat × Nat × AO))
  | bfz (len sz : Nat) (zero : List V) (parts : List (Nat × Nat × AO))
  | load (agg : Bool) (n : Nat) (a : AO)
  | store (n : Nat) (a x : AO)
  | nilc (x : AO)
  | bin (op : BinOp) (x y : AO)
  | eqk (k : EK) (neg : Bool) (x y : AO)
  | un (op : UnOp) (x : AO)
  | conv (k : IntKind) (x : AO)
  | mkfn (f : FuncId) (caps : List AO)
  | mksl (sz bytes : Nat) (zero : List V) (l c : AO)
  | slc (sz : Nat) (x : AO) (lo hi : Option AO)
  | sls (x : AO) (lo hi : Option AO)
  | fadr (off : Nat) (x : AO)
  | fld (agg : Bool) (off n : Nat) (x : AO)
  | iad (sz : Nat) (x i : AO)
  | idx (x i : AO)
  | ext (n : Nat) (x : AO)
  | len (str : Bool) (x : AO)
  | app (sz bytes : Nat) (s x : AO)
  | mx (xs : List AO)
  | mn (xs : List AO)
  | boxf (x : AO)
  | bz (sz : Nat)
  | slc0 (sz : Nat) (x : AO)
  | b2s (x : AO)
  | s2b (x : AO)
  | iadA (len sz : Nat) (x i : AO)

def bytesOf : List V → Option (List UInt8)
  | [] => some []
  | .i .u8 n :: r => match bytesOf r with
    | some bs => some (UInt8.ofNat n.toNat :: bs)
    | none => none
  | _ => none

def one (agg : Bool) (l : List V) : Option V :=
  match agg, l with
  | true, l => some (.agg l)
  | false, [v] => some v
  | _, _ => none

def swr (H : Hp) (a : V) (vs : List V) : Option Hp :=
  match a with
  | .p (some (id, off, ext)) =>
    match H.get id with
    | some (.cells cs m) => if ext = cs.length ∧ off + vs.length ≤ ext ∧ vs ≠ [] then some (H.upd id (.cells (setAll cs off vs) cs.length)) else none
    | _ => none
  | _ => none

def bound (F : Fr) (d : Int) : Option AO → Option Int
  | none => some d
  | some x => match ev F x with
    | .i _ n => some n
    | _ => none

/-- So many zeros. -/
def repl (n : Nat) (zero : List V) : List V :=
  match zero with
  | [z] => List.replicate n z
  | _ => (List.replicate n zero).flatten

def maxL : V → List V → Option V
  | .i k n, [] => some (.i k n)
  | .i k n, .i k' m :: r => maxL (.i k (max n m)) r
  | _, _ => none
def maxs : List V → Option V
  | [] => none
  | x :: r => maxL x r
def minL : V → List V → Option V
  | .i k n, [] => some (.i k n)
  | .i k n, .i k' m :: r => minL (.i k (min n m)) r
  | _, _ => none
def mins : List V → Option V
  | [] => none
  | x :: r => minL x r

def unV (op : UnOp) (x : V) : Option V :=
  match op, x with
  | .not, .b x => some (.b (!x))
  | .neg, .i k n => some (.i k (k.wrap (0 - n)))
  | .xor, .i k n => some (.i k (bXor k (if k.signed then -1 else k.max) n))
  | _, _ => none

def evp (F : Fr) (parts : List (Nat × Nat × AO)) : List (Nat × Nat × V) := parts.map fun p => (p.1, p.2.1, ev F p.2.2)

def astep (op : AOp) (F : Fr) (H : Hp) : Option (V × Hp) :=
  match op with
  | .mov x => some (ev F x, H)
  | .pick c a b => match ev F c with
    | .b x => some (if x then ev F a else ev F b, H)
    | _ => none
  | .new zs => some (.p (some (H.next, 0, zs.length)), H.add (.cells zs zs.length))
  | .box x => match cellsV (ev F x) with
    | some cs => some (.p (some (H.next, 0, cs.length)), H.add (.cells cs cs.length))
    | none => none
  | .build zero parts => match fillV zero (evp F parts) with
    | some cs => some (.agg cs, H)
    | none => none
  | .bsl len zero parts => match fillV (repl len zero) (evp F parts) with
    | some cs => some (.sl (some (H.next, 0, cs.length)) len zero.length, H.add (.cells cs cs.length))
    | none => none
  | .bfz len sz zero parts => match fillV (repl len zero) (evp F parts) with
    | some cs => some (.fs ((List.range len).map fun i => (cs.drop (i * sz)).take sz), H)
    | none => none
  | .load agg n a => match rd H (ev F a) n with
    | some vs => (one agg vs).map fun v => (v, H)
    | none => none
  | .store n a x => match cellsV (ev F x) with
    | some vs => if vs.length = n then (swr H (ev F a) vs).map fun H' => (.junk, H') else none
    | none => none
  | .nilc x => match ev F x with
    | .p (some a) => some (.p (some a), H)
    | .fp cs o => some (.fp cs o, H)
    | .fn f cs => some (.fn f cs, H)
    | .ifc t v => some (.ifc t v, H)
    | _ => none
  | .bin op x y => (binV op (ev F x) (ev F y)).map fun v => (v, H)
  | .eqk k neg x y => (eqK k (ev F x) (ev F y)).map fun r => (.b (if neg then !r else r), H)
  | .un op x => (unV op (ev F x)).map fun v => (v, H)
  | .conv k x => match ev F x with
    | .i _ n => some (.i k (k.wrap n), H)
    | _ => none
  | .mkfn f caps => some (.fn f (evs F caps), H)
  | .mksl sz bytes zero l c => match ev F l, ev F c with
    | .i _ n, .i _ m => if 0 ≤ n ∧ n ≤ m ∧ m * bytes ≤ roomB ∧ 0 < bytes ∧ 0 < sz ∧ zero.length = sz then
        some (.sl (some (H.next, 0, n.toNat * sz)) n.toNat sz, H.add (.cells (repl n.toNat zero) (n.toNat * sz))) else none
    | _, _ => none
  | .slc sz x lo hi => match ev F x with
    | .sl none 0 _ => match bound F 0 lo, bound F 0 hi with
      | some l, some h => if l = 0 ∧ h = 0 then some (.sl none 0 sz, H) else none
      | _, _ => none
    | .sl (some (id, off, ext)) len sz' => match bound F 0 lo, bound F len hi with
      | some l, some h => if sz' = sz ∧ 0 ≤ l ∧ l ≤ h ∧ off + h.toNat * sz ≤ ext then some (.sl (some (id, off + l.toNat * sz, ext)) (h.toNat - l.toNat) sz, H) else none
      | _, _ => none
    | .fs es => match bound F 0 lo, bound F es.length hi with
      | some l, some h => if 0 ≤ l ∧ l ≤ h ∧ h ≤ es.length ∧ es.all (fun e => e.length == sz) then some (.fs ((es.take h.toNat).drop l.toNat), H) else none
      | _, _ => none
    | _ => none
  | .sls x lo hi => match ev F x with
    | .s bs => match bound F 0 lo, bound F bs.length hi with
      | some l, some h => if 0 ≤ l ∧ l ≤ h ∧ h ≤ bs.length then some (.s ((bs.take h.toNat).drop l.toNat), H) else none
      | _, _ => none
    | _ => none
  | .fadr off x => match ev F x with
    | .p (some (id, o, ext)) => some (.p (some (id, o + off, ext)), H)
    | .fp cs o => some (.fp cs (o + off), H)
    | _ => none
  | .fld agg off n x => match ev F x with
    | .agg cs => if off + n ≤ cs.length then (one agg ((cs.drop off).take n)).map fun v => (v, H) else none
    | _ => none
  | .iad sz x i => match ev F i with
    | .i _ n => match ev F x with
      | .sl (some (id, off, ext)) len sz' => if sz' = sz ∧ 0 ≤ n ∧ n < len then some (.p (some (id, off + n.toNat * sz, ext)), H) else none
      | .fs es => if 0 ≤ n then match es[n.toNat]? with
          | some e => if e.length = sz then some (.fp e 0, H) else none
          | none => none
        else none
      | _ => none
    | _ => none
  | .idx x i => match ev F x, ev F i with
    | .s bs, .i _ n => if 0 ≤ n then match bs[n.toNat]? with
        | some b => some (.i .u8 b.toNat, H)
        | none => none
      else none
    | _, _ => none
  | .ext n x => match ev F x with
    | .tup vs => match vs[n]? with
      | some v => some (v, H)
      | none => none
    | _ => none
  | .len str x => match str, ev F x with
    | true, .s bs => some (.i .i64 bs.length, H)
    | false, .sl _ n _ => some (.i .i64 n, H)
    | false, .fs es => some (.i .i64 es.length, H)
    | _, _ => none
  | .app sz bytes s x => sAppend H sz bytes (ev F s) (ev F x)
  | .mx xs => (maxs (evs F xs)).map fun v => (v, H)
  | .mn xs => (mins (evs F xs)).map fun v => (v, H)
  | .boxf x => match cellsV (ev F x) with
    | some cs => some (.fp cs 0, H)
    | none => none
  | .bz sz => some (.sl none 0 sz, H)
  | .slc0 sz x => match ev F x with
    | .sl none 0 _ | .sl (some _) _ _ | .fs _ => some (.sl none 0 sz, H)
    | _ => none
  | .b2s x => match slCells H 1 (ev F x) with
    | some (_, cs) => match ev F x with
      | .s _ => none
      | _ => (bytesOf cs).map fun bs => (.s bs, H)
    | none => none
  | .s2b x => match ev F x with
    | .s bs => some (.sl (some (H.next, 0, bs.length)) bs.length 1, H.add (.cells (bs.map fun b => .i .u8 b.toNat) bs.length))
    | _ => none
  | .iadA len sz x i => match ev F i with
    | .i _ n => if 0 ≤ n ∧ n < len then match ev F x with
        | .p (some (id, off, ext)) => some (.p (some (id, off + n.toNat * sz, ext)), H)
        | .fp cs off => some (.fp cs (off + n.toNat * sz), H)
        | _ => none
      else none
    | _ => none

/-! ### the check -/
def szP (P : Program) (t : TypeId) : Option Nat := (P.info? t).map (·.size)
def aggP (P : Program) (t : TypeId) : Option Bool := (P.underlying t).map fun | .struct _ | .array _ _ => true | _ => false
def zeroP (P : Program) (t : TypeId) : Option (List Value) := ((P.info? t).bind (·.zero)).map fun z => z.cells.toList
def elemP (P : Program) (t : TypeId) : Option TypeId := match P.underlying t with | some (.slice e) => some e | _ => none
def zOk (P : Program) (t : TypeId) (zs : List V) : Bool := match zeroP P t with | some cs => isVs cs zs | none => false
def optOk : Option Operand → Option AO → Bool
  | none, none => true
  | some o, some x => okAO o x
  | _, _ => false
def places (P : Program) (t : TypeId) : Option (Nat → Option (Nat × Nat)) :=
  match P.underlying t with
  | some (.struct fs) => match fs.toList.mapM (fun f => (P.info? f.type).map fun i => (f.offset, i.size)) with
    | some ps => some (ps.toArray[·]?)
    | none => none
  | some (.array _ e) => match szP P e with
    | some n => some fun i => some (i * n, n)
    | none => none
  | _ => none
def partsOk (place : Nat → Option (Nat × Nat)) : List (Nat × Operand) → List (Nat × Nat × AO) → Bool
  | [], [] => true
  | (i, o) :: ps, (off, n, x) :: qs => place i == some (off, n) && okAO o x && partsOk place ps qs
  | _, _ => false
def eqkP (P : Program) (k : EK) (t : TypeId) : Bool := match P.underlying t with | some d => k.fits d | none => false
def isIntT : TypeDesc → Bool | .int _ => true | _ => false
def appP (P : Program) (sz bytes : Nat) (ts : List TypeId) : Bool :=
  match ts with
  | [sT, xT] =>
    match P.underlying sT, P.underlying xT with
    | some (.slice e), some d => !isIntT d && (match P.info? e with
      | some i => i.size == sz && i.bytes == bytes && decide (0 < sz) && decide (0 < bytes) && (match i.zero with | some z => z.cells.size == sz | none => false)
      | none => false)
    | _, _ => false
  | _ => false
def lenT : Bool → TypeDesc → Bool | true, .string => true | false, .slice _ => true | _, _ => false

def okOp (P : Program) (o : Op) (a : AOp) : Bool :=
  match o, a with
  | .move x, .mov y | .assign x, .mov y => okAO x y
  | .pick c x y, .pick c' x' y' => okAO c c' && okAO x x' && okAO y y'
  | .alloc e, .new zs => zOk P e zs && zs.all isCell && szP P e == some zs.length
  | .box e x, .box y => okAO x y
  | .build t ps, .build zero qs => zOk P t zero && (match places P t with | some pl => partsOk pl ps.toList qs | none => false)
  | .buildSlice t n ps, .bsl n' zero qs => n == n' && decide (0 < zero.length) && decide (n * zero.length ≤ 2 ^ 24) && (match elemP P t with
    | some e => zOk P e zero && szP P e == some zero.length && partsOk (fun i => some (i * zero.length, zero.length)) ps.toList qs
    | none => false)
  | .buildSlice t n ps, .bfz n' sz zero qs => n == n' && sz == zero.length && decide (0 < sz) && decide (n * sz ≤ 2 ^ 24) && (match elemP P t with
    | some e => zOk P e zero && szP P e == some sz && partsOk (fun i => some (i * sz, sz)) ps.toList qs
    | none => false)
  | .load t x, .load agg n y => okAO x y && aggP P t == some agg && (if agg then szP P t == some n else n == 1)
  | .store t x v, .store n x' v' => okAO x x' && okAO v v' && szP P t == some n
  | .nilCheck x, .nilc y => okAO x y
  | .binOp op t x y _, .bin op' x' y' => decide (op = op') && okAO x x' && okAO y y'
  | .binOp op t x y _, .eqk k neg x' y' => decide (op = if neg then .neq else .eql) && eqkP P k t && okAO x x' && okAO y y'
  | .unOp op _ x, .un op' y => decide (op = op') && okAO x y
  | .convert s d x, .conv k y => okAO x y && (match P.underlying s, P.underlying d with | some _, some (.int k') => decide (k = k') | _, _ => false)
  | .makeFunc (.func f) first caps, .mkfn g xs => f == g && first.isEmpty && okAOs caps.toList xs
  | .makeSlice t l c, .mksl sz bytes zero l' c' => okAO l l' && okAO c c' && (match elemP P t with
    | some e => zOk P e zero && (match P.info? e with | some i => i.size == sz && i.bytes == bytes | none => false)
    | none => false)
  | .slice t x lo hi none, .slc sz y lo' hi' => okAO x y && optOk lo lo' && optOk hi hi' && decide (0 < sz) && (match elemP P t with | some e => szP P e == some sz | none => false)
  | .slice t x lo hi none, .sls y lo' hi' => okAO x y && optOk lo lo' && optOk hi hi' && (match P.underlying t with | some .string => true | _ => false)
  | .fieldAddr t x f, .fadr off y => okAO x y && (match P.underlying t with
    | some (.struct fs) => (match fs[f]? with | some fd => fd.offset == off && (match szP P fd.type with | some n => decide (0 < n) | none => false) | none => false)
    | _ => false)
  | .field t x f, .fld agg off n y => okAO x y && (match P.underlying t with
    | some (.struct fs) => (match fs[f]? with | some fd => fd.offset == off && aggP P fd.type == some agg && (if agg then szP P fd.type == some n else n == 1) | none => false)
    | _ => false)
  | .indexAddr t x i, .iad sz y j => okAO x y && okAO i j && (match elemP P t with | some e => szP P e == some sz | none => false)
  | .index t x i, .idx y j => okAO x y && okAO i j && (match P.underlying t with | some .string => true | _ => false)
  | .extract x n, .ext m y => n == m && okAO x y
  | .call ⟨.builtin .len, args, ts⟩, .len str y => (match args.toList, ts.toList with
    | [x], [t] => okAO x y && (match P.underlying t with | some d => lenT str d | none => false)
    | _, _ => false)
  | .call ⟨.builtin .append, args, ts⟩, .app sz bytes s y => (match args.toList with
    | [a, b] => okAO a s && okAO b y && appP P sz bytes ts.toList
    | _ => false)
  | .box e x, .boxf y => okAO x y
  | .buildSlice t n ps, .bz sz => n == 0 && ps.isEmpty && (match elemP P t with | some e => (szP P e).isSome | none => false)
  | .slice t x lo (some (.const (.int k 0))) (some (.const (.int k' 0))), .slc0 sz y => okAO x y && lo.isNone && (match elemP P t with | some e => szP P e == some sz | none => false)
  | .convert s d x, .b2s y => okAO x y && (match P.underlying s, P.underlying d with
    | some (.slice e), some .string => (match P.underlying e with | some (.int .u8) => true | _ => false)
    | _, _ => false)
  | .convert s d x, .s2b y => okAO x y && (match P.underlying s, P.underlying d with
    | some .string, some (.slice e) => (match P.underlying e with | some (.int .u8) => true | _ => false)
    | _, _ => false)
  | .indexAddr t x i, .iadA len sz y j => okAO x y && okAO i j && (match P.underlying t with
    | some (.array n e) => n == len && szP P e == some sz
    | _ => false)
  | .call ⟨.builtin .max, args, _⟩, .mx xs => okAOs args.toList xs
  | .call ⟨.builtin .min, args, _⟩, .mn xs => okAOs args.toList xs
  | _, _ => false

/-- An operation that the model does as the table says. -/
def Does (P : Program) (o : Oper) (op : AOp) : Prop :=
  ∀ (F : Fr) (H : Hp) (v : V) (H' : Hp), astep op F H = some (v, H') → ∀ (κ : K) (a : Act), Sim κ H → FR κ F a.tmps →
    ∃ κ' nx cv, κ.Le κ' ∧ Sim κ' H' ∧ VR κ' v cv ∧ (execOp a.eval o).run P κ.w = .ok nx κ'.w ∧ (nx = .value cv ∨ (nx = .skip ∧ cv = undef))

end Go.Proofs.Ytihipphpfbnknaa.Am
