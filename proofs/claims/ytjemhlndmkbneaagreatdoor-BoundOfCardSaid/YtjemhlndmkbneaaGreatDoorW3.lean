/- Part 3 of the proof of the laws of the queries: Am6, Am7. -/
import Derived.Test.YtjemhlndmkbneaaGreatDoorW2
namespace Go.Proofs.YtjemhlndmkbneaaGreatDoor.Am
open Go Go.RowKit
set_option linter.unusedSimpArgs false
set_option linter.unusedVariables false
inductive AOp where
  | mov (x : AO)
  | pick (c a b : AO)
  | new (zs : List V)
  | box (x : AO)
  | build (zero : List V) (parts : List (Nat × Nat × AO))
  | bsl (len : Nat) (zero : List V) (parts : List (Nat × Nat × AO))
  | bfz (len sz : Nat) (zero : List V) (parts : List (Nat × Nat × AO))
  | load (agg : Bool) (n : Nat) (a : AO)
  | store (n : Nat) (a x : AO)
  | nilc (x : AO)
  | bin (op : BinOp) (x y : AO)
  | eqk (k : EK) (neg : Bool) (x y : AO)
  | un (op : UnOp) (x : AO)
  | conv (k : IntKind) (x : AO)
  | mkfn (f : FuncId) (caps : List AO)
  | mksl (sz bytes : Nat) (zero : List V) (l c : AO)
  | slc (sz : Nat) (x : AO) (lo hi : Option AO)
  | sls (x : AO) (lo hi : Option AO)
  | fadr (off : Nat) (x : AO)
  | fld (agg : Bool) (off n : Nat) (x : AO)
  | iad (sz : Nat) (x i : AO)
  | idx (x i : AO)
  | ext (n : Nat) (x : AO)
  | len (str : Bool) (x : AO)
  | app (sz bytes : Nat) (s x : AO)
  | mx (xs : List AO)
  | mn (xs : List AO)
  | boxf (x : AO)
  | bz (sz : Nat)
  | slc0 (sz : Nat) (x : AO)
  | b2s (x : AO)
  | s2b (x : AO)
  | iadA (len sz : Nat) (x i : AO)
  | eqa (neg : Bool) (ks : List Nat) (x y : AO)
  | no
def bytesOf : List V → Option (List UInt8)
  | [] => some []
  | .i .u8 n :: r => match bytesOf r with
    | some bs => some (UInt8.ofNat n.toNat :: bs)
    | none => none
  | _ => none
def cellEq : Nat → V → V → Option Bool
  | 0, .i k a, .i k' b => if k = k' then some (a == b) else none
  | 1, .s a, .s b => some (a == b)
  | 2, .b a, .b b => some (a == b)
  | _, _, _ => none
def cellsEq : List Nat → List V → List V → Option Bool
  | [], [], [] => some true
  | q :: qs, x :: xs, y :: ys => match cellEq q x y with
    | some true => cellsEq qs xs ys
    | some false => some false
    | none => none
  | _, _, _ => none
def one (agg : Bool) (l : List V) : Option V :=
  match agg, l with
  | true, l => some (.agg l)
  | false, [v] => some v
  | _, _ => none
def swr (H : Hp) (a : V) (vs : List V) : Option Hp :=
  match a with
  | .p (some (id, off, ext)) =>
    match H.get id with
    | some (.cells cs m) => if ext = cs.length ∧ off + vs.length ≤ ext ∧ vs ≠ [] then some (H.upd id (.cells (setAll cs off vs) cs.length)) else none
    | _ => none
  | _ => none
def bound (F : Fr) (d : Int) : Option AO → Option Int
  | none => some d
  | some x => match ev F x with
    | .i _ n => some n
    | _ => none
def repl (n : Nat) (zero : List V) : List V :=
  match zero with
  | [z] => List.replicate n z
  | _ => (List.replicate n zero).flatten
def maxL : V → List V → Option V
  | .i k n, [] => some (.i k n)
  | .i k n, .i k' m :: r => maxL (.i k (max n m)) r
  | _, _ => none
def maxs : List V → Option V
  | [] => none
  | x :: r => maxL x r
def minL : V → List V → Option V
  | .i k n, [] => some (.i k n)
  | .i k n, .i k' m :: r => minL (.i k (min n m)) r
  | _, _ => none
def mins : List V → Option V
  | [] => none
  | x :: r => minL x r
def unV (op : UnOp) (x : V) : Option V :=
  match op, x with
  | .not, .b x => some (.b (!x))
  | .neg, .i k n => some (.i k (k.wrap (0 - n)))
  | .xor, .i k n => some (.i k (bXor k (if k.signed then -1 else k.max) n))
  | _, _ => none
def evp (F : Fr) (parts : List (Nat × Nat × AO)) : List (Nat × Nat × V) := parts.map fun p => (p.1, p.2.1, ev F p.2.2)
def astep (op : AOp) (F : Fr) (H : Hp) : Option (V × Hp) :=
  match op with
  | .mov x => some (ev F x, H)
  | .pick c a b => match ev F c with
    | .b x => some (if x then ev F a else ev F b, H)
    | _ => none
  | .new zs => some (.p (some (H.next, 0, zs.length)), H.add (.cells zs zs.length))
  | .box x => match cellsV (ev F x) with
    | some cs => some (.p (some (H.next, 0, cs.length)), H.add (.cells cs cs.length))
    | none => none
  | .build zero parts => match fillV zero (evp F parts) with
    | some cs => some (.agg cs, H)
    | none => none
  | .bsl len zero parts => match fillV (repl len zero) (evp F parts) with
    | some cs => some (.sl (some (H.next, 0, cs.length)) len zero.length, H.add (.cells cs cs.length))
    | none => none
  | .bfz len sz zero parts => match fillV (repl len zero) (evp F parts) with
    | some cs => some (.fs ((List.range len).map fun i => (cs.drop (i * sz)).take sz), H)
    | none => none
  | .load agg n a => match rd H (ev F a) n with
    | some vs => (one agg vs).map fun v => (v, H)
    | none => none
  | .store n a x => match cellsV (ev F x) with
    | some vs => if vs.length = n then (swr H (ev F a) vs).map fun H' => (.junk, H') else none
    | none => none
  | .nilc x => match ev F x with
    | .p (some a) => some (.p (some a), H)
    | .fp cs o => some (.fp cs o, H)
    | .fn f cs => some (.fn f cs, H)
    | .ifc t v => some (.ifc t v, H)
    | _ => none
  | .bin op x y => (binV op (ev F x) (ev F y)).map fun v => (v, H)
  | .eqk k neg x y => (eqK k (ev F x) (ev F y)).map fun r => (.b (if neg then !r else r), H)
  | .un op x => (unV op (ev F x)).map fun v => (v, H)
  | .conv k x => match ev F x with
    | .i _ n => some (.i k (k.wrap n), H)
    | _ => none
  | .mkfn f caps => some (.fn f (evs F caps), H)
  | .mksl sz bytes zero l c => match ev F l, ev F c with
    | .i _ n, .i _ m => if 0 ≤ n ∧ n ≤ m ∧ m * bytes ≤ roomB ∧ 0 < bytes ∧ 0 < sz ∧ zero.length = sz then
        some (.sl (some (H.next, 0, n.toNat * sz)) n.toNat sz, H.add (.cells (repl n.toNat zero) (n.toNat * sz))) else none
    | _, _ => none
  | .slc sz x lo hi => match ev F x with
    | .sl none 0 _ => match bound F 0 lo, bound F 0 hi with
      | some l, some h => if l = 0 ∧ h = 0 then some (.sl none 0 sz, H) else none
      | _, _ => none
    | .sl (some (id, off, ext)) len sz' => match bound F 0 lo, bound F len hi with
      | some l, some h => if sz' = sz ∧ 0 ≤ l ∧ l ≤ h ∧ off + h.toNat * sz ≤ ext then some (.sl (some (id, off + l.toNat * sz, ext)) (h.toNat - l.toNat) sz, H) else none
      | _, _ => none
    | .fs es => match bound F 0 lo, bound F es.length hi with
      | some l, some h => if 0 ≤ l ∧ l ≤ h ∧ h ≤ es.length ∧ es.all (fun e => e.length == sz) then some (.fs ((es.take h.toNat).drop l.toNat), H) else none
      | _, _ => none
    | _ => none
  | .sls x lo hi => match ev F x with
    | .s bs => match bound F 0 lo, bound F bs.length hi with
      | some l, some h => if 0 ≤ l ∧ l ≤ h ∧ h ≤ bs.length then some (.s ((bs.take h.toNat).drop l.toNat), H) else none
      | _, _ => none
    | _ => none
  | .fadr off x => match ev F x with
    | .p (some (id, o, ext)) => some (.p (some (id, o + off, ext)), H)
    | .fp cs o => some (.fp cs (o + off), H)
    | _ => none
  | .fld agg off n x => match ev F x with
    | .agg cs => if off + n ≤ cs.length then (one agg ((cs.drop off).take n)).map fun v => (v, H) else none
    | _ => none
  | .iad sz x i => match ev F i with
    | .i _ n => match ev F x with
      | .sl (some (id, off, ext)) len sz' => if sz' = sz ∧ 0 ≤ n ∧ n < len then some (.p (some (id, off + n.toNat * sz, ext)), H) else none
      | .fs es => if 0 ≤ n then match es[n.toNat]? with
          | some e => if e.length = sz then some (.fp e 0, H) else none
          | none => none
        else none
      | _ => none
    | _ => none
  | .idx x i => match ev F x, ev F i with
    | .s bs, .i _ n => if 0 ≤ n then match bs[n.toNat]? with
        | some b => some (.i .u8 b.toNat, H)
        | none => none
      else none
    | _, _ => none
  | .ext n x => match ev F x with
    | .tup vs => match vs[n]? with
      | some v => some (v, H)
      | none => none
    | _ => none
  | .len str x => match str, ev F x with
    | true, .s bs => some (.i .i64 bs.length, H)
    | false, .sl _ n _ => some (.i .i64 n, H)
    | false, .fs es => some (.i .i64 es.length, H)
    | _, _ => none
  | .app sz bytes s x => sAppend H sz bytes (ev F s) (ev F x)
  | .mx xs => (maxs (evs F xs)).map fun v => (v, H)
  | .mn xs => (mins (evs F xs)).map fun v => (v, H)
  | .boxf x => match cellsV (ev F x) with
    | some cs => some (.fp cs 0, H)
    | none => none
  | .bz sz => some (.sl none 0 sz, H)
  | .slc0 sz x => match ev F x with
    | .sl none 0 _ | .sl (some _) _ _ | .fs _ => some (.sl none 0 sz, H)
    | _ => none
  | .b2s x => match slCells H 1 (ev F x) with
    | some (_, cs) => match ev F x with
      | .s _ => none
      | _ => (bytesOf cs).map fun bs => (.s bs, H)
    | none => none
  | .s2b x => match ev F x with
    | _ => none
  | .iadA len sz x i => match ev F i with
    | .i _ n => if 0 ≤ n ∧ n < len then match ev F x with
        | .p (some (id, off, ext)) => some (.p (some (id, off + n.toNat * sz, ext)), H)
        | .fp cs off => some (.fp cs (off + n.toNat * sz), H)
        | _ => none
      else none
    | _ => none
  | .no => none
  | .eqa neg ks x y => match ev F x, ev F y with
    | .agg xs, .agg ys => (cellsEq ks xs ys).map fun r => (.b (if neg then !r else r), H)
    | _, _ => none
def szP (P : Program) (t : TypeId) : Option Nat := (P.info? t).map (·.size)
def aggP (P : Program) (t : TypeId) : Option Bool := (P.underlying t).map fun | .struct _ | .array _ _ => true | _ => false
def zeroP (P : Program) (t : TypeId) : Option (List Value) := ((P.info? t).bind (·.zero)).map fun z => z.cells.toList
def elemP (P : Program) (t : TypeId) : Option TypeId := match P.underlying t with | some (.slice e) => some e | _ => none
def zOk (P : Program) (t : TypeId) (zs : List V) : Bool := match zeroP P t with | some cs => isVs cs zs | none => false
def optOk : Option Operand → Option AO → Bool
  | none, none => true
  | some o, some x => okAO o x
  | _, _ => false
def places (P : Program) (t : TypeId) : Option (Nat → Option (Nat × Nat)) :=
  match P.underlying t with
  | some (.struct fs) => match fs.toList.mapM (fun f => (P.info? f.type).map fun i => (f.offset, i.size)) with
    | some ps => some (ps.toArray[·]?)
    | none => none
  | some (.array _ e) => match szP P e with
    | some n => some fun i => some (i * n, n)
    | none => none
  | _ => none
def partsOk (place : Nat → Option (Nat × Nat)) : List (Nat × Operand) → List (Nat × Nat × AO) → Bool
  | [], [] => true
  | (i, o) :: ps, (off, n, x) :: qs => place i == some (off, n) && okAO o x && partsOk place ps qs
  | _, _ => false
def ekC (k : EK) (o : Operand) : Bool := match k with | .ifn => isC o | _ => true
def eqkP (P : Program) (k : EK) (t : TypeId) : Bool := match P.underlying t with | some d => k.fits d | none => false
def isIntT : TypeDesc → Bool | .int _ => true | _ => false
def appP (P : Program) (sz bytes : Nat) (ts : List TypeId) : Bool :=
  match ts with
  | [sT, xT] =>
    match P.underlying sT, P.underlying xT with
    | some (.slice e), some d => !isIntT d && (match P.info? e with
      | some i => i.size == sz && i.bytes == bytes && decide (0 < sz) && decide (0 < bytes) && (match i.zero with | some z => z.cells.size == sz | none => false)
      | none => false)
    | _, _ => false
  | _ => false
def lenT : Bool → TypeDesc → Bool | true, .string => true | false, .slice _ => true | _, _ => false
def scalarT (P : Program) (t : TypeId) : Nat → Bool
  | 0 => (match P.underlying t with | some (.int _) => true | _ => false)
  | 1 => (match P.underlying t with | some .string => true | _ => false)
  | 2 => (match P.underlying t with | some .bool => true | _ => false)
  | _ => false
def flatFs (P : Program) : Nat → List Field → List Nat → Bool
  | _, [], [] => true
  | k, f :: fs, q :: qs => f.name != "_" && f.offset == k && scalarT P f.type q && flatFs P (k + 1) fs qs
  | _, _, _ => false
def flatP (P : Program) (t : TypeId) (ks : List Nat) : Bool := match P.underlying t with
  | some (.struct fs) => flatFs P 0 fs.toList ks && !P.stoodInHeld t && !P.eqGuardType P.depth t
  | _ => false
def okOp (P : Program) (o : Op) (a : AOp) : Bool :=
  match o, a with
  | .move x, .mov y | .assign x, .mov y => okAO x y
  | .pick c x y, .pick c' x' y' => okAO c c' && okAO x x' && okAO y y'
  | .alloc e, .new zs => zOk P e zs && zs.all isCell && szP P e == some zs.length
  | .box e x, .box y => okAO x y
  | .build t ps, .build zero qs => zOk P t zero && (match places P t with | some pl => partsOk pl ps.toList qs | none => false)
  | .buildSlice t n ps, .bsl n' zero qs => n == n' && decide (0 < zero.length) && decide (n * zero.length ≤ 2 ^ 24) && (match elemP P t with
    | some e => zOk P e zero && szP P e == some zero.length && partsOk (fun i => some (i * zero.length, zero.length)) ps.toList qs
    | none => false)
  | .buildSlice t n ps, .bfz n' sz zero qs => n == n' && sz == zero.length && decide (0 < sz) && decide (n * sz ≤ 2 ^ 24) && (match elemP P t with
    | some e => zOk P e zero && szP P e == some sz && partsOk (fun i => some (i * sz, sz)) ps.toList qs
    | none => false)
  | .load t x, .load agg n y => okAO x y && aggP P t == some agg && (if agg then szP P t == some n else n == 1)
  | .store t x v, .store n x' v' => okAO x x' && okAO v v' && szP P t == some n
  | .nilCheck x, .nilc y => okAO x y
  | .binOp op t x y _, .bin op' x' y' => decide (op = op') && okAO x x' && okAO y y'
  | .binOp op t x y _, .eqk k neg x' y' => decide (op = if neg then .neq else .eql) && eqkP P k t && okAO x x' && okAO y y' && ekC k y
  | .unOp op _ x, .un op' y => decide (op = op') && okAO x y
  | .convert s d x, .conv k y => okAO x y && (match P.underlying s, P.underlying d with | some _, some (.int k') => decide (k = k') | _, _ => false)
  | .makeFunc (.func f) first caps, .mkfn g xs => f == g && first.isEmpty && okAOs caps.toList xs
  | .makeSlice t l c, .mksl sz bytes zero l' c' => okAO l l' && okAO c c' && (match elemP P t with
    | some e => zOk P e zero && (match P.info? e with | some i => i.size == sz && i.bytes == bytes | none => false)
    | none => false)
  | .slice t x lo hi none, .slc sz y lo' hi' => okAO x y && optOk lo lo' && optOk hi hi' && decide (0 < sz) && (match elemP P t with | some e => szP P e == some sz | none => false)
  | .slice t x lo hi none, .sls y lo' hi' => okAO x y && optOk lo lo' && optOk hi hi' && (match P.underlying t with | some .string => true | _ => false)
  | .fieldAddr t x f, .fadr off y => okAO x y && (match P.underlying t with
    | some (.struct fs) => (match fs[f]? with | some fd => fd.offset == off && (match szP P fd.type with | some n => decide (0 < n) | none => false) | none => false)
    | _ => false)
  | .field t x f, .fld agg off n y => okAO x y && (match P.underlying t with
    | some (.struct fs) => (match fs[f]? with | some fd => fd.offset == off && aggP P fd.type == some agg && (if agg then szP P fd.type == some n else n == 1) | none => false)
    | _ => false)
  | .indexAddr t x i, .iad sz y j => okAO x y && okAO i j && (match elemP P t with | some e => szP P e == some sz | none => false)
  | .index t x i, .idx y j => okAO x y && okAO i j && (match P.underlying t with | some .string => true | _ => false)
  | .extract x n, .ext m y => n == m && okAO x y
  | .call ⟨.builtin .len, args, ts⟩, .len str y => (match args.toList, ts.toList with
    | [x], [t] => okAO x y && (match P.underlying t with | some d => lenT str d | none => false)
    | _, _ => false)
  | .call ⟨.builtin .append, args, ts⟩, .app sz bytes s y => (match args.toList with
    | [a, b] => okAO a s && okAO b y && appP P sz bytes ts.toList
    | _ => false)
  | .box e x, .boxf y => okAO x y
  | .buildSlice t n ps, .bz sz => n == 0 && ps.isEmpty && (match elemP P t with | some e => (szP P e).isSome | none => false)
  | .slice t x lo (some (.const (.int k 0))) (some (.const (.int k' 0))), .slc0 sz y => okAO x y && lo.isNone && (match elemP P t with | some e => szP P e == some sz | none => false)
  | .convert s d x, .b2s y => okAO x y && (match P.underlying s, P.underlying d with
    | some (.slice e), some .string => (match P.underlying e with | some (.int .u8) => true | _ => false)
    | _, _ => false)
  | .convert s d x, .s2b y => okAO x y && (match P.underlying s, P.underlying d with
    | some .string, some (.slice e) => (match P.underlying e with | some (.int .u8) => true | _ => false)
    | _, _ => false)
  | .indexAddr t x i, .iadA len sz y j => okAO x y && okAO i j && (match P.underlying t with
    | some (.array n e) => n == len && szP P e == some sz
    | _ => false)
  | .call ⟨.builtin .max, args, _⟩, .mx xs => okAOs args.toList xs
  | .call ⟨.builtin .min, args, _⟩, .mn xs => okAOs args.toList xs
  | .binOp op t x y _, .eqa neg ks x' y' => decide (op = if neg then .neq else .eql) && flatP P t ks && okAO x x' && okAO y y'
  | .makeInterface _ _, .no => true
  | .panic _, .no => true
  | _, _ => false
def Does (P : Program) (o : Oper) (op : AOp) : Prop :=
  ∀ (F : Fr) (H : Hp) (v : V) (H' : Hp), astep op F H = some (v, H') → ∀ (κ : K) (a : Act), Sim κ H → FR κ F a.tmps →
    ∃ κ' nx cv, κ.Le κ' ∧ Sim κ' H' ∧ VR κ' v cv ∧ (execOp a.eval o).run P κ.w = .ok nx κ'.w ∧ (nx = .value cv ∨ (nx = .skip ∧ cv = undef))
end Go.Proofs.YtjemhlndmkbneaaGreatDoor.Am
namespace Go.Proofs.YtjemhlndmkbneaaGreatDoor.Am
open Go Go.RowKit
set_option linter.unusedSimpArgs false
set_option linter.unusedVariables false
theorem Does.still {P : Program} {o : Oper} {κ : K} {H : Hp} (S : Sim κ H) {a : Act} {v : V} {cv : Value} (hv : VR κ v cv) (hr : (execOp a.eval o).run P κ.w = .ok (.value cv) κ.w) :
    ∃ κ' nx cv, κ.Le κ' ∧ Sim κ' H ∧ VR κ' v cv ∧ (execOp a.eval o).run P κ.w = .ok nx κ'.w ∧ (nx = .value cv ∨ (nx = .skip ∧ cv = undef)) :=
  ⟨κ, _, cv, .refl κ, S, hv, hr, .inl rfl⟩
theorem run_isAgg' {P : Program} {t : TypeId} {b : Bool} (h : aggP P t = some b) (w : World) : (isAgg t).run P w = .ok b w := by
  unfold aggP at h
  cases hu : P.underlying t with
  | none => simp [hu] at h
  | some d =>
    simp only [hu, Option.map_some] at h
    injection h with h
    simp only [isAgg, Sem.run_bind, run_underlying hu, Result.andThen_ok]
    subst h
    cases d <;> rfl
theorem run_sizeOf' {P : Program} {t : TypeId} {n : Nat} (h : szP P t = some n) (w : World) : (sizeOf t).run P w = .ok n w := by
  unfold szP at h
  cases hi : P.info? t with
  | none => simp [hi] at h
  | some i => simp [hi] at h; simp [sizeOf, typeInfo, hi, h]
theorem run_zero' {P : Program} {t : TypeId} {cs : List Value} (h : zeroP P t = some cs) (w : World) : ∃ z, z.cells.toList = cs ∧ (zeroValue t).run P w = .ok z w := by
  unfold zeroP at h
  cases hi : P.info? t with
  | none => simp [hi] at h
  | some i =>
    cases hz : i.zero with
    | none => simp [hi, hz] at h
    | some z => simp [hi, hz] at h; exact ⟨z, h, by simp [zeroValue, typeInfo, hi, hz]⟩
theorem zOk_ok {P : Program} {t : TypeId} {zs : List V} (h : zOk P t zs = true) : ∃ cs, zeroP P t = some cs ∧ ∀ κ, VRs κ zs cs := by
  unfold zOk at h
  split at h
  · rename_i cs hcs; exact ⟨cs, hcs, fun κ => isVs_ok h κ⟩
  · cases h
theorem elemP_ok {P : Program} {t : TypeId} {e : TypeId} (h : elemP P t = some e) : P.underlying t = some (.slice e) := by
  unfold elemP at h
  split at h
  · injection h with h; subst h; assumption
  · cases h
theorem VRs.one {κ : K} {v : V} {cs : List Value} (h : VRs κ [v] cs) : ∃ c, cs = [c] ∧ VR κ v c := by
  obtain ⟨hl, hv⟩ := h
  cases cs with
  | nil => simp at hl
  | cons c r =>
    cases r with
    | nil => exact ⟨c, rfl, by simpa using hv 0 v rfl⟩
    | cons _ _ => simp at hl
theorem VRs.sub {κ : K} {vs : List V} {cs : List Value} (h : VRs κ vs cs) (a n : Nat) : VRs κ ((vs.drop a).take n) ((cs.drop a).take n) := by
  refine .of_get (by simp [h.1]) fun j v hj => ?_
  rw [List.getElem?_take] at hj ⊢
  split at hj
  · rename_i hlt
    rw [if_pos hlt]
    rw [List.getElem?_drop] at hj ⊢
    exact h.get hj
  · cases hj
section
variable {P : Program} {dst : Option Tmp} {type : TypeId} {pos : String} {after : Array Edge} {guard : Option (Nat × Bool)}
theorem does_mov {x : Operand} {y : AO} (h : okAO x y = true) : Does P ⟨dst, .move x, type, pos, after, guard⟩ (.mov y) ∧ Does P ⟨dst, .assign x, type, pos, after, guard⟩ (.mov y) := by
  constructor <;> intro F H v H' hs κ a S r <;> simp only [astep] at hs <;> injection hs with hs <;> injection hs with h1 h2 <;> subst h1 <;> subst h2 <;>
    exact Does.still S (okAO_ok h r) rfl
theorem does_pick {c x y : Operand} {c' x' y' : AO} (hc : okAO c c' = true) (hx : okAO x x' = true) (hy : okAO y y' = true) : Does P ⟨dst, .pick c x y, type, pos, after, guard⟩ (.pick c' x' y') := by
  intro F H v H' hs κ a S r
  simp only [astep] at hs
  have rc := okAO_ok hc r
  split at hs
  · rename_i b hb
    injection hs with hs; injection hs with h1 h2; subst h1; subst h2
    rw [hb] at rc
    refine Does.still (cv := if b then a.eval x else a.eval y) S ?_ ?_
    · cases b
      · exact okAO_ok hy r
      · exact okAO_ok hx r
    · simp only [execOp, VR.inv_b rc, asBool, Sem.run_bind, Sem.run_pure, Result.andThen_ok]
  · cases hs
theorem new_ok {κ : K} {H : Hp} (S : Sim κ H) {zs : List V} {cs : List Value} (hv : VRs κ zs cs) (e : TypeId) :
    κ.Le (κ.new H.next zs.length (.cells cs.toArray e (0, 0))) ∧ Sim (κ.new H.next zs.length (.cells cs.toArray e (0, 0))) (H.add (.cells zs zs.length)) ∧
    VR (κ.new H.next zs.length (.cells cs.toArray e (0, 0))) (.p (some (H.next, 0, zs.length))) (.pointer (some ⟨κ.w.heap.size, 0, none⟩)) := by
  refine ⟨K.new_le S _ _, S.new zs cs.toArray e (by simp [hv.1]) (fun j v hj => ?_), ?_⟩
  · have := hv.2 j v hj
    simpa [Array.getD_eq_getD_getElem?, List.getD] using this
  · have := VR.p (κ := κ.new H.next zs.length (.cells cs.toArray e (0, 0))) H.next 0 zs.length (K.new_ok _ _ _ _ (Nat.le_refl _))
    rw [K.new_pl] at this
    exact this
theorem does_new {e : TypeId} {zs : List V} (h : zOk P e zs = true) : Does P ⟨dst, .alloc e, type, pos, after, guard⟩ (.new zs) := by
  intro F H v H' hs κ a S r
  simp only [astep] at hs
  injection hs with hs; injection hs with h1 h2; subst h1; subst h2
  obtain ⟨cs, hz, hv⟩ := zOk_ok h
  obtain ⟨z, hzc, hrun⟩ := run_zero' hz κ.w
  obtain ⟨le, S', r'⟩ := new_ok S (hv κ) e
  refine ⟨_, _, _, le, S', r', ?_, .inl rfl⟩
  have : z.cells = cs.toArray := by rw [← hzc]
  simp only [execOp, Instr.alloc, Sem.run_bind, hrun, Result.andThen_ok, newVar, newRow, this, run_newObj, Sem.run_pure]
  rfl
theorem does_box {e : TypeId} {x : Operand} {y : AO} (h : okAO x y = true) : Does P ⟨dst, .box e x, type, pos, after, guard⟩ (.box y) := by
  intro F H v H' hs κ a S r
  simp only [astep] at hs
  split at hs
  · rename_i cs hcs
    injection hs with hs; injection hs with h1 h2; subst h1; subst h2
    obtain ⟨hv, _⟩ := cellsV_ok hcs (okAO_ok h r)
    obtain ⟨le, S', r'⟩ := new_ok S hv e
    refine ⟨_, _, _, le, S', r', ?_, .inl rfl⟩
    simp only [execOp, Instr.box, Sem.run_bind, newVar, newRow, run_newObj, Sem.run_pure, Result.andThen_ok]
    simp
    rfl
  · cases hs
theorem partsOk_ok {place : Nat → Option (Nat × Nat)} {κ : K} {F : Fr} {a : Act} (r : FR κ F a.tmps) : ∀ {ps : List (Nat × Operand)} {qs : List (Nat × Nat × AO)}, partsOk place ps qs = true →
    (ps.map fun p => (p.1, a.eval p.2)).length = (evp F qs).length ∧
    ∀ (j : Nat) (p : Nat × Value) (q : Nat × Nat × V), (ps.map fun p => (p.1, a.eval p.2))[j]? = some p → (evp F qs)[j]? = some q → place p.1 = some (q.1, q.2.1) ∧ VR κ q.2.2 p.2
  | [], [], _ => ⟨rfl, fun j p q h => by simp at h⟩
  | (i, o) :: ps, (off, n, x) :: qs, h => by
    simp only [partsOk, Bool.and_eq_true, beq_iff_eq] at h
    obtain ⟨⟨h1, h2⟩, h3⟩ := h
    obtain ⟨hl, hr⟩ := partsOk_ok r h3
    refine ⟨by simpa [evp] using hl, fun j p q hp hq => ?_⟩
    cases j with
    | zero =>
      simp at hp; simp [evp] at hq
      subst hp; subst hq
      exact ⟨h1, okAO_ok h2 r⟩
    | succ j => exact hr j p q (by simpa using hp) (by simpa [evp] using hq)
  | [], _ :: _, h => by cases h
  | _ :: _, [], h => by cases h
theorem does_build {t : TypeId} {ps : Array (Nat × Operand)} {zero : List V} {qs : List (Nat × Nat × AO)} (hz : zOk P t zero = true)
    (hp : (match places P t with | some pl => partsOk pl ps.toList qs | none => false) = true) : Does P ⟨dst, .build t ps, type, pos, after, guard⟩ (.build zero qs) := by
  intro F H v H' hs κ a S r
  simp only [astep] at hs
  split at hs
  · rename_i cs hcs
    injection hs with hs; injection hs with h1 h2; subst h1; subst h2
    split at hp
    · rename_i pl hpl
      obtain ⟨zcs, hzz, hv⟩ := zOk_ok hz
      obtain ⟨hl, hr⟩ := partsOk_ok r hp
      obtain ⟨z, hzc, _⟩ := run_zero' hzz κ.w
      have hvz : VRs κ zero z.cells.toList := by rw [hzc]; exact hv κ
      obtain ⟨cells, e1, e2⟩ := fillV_ok pl _ _ z.cells zero cs hvz hl hr hcs
      refine Does.still S (VR.agg' e2) ?_
      have hbuilt : P.built t (ps.map fun (i, x) => (i, a.eval x)).toList = some cells := by
        unfold zeroP at hzz
        unfold Program.built
        unfold places at hpl
        cases hi : P.info? t with
        | none => simp [hi] at hzz
        | some it =>
          cases hz0 : it.zero with
          | none => simp [hi, hz0] at hzz
          | some z0 =>
            have hzeq : z0.cells = z.cells := by
              simp [hi, hz0] at hzz
              apply Array.ext'
              rw [hzc, ← hzz]
            cases hu : P.underlying t with
            | none => simp [hu] at hpl
            | some d =>
              simp only [hu] at hpl
              cases d <;> try (simp at hpl; done)
              case array n e =>
                simp only at hpl
                cases hie : P.info? e with
                | none => simp [szP, hie] at hpl
                | some ie =>
                  simp only [szP, hie, Option.map_some] at hpl
                  injection hpl with hpl; subst hpl
                  simp only [hz0, hie, hzeq]
                  simpa using e1
              case struct fields =>
                simp only at hpl
                split at hpl
                · rename_i pls hpls
                  injection hpl with hpl; subst hpl
                  simp only [hz0, hpls, hzeq]
                  simpa using e1
                · cases hpl
      simp only [execOp, Sem.run_bind, run_build κ.w t _ cells hbuilt, Result.andThen_ok, Sem.run_pure]
    · cases hp
  · cases hs
theorem does_load {t : TypeId} {x : Operand} {agg : Bool} {n : Nat} {y : AO} (hx : okAO x y = true) (ha : aggP P t = some agg) (hn : (if agg then szP P t == some n else n == 1) = true) :
    Does P ⟨dst, .load t x, type, pos, after, guard⟩ (.load agg n y) := by
  intro F H v H' hs κ a S r
  simp only [astep] at hs
  split at hs
  · rename_i vs hrd
    cases ho : one agg vs with
    | none => simp [ho] at hs
    | some u =>
      simp [ho] at hs
      obtain ⟨h1, h2⟩ := hs; subst h1; subst h2
      obtain ⟨ad, l, e1, e2, e2', e3, e4⟩ := rd_ok S hrd (okAO_ok hx r)
      have hagg := run_isAgg' ha κ.w
      cases agg with
      | true =>
        simp only [one] at ho; injection ho with ho; subst ho
        simp at hn
        have hsz := run_sizeOf' hn κ.w
        refine Does.still S (VR.agg vs l e3.1 e3.2) ?_
        have hl := run_loadCells_list (P := P) κ.w ad l e4
        rw [e2] at hl
        simp only [execOp, Instr.loadAt, Instr.sureAddr, loadVar, e1, Sem.run_bind, Sem.run_pure, Result.andThen_ok, hagg, if_true, hsz, hl]
      | false =>
        simp at hn; subst hn
        cases vs with
        | nil => simp at e2'
        | cons u1 rest =>
          cases rest with
          | cons _ _ => simp at e2'
          | nil =>
            simp only [one] at ho; injection ho with ho; subst ho
            obtain ⟨c, rfl, hc⟩ := e3.one
            refine Does.still S hc ?_
            have := e4 0 c rfl
            rw [show ad.add 0 = ad from by simp [Addr.add]] at this
            simp only [execOp, Instr.loadAt, Instr.sureAddr, loadVar, e1, Sem.run_bind, Sem.run_pure, Result.andThen_ok, hagg, Bool.false_eq_true, if_false, run_load, this]
  · cases hs
theorem does_store {t : TypeId} {x y : Operand} {n : Nat} {x' y' : AO} (hx : okAO x x' = true) (hy : okAO y y' = true) (hn : szP P t = some n) :
    Does P ⟨dst, .store t x y, type, pos, after, guard⟩ (.store n x' y') := by
  intro F H v H' hs κ a S r
  simp only [astep] at hs
  split at hs
  · rename_i vs hvs
    split at hs
    · rename_i hlen
      obtain ⟨hv, hcell⟩ := cellsV_ok hvs (okAO_ok hy r)
      have hxa := okAO_ok hx r
      unfold swr at hs
      split at hs
      · rename_i id off ext hpx
        rw [hpx] at hxa
        split at hs
        · rename_i cs m hg
          split at hs
          · rename_i hc
            obtain ⟨h1, h2, h3⟩ := hc
            subst h1
            simp at hs
            obtain ⟨q1, q2⟩ := hs; subst q1; subst q2
            cases hxa' : a.eval x with
            | pointer ad =>
              rw [hxa'] at hxa
              cases hxa with
              | p _ _ _ ok =>
                obtain ⟨κ', le, S', run, pl', ok'⟩ := Sim.setAll_ok (P := P) vs _ S hg (fun e => absurd e h3) (off := off) (i := 0) (by simpa using h2) (fun u hu => List.all_eq_true.1 hcell u hu) hv
                refine ⟨κ', .skip, undef, le, by simpa using S', .junk _, ?_, .inr ⟨rfl, rfl⟩⟩
                have hcs : (a.eval y).cells.size = n := by have := hv.1; simp at this; omega
                simp only [execOp, Instr.storeAt, Instr.sureAddr, hxa', storeVar, Sem.run_bind, Sem.run_pure, Result.andThen_ok, run_sizeOf' hn κ.w, hcs, ne_eq, not_true_eq_false, if_false, run]
            | _ => rw [hxa'] at hxa; cases hxa
          · simp at hs
        · simp at hs
      · simp at hs
    · cases hs
  · cases hs
end
end Go.Proofs.YtjemhlndmkbneaaGreatDoor.Am
