/- AM, part 3: slices: their cells, append, making, freezing. -/
import Derived.Test.YtihipphpfbnknaaAm2
namespace Go.Proofs.Ytihipphpfbnknaa.Am
open Go Go.RowKit
set_option linter.unusedSimpArgs false
set_option linter.unusedVariables false

theorem flatten_get {α : Type} (sz : Nat) (hz : 0 < sz) : ∀ (es : List (List α)), (∀ e ∈ es, e.length = sz) → ∀ (q : Nat) (v : α), es.flatten[q]? = some v → ∃ e, es[q / sz]? = some e ∧ e[q % sz]? = some v
  | [], _, q, v, h => by simp at h
  | e :: es, hs, q, v, h => by
    have he := hs e (by simp)
    rw [List.flatten_cons, List.getElem?_append] at h
    by_cases hq : q < e.length
    · rw [if_pos hq] at h
      rw [he] at hq
      exact ⟨e, by rw [Nat.div_eq_of_lt hq]; rfl, by rw [Nat.mod_eq_of_lt hq]; exact h⟩
    · rw [if_neg hq, he] at h
      obtain ⟨e', h1, h2⟩ := flatten_get sz hz es (fun x hx => hs x (by simp [hx])) (q - sz) v h
      have h3 : q = (q - sz) + sz := by omega
      refine ⟨e', ?_, ?_⟩
      · rw [h3, Nat.add_div_right _ hz]; simpa using h1
      · rw [h3, Nat.add_mod_right]; exact h2
theorem flatten_length {α : Type} (sz : Nat) : ∀ (es : List (List α)), (∀ e ∈ es, e.length = sz) → es.flatten.length = es.length * sz
  | [], _ => by simp
  | e :: es, hs => by
    rw [List.flatten_cons, List.length_append, flatten_length sz es (fun x hx => hs x (by simp [hx])), hs e (by simp), List.length_cons, Nat.succ_mul, Nat.add_comm]

/-- The number of a slice's elements, and their cells. -/
def slCells (H : Hp) (sz : Nat) (x : V) : Option (Nat × List V) :=
  match x with
  | .sl none 0 _ => some (0, [])
  | .sl (some (id, off, ext)) len sz' =>
    match H.get id with
    | some (.cells cs m) => if sz' = sz ∧ m ≤ ext ∧ off + len * sz ≤ ext then some (len, (cs.drop off).take (len * sz)) else none
    | _ => none
  | .fs es => if 0 < sz ∧ es.all (fun e => e.length == sz) then some (es.length, es.flatten) else none
  | .s bs => if sz = 1 then some (bs.length, bs.map fun b => .i .u8 b.toNat) else none
  | _ => none

theorem range_getD (f : Nat → Value) (n j : Nat) (h : j < n) : ((List.range n).map f).getD j undef = f j := by simp [List.getD, h]

theorem slCells_ok {P : Program} {κ : K} {H : Hp} (S : Sim κ H) {sz : Nat} {x : V} {n : Nat} {xs : List V} (h : slCells H sz x = some (n, xs)) {cx : Value} (hx : VR κ x cx) :
    ∃ l : List Value, l.length = n * sz ∧ VRs κ xs l ∧ (∀ w, (Builtin.lenOf cx).run P w = .ok n w) ∧ (∀ w', (∀ a, w'.cell? a = κ.w.cell? a) → (Builtin.firstCells sz n cx).run P w' = .ok l.toArray w') := by
  unfold slCells at h
  split at h
  · injection h with h; injection h with h1 h2; subst h1; subst h2
    cases hx with
    | sl0 _ a => exact ⟨[], by simp, ⟨rfl, fun j v hj => by simp at hj⟩, fun w => by simp [Builtin.lenOf], fun w' _ => by cases a <;> simp [Builtin.firstCells, loadCells, loadCellsFrom]⟩
  · rename_i id off ext len sz'
    split at h
    · rename_i cs m hg
      split at h
      · rename_i hb
        injection h with h; injection h with h1 h2; subst h1; subst h2
        obtain ⟨h0, h1, h2⟩ := hb
        subst h0
        cases hx with
        | sl _ _ _ _ _ cap nn a ok hz hl hlo hhi hn hroom ha =>
          have hle := (S.ok id ext ok).2 cs m hg
          have hrd : rd H (.p (some (id, off, ext))) (len * sz') = some ((cs.drop off).take (len * sz')) := by
            simp only [rd, hg]; rw [if_pos ⟨h1, h2⟩]
          obtain ⟨ad, l, e1, e2, _, e3, e4⟩ := rd_ok S hrd (.p id off ext ok)
          injection e1 with e1; injection e1 with e1; subst e1
          refine ⟨l, e2, e3, fun w => by simp [Builtin.lenOf], fun w' hw => ?_⟩
          by_cases hc : cap = 0
          · have : len = 0 := by omega
            subst this
            have : l = [] := by cases l <;> simp at e2 ⊢
            subst this
            simp [Builtin.firstCells, loadCells, loadCellsFrom]
          · rw [ha hc]
            exact run_firstCells_some w' sz' _ _ _ _ l e2 (fun j v hj => by rw [hw]; exact e4 j v hj)
      · cases h
    · cases h
  · rename_i es
    split at h
    · rename_i hb
      injection h with h; injection h with h1 h2; subst h1; subst h2
      obtain ⟨hz, hall⟩ := hb
      have hs : ∀ e ∈ es, e.length = sz := fun e he => by simpa using List.all_eq_true.1 hall e he
      cases hx with
      | fs _ cap sz' b o a cv hc hs' hn ha hcell hv =>
        by_cases hes : es = []
        · subst hes
          refine ⟨[], by simp, ⟨rfl, fun j v hj => by simp at hj⟩, fun w => by simp [Builtin.lenOf], fun w' _ => ?_⟩
          cases a <;> simp [Builtin.firstCells, loadCells, loadCellsFrom]
        · have hss : sz' = sz := by
            cases es with
            | nil => exact absurd rfl hes
            | cons e r => rw [← hs' e (by simp), hs e (by simp)]
          subst hss
          have hfl := flatten_length sz' es hs
          obtain ⟨ha1, _⟩ := ha hes
          subst ha1
          refine ⟨(List.range (es.length * sz')).map fun q => cv (q / sz') (q % sz'), by simp, ⟨by simp [hfl], fun j v hj => ?_⟩, fun w => by simp [Builtin.lenOf], fun w' hw => ?_⟩
          · have hj' : j < es.length * sz' := by rw [← hfl]; exact (List.getElem?_eq_some_iff.1 hj).1
            rw [range_getD _ _ _ hj']
            obtain ⟨e, h1, h2⟩ := flatten_get sz' hz es hs j v hj
            exact hv _ _ e v h1 h2
          · refine run_firstCells_some w' sz' es.length ⟨b, o, none⟩ es.length cap _ (by simp) fun j v hj => ?_
            by_cases hjn : j < es.length * sz'
            · simp [hjn] at hj
              subst hj
              have : j < es.flatten.length := by rw [hfl]; exact hjn
              obtain ⟨e, h1, h2⟩ := flatten_get sz' hz es hs j _ (List.getElem?_eq_getElem this)
              have := hcell _ _ e _ h1 h2
              rw [hw, add_none]
              rw [Nat.add_assoc, show j / sz' * sz' + j % sz' = j by rw [Nat.mul_comm]; exact Nat.div_add_mod j sz'] at this
              exact this
            · simp [hjn] at hj
    · cases h
  · rename_i bs
    split at h
    · rename_i hz
      subst hz
      injection h with h; injection h with h1 h2; subst h1; subst h2
      rw [VR.inv_s hx]
      refine ⟨bs.map fun b => .int .u8 b.toNat, by simp, ⟨by simp, fun j v hj => ?_⟩, fun w => by simp [Builtin.lenOf, size_mk], fun w' _ => ?_⟩
      · simp at hj
        obtain ⟨b, hb, rfl⟩ := hj
        have : (bs.map fun b => Value.int .u8 b.toNat).getD j undef = .int .u8 b.toNat := by simp [List.getD, hb]
        rw [this]; exact .i _ _
      · simp only [Builtin.firstCells, Sem.run_pure]
        congr 1
        apply Array.ext'
        simp
    · cases h
  · cases h

/-! ### append, as the model runs it -/
structure AppT (P : Program) (sT xT e : TypeId) (i : TypeInfo) (z : Value) : Prop where
  ht : P.underlying sT = some (.slice e)
  hx : ∃ d, P.underlying xT = some d ∧ ∀ k, d ≠ .int k
  hi : P.info? e = some i
  hz : i.zero = some z
  hzs : z.cells.size = i.size

theorem append_room {P : Program} {sT xT e : TypeId} {i : TypeInfo} {z : Value} (T : AppT P sT xT e i z) {w w' : World} {ty : TypeId} {a : Addr} {sLen sCap n : Nat} {cx : Value} {l : List Value}
    (hlen : ∀ w, (Builtin.lenOf cx).run P w = .ok n w) (hfc : (Builtin.firstCells i.size n cx).run P w = .ok l.toArray w) (hroom : sLen + n ≤ sCap)
    (hst : (storeCells (a.add (sLen * i.size)) l).run P w = .ok () w') :
    (Builtin.append_ #[sT, xT] ty #[.slice (some a) sLen sCap, cx]).run P w = .ok (.slice (some a) (sLen + n) sCap) w' := by
  obtain ⟨d, hd, hk⟩ := T.hx
  have hm : (match d with | .int _ => true | _ => false) = false := by cases d <;> first | rfl | exact absurd rfl (hk _)
  simp [Builtin.append_, run_underlying T.ht, run_underlying hd, sizeOf, typeInfo, T.hi, hm, hlen, hroom, hfc, hst]

theorem append_grow {P : Program} {sT xT e : TypeId} {i : TypeInfo} {z : Value} (T : AppT P sT xT e i z) {w : World} {ty : TypeId} {base : Option Addr} {sLen sCap n : Nat} {cx : Value} {l old : List Value}
    (hlen : ∀ w, (Builtin.lenOf cx).run P w = .ok n w) (hfc : (Builtin.firstCells i.size n cx).run P w.drew = .ok l.toArray w.drew)
    (hold : (Builtin.firstCells i.size sLen (.slice base sLen sCap)).run P w.drew = .ok old.toArray w.drew) (hroom : sCap < sLen + n)
    (hb : 0 < i.bytes) (hfit : (sLen + n) * i.bytes ≤ 140737488355328) :
    ∃ c, sLen + n ≤ c ∧ (Builtin.append_ #[sT, xT] ty #[.slice base sLen sCap, cx]).run P w =
      .ok (.slice (some ⟨w.heap.size, 0, none⟩) (sLen + n) c) (w.drew.alloc (.cells (old ++ l ++ (Builtin.zeroCells z.cells (c - (sLen + n))).toList).toArray e)) := by
  obtain ⟨d, hd, hk⟩ := T.hx
  have hm : (match d with | .int _ => true | _ => false) = false := by cases d <;> first | rfl | exact absurd rfl (hk _)
  have hle : sLen + n ≤ 140737488355328 := Nat.le_trans (Nat.le_mul_of_pos_right _ hb) hfit
  have hn : ¬ (sLen + n ≤ sCap) := by omega
  have h63' : ¬ (9223372036854775807 < ((sLen : Int) + (n : Int))) := by omega
  have h48' : ¬ (281474976710656 < Builtin.nextslicecap (sLen + n) sCap * i.bytes) := by have := growslice_fits hroom hfit; omega
  have hb0 : ¬ (i.bytes = 0) := by omega
  refine ⟨grownCap w (sLen + n) sCap e, by simp [grownCap, Question.cut], ?_⟩
  simp [Builtin.append_, run_underlying T.ht, run_underlying hd, sizeOf, typeInfo, zeroValue, T.hi, T.hz, hm, hlen, hn, h63', h48', hb0, Question.forced, hfc, hold, newRow, grownCap]
  congr 2
  apply Array.ext'
  simp

/-! ### append -/
def roomB : Nat := 140737488355328
def sAppend (H : Hp) (sz bytes : Nat) (s x : V) : Option (V × Hp) :=
  match slCells H sz x with
  | none => none
  | some (n, xs) =>
    match s with
    | .sl none 0 _ => if n = 0 then some (.sl none 0 sz, H) else if n * bytes ≤ roomB then some (.sl (some (H.next, 0, xs.length)) n sz, H.add (.cells xs xs.length)) else none
    | .sl (some (id, off, ext)) len sz' =>
      match H.get id with
      | some (.cells cs m) =>
        if sz' = sz ∧ ext = cs.length ∧ (len + n) * bytes ≤ roomB ∧ xs.all isCell = true then
          if n = 0 then some (s, H)
          else if off = 0 ∧ len * sz = ext then some (.sl (some (id, 0, ext + xs.length)) (len + n) sz, H.upd id (.cells (cs ++ xs) m))
          else if off + (len + n) * sz ≤ ext then some (.sl (some (id, off, ext)) (len + n) sz, H.upd id (.cells (setAll cs (off + len * sz) xs) cs.length))
          else none
        else none
      | _ => none
    | _ => none

end Go.Proofs.Ytihipphpfbnknaa.Am
