/- AM, part 20: what a call made and nobody holds is gone behind it. -/
import Derived.Test.YtihipphpfbnknaaAm19
namespace Go.Proofs.Ytihipphpfbnknaa.Am
open Go Go.RowKit
set_option linter.unusedSimpArgs false
set_option linter.unusedVariables false

def okH (H : Hp) (id e : Nat) : Prop := id < H.next ∧ ∀ cs m, H.get id = some (.cells cs m) → e ≤ cs.length

/-- H1 is what is left of H', once the new is gone; what stood in H stands as it did, or its numbers are good. -/
structure Trim (H H' H1 : Hp) : Prop where
  lo : H.next ≤ H1.next
  hi : H1.next ≤ H'.next
  get : ∀ id blk, H1.get id = some blk → id < H1.next ∧ H'.get id = some blk
  cells : ∀ id cs m, H1.get id = some (.cells cs m) → (∃ m', H.get id = some (.cells cs m')) ∨ ∀ v ∈ cs, Okv (okH H1) v
  maps : ∀ id es, H1.get id = some (.map es) → H.get id = some (.map es) ∨ ∀ k v, (k, v) ∈ es → Okv (okH H1) k ∧ Okv (okH H1) v

theorem AC.trim {P : Program} {f : FuncId} {args : List V} {H : Hp} {R R' : V → Hp → Prop} (h : AC P f args H R') (hr : ∀ v H', R' v H' → ∃ H1, Trim H H' H1 ∧ Okv (okH H1) v ∧ R v H1) : AC P f args H R :=
  ⟨h.1, fun κ cs S r => (h.2 κ cs S r).mono fun e w' ⟨κ', v, cv, H', he, hw, le, S', rv, q⟩ => by
    obtain ⟨H1, T, ov, hR⟩ := hr v H' q
    let ok2 : Nat → Nat → Prop := fun id e => κ'.ok id e ∧ okH H1 id e
    have okle : ∀ id e, κ.ok id e → ok2 id e := fun id e o => by
      have o1 := (S.ok id e o).1
      have o3 := (le.ok id e o).1
      have o2 := (S'.ok id e o3).2
      exact ⟨o3, Nat.lt_of_lt_of_le o1 T.lo, fun cs m hg => o2 cs m (T.get id _ hg).2⟩
    have le2 : κ.Le { κ' with ok := ok2, hole := κ.hole } := ⟨fun id e o => ⟨okle id e o, (le.ok id e o).2⟩, le.fz, le.ic, le.icn, le.n, le.size, le.os, le.tape, le.output, fun id h => ⟨h, fun e o => (le.hole id h).2 e o.1⟩⟩
    refine ⟨{ κ' with ok := ok2, hole := κ.hole }, v, cv, H1, he, hw, le2, ⟨fun id e o => o.2, fun id ho => ?_, fun id blk hg => (T.get id blk hg).1, S'.fz, S'.ic, fun id cs m hg => S'.le id cs m (T.get id _ hg).2, fun id cs m hg e h1 h2 => ?_, fun id es hg => ?_,
      fun id id' e e' cs m cs' m' h1 h2 => S'.sep id id' e e' cs m cs' m' (T.get id _ h1).2 (T.get id' _ h2).2, fun id cs m e e' h1 => S'.base id cs m e e' (T.get id _ h1).2,
      fun id id' es es' h1 h2 => S'.sepm id id' es es' (T.get id _ h1).2 (T.get id' _ h2).2⟩, (rv.reok2 _ ov), hR⟩
    · obtain ⟨_, g2⟩ := S'.hole id (le.hole id ho).1
      refine ⟨Nat.lt_of_lt_of_le (S.hole id ho).1 T.lo, ?_⟩
      cases hh : H1.get id with
      | none => rfl
      | some blk => have := (T.get id blk hh).2; rw [g2] at this; cases this
    · obtain ⟨⟨arr, t, fr, hb, hs, hv, hf⟩, hz⟩ := S'.cells id cs m (T.get id _ hg).2 e h1 h2
      exact ⟨⟨arr, t, fr, hb, hs, fun j u hj hu => by
        rcases T.cells id cs m hg with ⟨m', ho⟩ | ho
        · obtain ⟨⟨arr0, t0, fr0, hb0, hs0, hv0, hf0⟩, hz0⟩ := S.cells id cs m' ho cs.length (S.le _ _ _ ho) (Nat.le_refl _)
          have hjl := (List.getElem?_eq_some_iff.1 hu).1
          have := (hv0 j u hjl hu).okv.mono okle
          exact (hv j u hj hu).reok κ.hole this
        · exact (hv j u hj hu).reok2 _ (ho u (List.mem_of_getElem? hu)), hf⟩, hz⟩
    · obtain ⟨⟨arr, c, hb, hs, hv⟩, hz⟩ := S'.maps id es (T.get id _ hg).2
      exact ⟨⟨arr, c, hb, hs, fun j k u hj => by
        obtain ⟨en, a1, a2, a3⟩ := hv j k u hj
        rcases T.maps id es hg with ho | ho
        · obtain ⟨⟨arr0, c0, hb0, hs0, hv0⟩, hz0⟩ := S.maps id es ho
          obtain ⟨en0, b1, b2, b3⟩ := hv0 j k u hj
          exact ⟨en, a1, a2.reok κ.hole (b2.okv.mono okle), a3.reok κ.hole (b3.okv.mono okle)⟩
        · obtain ⟨g1, g2⟩ := ho k u (List.mem_of_getElem? hj)
          exact ⟨en, a1, a2.reok2 _ g1, a3.reok2 _ g2⟩⟩, hz⟩⟩

/-- A value that leads to no block. -/
def free : V → Prop := Okv (fun _ _ => False)
theorem free.ok {v : V} (h : free v) (ok : Nat → Nat → Prop) : Okv ok v := Okv.mono (fun _ _ h => h.elim) h

/-- A call that leaves the heap as it was, but for what is new. -/
theorem AC.clean {P : Program} {f : FuncId} {args : List V} {H : Hp} {v : V} (hf : free v) (h : AC P f args H (fun r H' => r = v ∧ H.next ≤ H'.next ∧ ∀ id blk, H.get id = some blk → H'.get id = some blk)) (hn : ∀ id blk, H.get id = some blk → id < H.next) :
    AC P f args H (fun r H' => r = v ∧ H' = H) :=
  h.trim fun r H' ⟨e, h1, h2⟩ => ⟨H, ⟨Nat.le_refl _, h1, fun id blk hg => ⟨hn id blk hg, h2 id blk hg⟩, fun id cs m hg => .inl ⟨m, hg⟩, fun id es hg => .inl hg⟩, by subst e; exact hf.ok _, e, rfl⟩

/-- The heap's own fact, at hand in every contract. -/
theorem AC.lt {P : Program} {f : FuncId} {args : List V} {H : Hp} {R : V → Hp → Prop} (hb : okFn P f = true) (h : (∀ id blk, H.get id = some blk → id < H.next) → AC P f args H R) : AC P f args H R :=
  ⟨hb, fun κ cs S r => (h S.lt).2 κ cs S r⟩

theorem okFn_of {P : Program} {f : FuncId} {fn : Func} {a : AFunc} (hf : P.funcs[f]? = some fn) (hok : okFunc P fn a = true) : okFn P f = true := by
  simp only [okFunc, Bool.and_eq_true, bne_iff_ne, ne_eq, decide_eq_true_eq] at hok
  obtain ⟨⟨⟨h1, h2⟩, h3⟩, h4⟩ := hok
  split at h4
  · rename_i c hb; simp [okFn, hf, hb, h1]
  · cases h4
theorem AC.codeL {P : Program} {f : FuncId} {fn : Func} {a : AFunc} (hf : P.funcs[f]? = some fn) (hok : okFunc P fn a = true) {args : List V} {H : Hp} {R : V → Hp → Prop}
    (h : (∀ id blk, H.get id = some blk → id < H.next) → AX P a.n a.body (Ends R a.res) (fr0 0 args) H) : AC P f args H R :=
  AC.lt (okFn_of hf hok) fun hl => AC.code hf hok (h hl)
/-- A function that answers and leaves the heap as it was. -/
theorem AC.codeC {P : Program} {f : FuncId} {fn : Func} {a : AFunc} (hf : P.funcs[f]? = some fn) (hok : okFunc P fn a = true) {args : List V} {H : Hp} {v : V} (hv : free v)
    (h : (∀ id blk, H.get id = some blk → id < H.next) → AX P a.n a.body (Ends (fun r H' => r = v ∧ H.next ≤ H'.next ∧ ∀ id blk, H.get id = some blk → H'.get id = some blk) a.res) (fr0 0 args) H) : AC P f args H (fun r H' => r = v ∧ H' = H) :=
  AC.lt (okFn_of hf hok) fun hl => AC.clean hv (AC.code hf hok (h hl)) hl

@[simp] theorem free_b (x : Bool) : free (.b x) := .b x
@[simp] theorem free_i (k : IntKind) (n : Int) : free (.i k n) := .i k n
@[simp] theorem free_s (x : List UInt8) : free (.s x) := .s x
@[simp] theorem free_sl0 (n sz : Nat) : free (.sl none n sz) := .sl0 n sz
@[simp] theorem free_p0 : free (.p none) := .p0
theorem free_list {cs : List V} (h : ∀ v ∈ cs, free v) : ∀ (j : Nat) v, cs[j]? = some v → Okv (fun _ _ => False) v := fun _ v hj => h v (List.mem_of_getElem? hj)
theorem free_tup {cs : List V} (h : ∀ v ∈ cs, free v) : free (.tup cs) := .tup cs (free_list h)
theorem free_agg {cs : List V} (h : ∀ v ∈ cs, free v) : free (.agg cs) := .agg cs (free_list h)
theorem free_fs {es : List (List V)} (h : ∀ e ∈ es, ∀ v ∈ e, free v) : free (.fs es) := .fs es fun i j e v hi hj => h e (List.mem_of_getElem? hi) v (List.mem_of_getElem? hj)
@[simp] theorem free_tup_iff {cs : List V} : free (.tup cs) ↔ ∀ v ∈ cs, free v := ⟨fun h v hv => by
  cases h with | tup _ h => obtain ⟨j, hj⟩ := List.mem_iff_getElem?.1 hv; exact h j v hj, free_tup⟩
@[simp] theorem free_agg_iff {cs : List V} : free (.agg cs) ↔ ∀ v ∈ cs, free v := ⟨fun h v hv => by
  cases h with | agg _ h => obtain ⟨j, hj⟩ := List.mem_iff_getElem?.1 hv; exact h j v hj, free_agg⟩
@[simp] theorem free_fs_iff {es : List (List V)} : free (.fs es) ↔ ∀ e ∈ es, ∀ v ∈ e, free v := ⟨fun h e he v hv => by
  cases h with | fs _ h => obtain ⟨i, hi⟩ := List.mem_iff_getElem?.1 he; obtain ⟨j, hj⟩ := List.mem_iff_getElem?.1 hv; exact h i j e v hi hj, free_fs⟩

end Go.Proofs.Ytihipphpfbnknaa.Am
