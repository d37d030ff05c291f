/- AM, part 23: blocks that nobody writes any more: they are told by what they hold; functions that leave nothing behind. -/
import Derived.Test.YtihipphpfbnknaaAm22
namespace Go.Proofs.Ytihipphpfbnknaa.Am
open Go Go.RowKit
set_option linter.unusedSimpArgs false
set_option linter.unusedVariables false

open Classical in
noncomputable def Hp.wo (H : Hp) (S : Nat → Prop) : Hp := { H with get := fun k => if S k then Option.none else H.get k }

/-- What a value is once the blocks of some numbers are told by what they hold. -/
inductive Frz (H : Hp) (S : Nat → Prop) : V → V → Prop
  | refl (v : V) : Frz H S v v
  | sl (id off ext len sz m : Nat) (cs : List V) (es : List (List V)) : S id → H.get id = some (.cells cs m) → m ≤ ext → ext ≤ cs.length → es.length = len → (∀ e ∈ es, e.length = sz) →
      (∀ (i j : Nat) e v, es[i]? = some e → e[j]? = some v → off + i * sz + j < ext) →
      (∀ (i j : Nat) e v u, es[i]? = some e → e[j]? = some v → cs[off + i * sz + j]? = some u → Frz H S u v) → Frz H S (.sl (some (id, off, ext)) len sz) (.fs es)
  | sl0 (sz : Nat) : Frz H S (.sl none 0 sz) (.fs [])
  | p (id off ext m : Nat) (cs cs' : List V) : S id → H.get id = some (.cells cs m) → m ≤ ext → ext ≤ cs.length → cs'.length ≤ ext →
      (∀ (j : Nat) u v, cs[j]? = some u → cs'[j]? = some v → Frz H S u v) → Frz H S (.p (some (id, off, ext))) (.fp cs' off)
  | agg (vs vs' : List V) : vs'.length = vs.length → (∀ (j : Nat) u v, vs[j]? = some u → vs'[j]? = some v → Frz H S u v) → Frz H S (.agg vs) (.agg vs')
  | tup (vs vs' : List V) : vs'.length = vs.length → (∀ (j : Nat) u v, vs[j]? = some u → vs'[j]? = some v → Frz H S u v) → Frz H S (.tup vs) (.tup vs')
  | ifc (t : TypeId) (v v' : V) : Frz H S v v' → Frz H S (.ifc t v) (.ifc t v')
  | fn (f : FuncId) (vs vs' : List V) : vs'.length = vs.length → (∀ (j : Nat) u v, vs[j]? = some u → vs'[j]? = some v → Frz H S u v) → Frz H S (.fn f vs) (.fn f vs')

def frzB (κ : K) (H : Hp) (S : Nat → Prop) (b : Nat) : Prop := ∃ id e cs m, S id ∧ H.get id = some (.cells cs m) ∧ m ≤ e ∧ e ≤ cs.length ∧ (κ.pl id e).1 = b

theorem freeze_core {κ : K} {H : Hp} (S : Nat → Prop) (Sm : Sim κ H) : ∃ κ' : K, κ'.w = κ.w ∧ κ.Le κ' ∧ Sim κ' (H.wo S) ∧ ∀ v r, Frz H S v r → ∀ c, VR κ v c → VR κ' r c := by
  have sb : ∀ b, frzB κ H S b → b < κ.w.heap.size ∧ ¬ κ.fz b ∧ ∃ arr t fr, κ.w.heap[b]? = some (.cells arr t fr) := fun b ⟨id, e, cs, m, h0, hg, h1, h2, h3⟩ => by
    obtain ⟨⟨arr, t, fr, hb, _⟩, hz⟩ := Sm.cells id cs m hg e h1 h2
    rw [h3] at hb hz
    exact ⟨lt_of_some hb, hz, arr, t, fr, hb⟩
  let κ2 : K := { κ with fz := fun b => κ.fz b ∨ frzB κ H S b, ic := fun b => κ.ic b ∨ frzB κ H S b }
  have le : κ.Le κ2 := ⟨fun _ _ h => ⟨h, rfl⟩, fun _ h => ⟨.inl h, rfl⟩, fun _ h => ⟨.inl h, rfl⟩, fun b h => h.elim .inl fun h => .inr (.inr (sb b h).2.1), fun _ _ h => h, Nat.le_refl _, rfl, rfl, rfl, fun _ h => ⟨h, fun _ o => o⟩⟩
  have gw : ∀ {k blk}, (H.wo S).get k = some blk → ¬ S k ∧ H.get k = some blk := fun {k blk} h => by
    simp only [Hp.wo] at h
    split at h
    · cases h
    · rename_i hs; exact ⟨hs, h⟩
  refine ⟨κ2, rfl, le, ⟨fun id e o => ⟨(Sm.ok id e o).1, fun cs m hg => (Sm.ok id e o).2 cs m (gw hg).2⟩, fun id h => ⟨(Sm.hole id h).1, ?_⟩, fun id blk h => Sm.lt id blk (gw h).2, fun b h => h.elim (Sm.fz b) fun h => (sb b h).1, fun b h => h.elim (fun h => .inl (Sm.ic b h)) .inr,
    fun id cs m h => Sm.le id cs m (gw h).2, fun id cs m h e h1 h2 => ?_, fun id es h => ?_, fun id id' e e' cs m cs' m' h1 h2 => Sm.sep id id' e e' cs m cs' m' (gw h1).2 (gw h2).2, fun id cs m e e' h => Sm.base id cs m e e' (gw h).2,
    fun id id' es es' h1 h2 => Sm.sepm id id' es es' (gw h1).2 (gw h2).2⟩, ?_⟩
  · simp only [Hp.wo]; split
    · rfl
    · exact (Sm.hole id h).2
  · obtain ⟨⟨arr, t, fr, hb, hs, hv, hf⟩, hz⟩ := Sm.cells id cs m (gw h).2 e h1 h2
    refine ⟨⟨arr, t, fr, hb, hs, fun j v a b => (hv j v a b).mono le, hf⟩, ?_⟩
    rintro (hz' | ⟨id', e', cs', m', g0, g1, g2, g3, g4⟩)
    · exact hz hz'
    · have := Sm.sep id' id e' e cs' m' cs m g1 (gw h).2 g2 g3 h1 h2 g4
      subst this
      exact (gw h).1 g0
  · obtain ⟨⟨arr, c, hb, hs, hv⟩, hz⟩ := Sm.maps id es (gw h).2
    refine ⟨⟨arr, c, hb, hs, fun j k v a => let ⟨en, x, y, z⟩ := hv j k v a; ⟨en, x, y.mono le, z.mono le⟩⟩, ?_⟩
    rintro (hz' | hz')
    · exact hz hz'
    · obtain ⟨_, _, arr', t', fr', hb'⟩ := sb _ hz'
      have hb2 : κ.w.heap[(κ.pl id 0).1]? = some (.map arr c) := hb
      rw [hb'] at hb2; cases hb2
  · intro v r hf
    induction hf with
    | refl v => exact fun c r => r.mono le
    | sl id off ext len sz m cs es hS hg h1 h2 hl hs hin hfz ih =>
      intro c r
      cases r with
      | sl _ _ _ _ _ cap n a o z l x y hn hr ha =>
        have hp := Sm.cells id cs m hg ext h1 h2
        have hic : κ2.ic (κ.pl id ext).1 := .inr ⟨id, ext, cs, m, hS, hg, h1, h2, rfl⟩
        subst hl
        refine .fs (κ := κ2) es cap sz (κ.pl id ext).1 ((κ.pl id ext).2 + off) (some a) (fun i j => ((κ.w.cell? ⟨(κ.pl id ext).1, (κ.pl id ext).2 + off + i * sz + j, none⟩).getD undef)) l hs (fun h => by cases h) (fun hne => ⟨?_, hic⟩) (fun i j e v hi hj => ?_) (fun i j e v hi hj => ?_)
        · have : 0 < es.length := List.length_pos_iff.2 hne
          rw [ha (by omega)]
        · obtain ⟨cc, hc, _⟩ := hp.cell (hin i j e v hi hj)
          rw [show (κ.pl id ext).2 + off + i * sz + j = (κ.pl id ext).2 + (off + i * sz + j) by omega]
          rw [show κ2.w = κ.w from rfl, hc]; rfl
        · have hlt := hin i j e v hi hj
          obtain ⟨cc, hc, hv⟩ := hp.cell hlt
          have hcs : cs[off + i * sz + j]? = some cs[off + i * sz + j] := List.getElem?_eq_getElem (by omega)
          have := ih i j e v _ hi hj hcs cc (hv _ hcs)
          rw [show (κ.pl id ext).2 + off + i * sz + j = (κ.pl id ext).2 + (off + i * sz + j) by omega, hc]
          exact this
    | sl0 sz =>
      intro c r
      cases r with
      | sl0 _ a => exact .fs (κ := κ2) [] 0 sz 0 0 a (fun _ _ => undef) (Nat.le_refl _) (fun e h => by simp at h) (fun _ => rfl) (fun h => absurd rfl h) (fun i j e v h => by simp at h) (fun i j e v h => by simp at h)
    | p id off ext m cs cs' hS hg h1 h2 hl hfz ih =>
      intro c r
      cases r with
      | p _ _ _ o =>
        have hp := Sm.cells id cs m hg ext h1 h2
        have hic : κ2.ic (κ.pl id ext).1 := .inr ⟨id, ext, cs, m, hS, hg, h1, h2, rfl⟩
        refine .fp (κ := κ2) cs' off (κ.pl id ext).1 (κ.pl id ext).2 (fun j => ((κ.w.cell? ⟨(κ.pl id ext).1, (κ.pl id ext).2 + j, none⟩).getD undef)) hic (fun j v hj => ?_) (fun j v hj => ?_)
        · have hjl := (List.getElem?_eq_some_iff.1 hj).1
          obtain ⟨cc, hc, _⟩ := hp.cell (j := j) (by omega)
          rw [show κ2.w = κ.w from rfl, hc]; rfl
        · have hjl := (List.getElem?_eq_some_iff.1 hj).1
          obtain ⟨cc, hc, hv⟩ := hp.cell (j := j) (by omega)
          have hcs : cs[j]? = some cs[j] := List.getElem?_eq_getElem (by omega)
          rw [hc]
          exact ih j _ v hcs hj cc (hv _ hcs)
    | agg vs vs' hl h ih =>
      intro c r
      cases r with
      | agg _ cs l hc =>
        refine .agg (κ := κ2) vs' cs (by omega) fun j v hj => ?_
        have hjl := (List.getElem?_eq_some_iff.1 hj).1
        have hcs : vs[j]? = some vs[j] := List.getElem?_eq_getElem (by omega)
        exact ih j _ v hcs hj _ (hc j _ hcs)
    | tup vs vs' hl h ih =>
      intro c r
      cases r with
      | tup _ cs l hc =>
        refine .tup (κ := κ2) vs' cs (by omega) fun j v hj => ?_
        have hjl := (List.getElem?_eq_some_iff.1 hj).1
        have hcs : vs[j]? = some vs[j] := List.getElem?_eq_getElem (by omega)
        exact ih j _ v hcs hj _ (hc j _ hcs)
    | ifc t v v' h ih =>
      intro c r
      cases r with
      | ifc _ _ cv h => exact .ifc (κ := κ2) t v' cv (ih cv h)
    | fn f vs vs' hl h ih =>
      intro c r
      cases r with
      | fn _ _ cs l hc =>
        refine .fn (κ := κ2) f vs' cs (by omega) fun j v hj => ?_
        have hjl := (List.getElem?_eq_some_iff.1 hj).1
        have hcs : vs[j]? = some vs[j] := List.getElem?_eq_getElem (by omega)
        exact ih j _ v hcs hj _ (hc j _ hcs)

theorem WkV.freeze {v r : V} {H : Hp} (S : Nat → Prop) (h : Frz H S v r) : WkV v H r (H.wo S) := fun κ c Sm rv => by
  obtain ⟨κ', e1, e2, e3, e4⟩ := freeze_core S Sm
  exact ⟨κ', e1, e2, e3, e4 v r h c rv⟩
theorem Wk.freeze {F F' : Fr} {H : Hp} (S : Nat → Prop) (h : ∀ t, Frz H S (fget F t) (fget F' t)) : Wk F H F' (H.wo S) := fun κ c Sm rv => by
  obtain ⟨κ', e1, e2, e3, e4⟩ := freeze_core S Sm
  exact ⟨κ', e1, e2, e3, fun t => e4 _ _ (h t) _ (rv t)⟩

/-- The old heap stands as it did. -/
def Hp.Ext (H H' : Hp) : Prop := H.next ≤ H'.next ∧ ∀ id blk, H.get id = some blk → H'.get id = some blk
theorem Hp.Ext.refl (H : Hp) : H.Ext H := ⟨Nat.le_refl _, fun _ _ h => h⟩
theorem Hp.Ext.trans {A B C : Hp} (h : A.Ext B) (k : B.Ext C) : A.Ext C := ⟨Nat.le_trans h.1 k.1, fun id blk g => k.2 id blk (h.2 id blk g)⟩
theorem Hp.Ext.add {H : Hp} (hl : ∀ id blk, H.get id = some blk → id < H.next) (b : Blk) : H.Ext (H.add b) := ⟨by simp, fun id blk g => by
  have := hl id blk g
  simp only [Hp.get_add]; rw [if_neg (by omega)]; exact g⟩

/-- A function whose answer leads to nothing that can be written, and that leaves the heap as it was. -/
theorem AC.pure {P : Program} {f : FuncId} {args : List V} {H : Hp} {r : V} (hr : free r) (hl : ∀ id blk, H.get id = some blk → id < H.next) (h : AC P f args H (fun v H' => H.Ext H' ∧ Frz H' (fun id => H.next ≤ id) v r)) : AC P f args H (fun v H' => v = r ∧ H' = H) := by
  refine AC.clean hr ?_ hl
  refine h.wk fun v H' ⟨e, hf⟩ => ⟨r, _, .freeze _ hf, rfl, e.1, fun id blk hg => ?_⟩
  simp only [Hp.wo]
  rw [if_neg (by have := hl id blk hg; omega)]
  exact e.2 id blk hg

theorem AC.codeP {P : Program} {f : FuncId} {fn : Func} {a : AFunc} (hf : P.funcs[f]? = some fn) (hok : okFunc P fn a = true) {args : List V} {H : Hp} {r : V} (hr : free r)
    (h : (∀ id blk, H.get id = some blk → id < H.next) → AX P a.n a.body (Ends (fun v H' => H.Ext H' ∧ Frz H' (fun id => H.next ≤ id) v r) a.res) (fr0 0 args) H) : AC P f args H (fun v H' => v = r ∧ H' = H) :=
  AC.lt (okFn_of hf hok) fun hl => AC.pure hr hl (AC.code hf hok (h hl))

end Go.Proofs.Ytihipphpfbnknaa.Am
