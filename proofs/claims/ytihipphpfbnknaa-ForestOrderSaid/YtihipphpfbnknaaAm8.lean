/- AM, part 8: the model does what the table says (second half). -/
import Derived.Test.YtihipphpfbnknaaAm7
namespace Go.Proofs.Ytihipphpfbnknaa.Am
open Go Go.RowKit
set_option linter.unusedSimpArgs false
set_option linter.unusedVariables false

section
variable {P : Program} {dst : Option Tmp} {type : TypeId} {pos : String} {after : Array Edge} {guard : Option (Nat × Bool)}

theorem does_nilc {x : Operand} {y : AO} (hx : okAO x y = true) : Does P ⟨dst, .nilCheck x, type, pos, after, guard⟩ (.nilc y) := by
  intro F H v H' hs κ a S r
  have rx := okAO_ok hx r
  simp only [astep] at hs
  split at hs
  all_goals first | (cases hs; done) | skip
  all_goals rename_i hy
  all_goals injection hs with hs
  all_goals injection hs with h1 h2
  all_goals subst h1
  all_goals subst h2
  all_goals rw [hy] at rx
  all_goals refine Does.still S rx ?_
  all_goals simp only [execOp]
  all_goals generalize a.eval x = c at rx
  all_goals cases rx
  all_goals rfl

theorem does_bin {op : BinOp} {t u : TypeId} {x y : Operand} {x' y' : AO} (hx : okAO x x' = true) (hy : okAO y y' = true) : Does P ⟨dst, .binOp op t x y u, type, pos, after, guard⟩ (.bin op x' y') := by
  intro F H v H' hs κ a S r
  simp only [astep] at hs
  cases hb : binV op (ev F x') (ev F y') with
  | none => simp [hb] at hs
  | some w =>
    simp [hb] at hs
    obtain ⟨h1, h2⟩ := hs; subst h1; subst h2
    obtain ⟨cv, hv, hrun⟩ := bin_ok (P := P) (t := t) (ox := x) (oy := y) hb (okAO_ok hx r) (okAO_ok hy r) κ.w
    refine Does.still S hv ?_
    simp only [execOp]
    rw [Sem.run_bind, hrun]
    rfl

theorem does_eqk {k : EK} {neg : Bool} {op : BinOp} {t u : TypeId} {x y : Operand} {x' y' : AO} (hop : op = if neg then .neq else .eql) (hk : eqkP P k t = true) (hx : okAO x x' = true) (hy : okAO y y' = true) :
    Does P ⟨dst, .binOp op t x y u, type, pos, after, guard⟩ (.eqk k neg x' y') := by
  intro F H v H' hs κ a S r
  simp only [astep] at hs
  cases hb : eqK k (ev F x') (ev F y') with
  | none => simp [hb] at hs
  | some w =>
    simp [hb] at hs
    obtain ⟨h1, h2⟩ := hs; subst h1; subst h2
    unfold eqkP at hk
    split at hk
    · rename_i d hd
      have hrun := eqK_ok (P := P) hd hk hb neg (ox := x) (oy := y) (okAO_ok hx r) (okAO_ok hy r) κ.w
      refine Does.still S (.b _) ?_
      simp only [execOp]
      subst hop
      rw [Sem.run_bind, hrun]
      rfl
    · cases hk

theorem does_un {op : UnOp} {t : TypeId} {x : Operand} {y : AO} (hx : okAO x y = true) : Does P ⟨dst, .unOp op t x, type, pos, after, guard⟩ (.un op y) := by
  intro F H v H' hs κ a S r
  have rx := okAO_ok hx r
  simp only [astep] at hs
  cases hb : unV op (ev F y) with
  | none => simp [hb] at hs
  | some w =>
    simp [hb] at hs
    obtain ⟨h1, h2⟩ := hs; subst h1; subst h2
    unfold unV at hb
    split at hb
    · rename_i b hy
      injection hb with hb; subst hb
      rw [hy] at rx
      refine Does.still S (.b _) ?_
      simp only [execOp, VR.inv_b rx, Op.unary, Sem.run_bind, Sem.run_pure, Result.andThen_ok]
    · rename_i k n hy
      injection hb with hb; subst hb
      rw [hy] at rx
      refine Does.still S (.i _ _) ?_
      simp only [execOp, VR.inv_i rx, Op.unary, Op.intArith, Sem.run_bind, Sem.run_pure, Result.andThen_ok]
    · rename_i k n hy
      injection hb with hb; subst hb
      rw [hy] at rx
      refine Does.still S (.i _ _) ?_
      simp only [execOp, VR.inv_i rx, Op.unary, Op.intBits, Sem.run_bind, Sem.run_pure, Result.andThen_ok, bXor]
    · cases hb

theorem does_conv {s d : TypeId} {k : IntKind} {ds : TypeDesc} {x : Operand} {y : AO} (hx : okAO x y = true) (hs0 : P.underlying s = some ds) (hd : P.underlying d = some (.int k)) :
    Does P ⟨dst, .convert s d x, type, pos, after, guard⟩ (.conv k y) := by
  intro F H v H' hs κ a S r
  have rx := okAO_ok hx r
  simp only [astep] at hs
  split at hs
  · rename_i k' n hy
    injection hs with hs; injection hs with h1 h2; subst h1; subst h2
    rw [hy] at rx
    refine Does.still S (.i _ _) ?_
    simp only [execOp, VR.inv_i rx, convert, Sem.run_bind, run_underlying hs0, run_underlying hd, Result.andThen_ok, Conv.intToInt, Sem.run_pure]
  · cases hs

theorem does_mkfn {f : FuncId} {first caps : Array Operand} {xs : List AO} (h0 : first.isEmpty = true) (hx : okAOs caps.toList xs = true) : Does P ⟨dst, .makeFunc (.func f) first caps, type, pos, after, guard⟩ (.mkfn f xs) := by
  intro F H v H' hs κ a S r
  simp only [astep] at hs
  injection hs with hs; injection hs with h1 h2; subst h1; subst h2
  have hv := okAOs_ok hx r
  have h0' : first = #[] := by simpa using h0
  refine Does.still S (.fn f _ _ hv.1 hv.2) ?_
  simp only [execOp, Instr.makeFunc, Sem.run_bind, Sem.run_pure, Result.andThen_ok, h0']
  have : Array.map a.eval caps = (List.map a.eval caps.toList).toArray := by apply Array.ext'; simp
  simp [this]

theorem run_extract {P : Program} {t : TypeId} {agg : Bool} {off n : Nat} {cs : List Value} (ha : aggP P t = some agg) (hn : (if agg then szP P t == some n else n == 1) = true) (h : off + n ≤ cs.length) (w : World) :
    (part t cs.toArray off).run P w = .ok (if agg then .agg ((cs.drop off).take n).toArray else cs.getD off undef) w := by
  have hagg := run_isAgg' ha w
  cases agg with
  | true =>
    simp at hn
    simp only [part, Sem.run_bind, hagg, Result.andThen_ok, if_true, run_sizeOf' hn w, Sem.run_pure]
    congr 2
    apply Array.ext'
    simp [List.drop_take]
  | false =>
    simp at hn; subst hn
    have : cs[off]? = some (cs.getD off undef) := by simp [List.getD, show off < cs.length by omega]
    simp only [part, Sem.run_bind, hagg, Result.andThen_ok, Bool.false_eq_true, if_false, List.getElem?_toArray, this, Sem.run_pure]

theorem VRs.part {κ : K} {vs : List V} {cs : List Value} (h : VRs κ vs cs) {agg : Bool} {off n : Nat} (hn : agg = false → n = 1) (hl : off + n ≤ vs.length) {v : V} (ho : Am.one agg ((vs.drop off).take n) = some v) :
    VR κ v (if agg then .agg ((cs.drop off).take n).toArray else cs.getD off undef) := by
  cases agg with
  | true =>
    simp only [Am.one] at ho; injection ho with ho; subst ho
    have := h.sub off n
    exact VR.agg _ _ this.1 this.2
  | false =>
    have := hn rfl; subst this
    have hlt : off < vs.length := by omega
    have e : (vs.drop off).take 1 = [vs[off]] := by
      rw [List.drop_eq_getElem_cons hlt]; rfl
    rw [e] at ho
    simp only [Am.one] at ho; injection ho with ho; subst ho
    exact h.2 off _ (List.getElem?_eq_getElem hlt)

theorem does_fld {t : TypeId} {f : Nat} {x : Operand} {agg : Bool} {off n : Nat} {y : AO} {fs : Array Field} {fd : Field} (hx : okAO x y = true) (hu : P.underlying t = some (.struct fs)) (hf : fs[f]? = some fd) (hoff : fd.offset = off)
    (ha : aggP P fd.type = some agg) (hn : (if agg then szP P fd.type == some n else n == 1) = true) : Does P ⟨dst, .field t x f, type, pos, after, guard⟩ (.fld agg off n y) := by
  intro F H v H' hs κ a S r
  have rx := okAO_ok hx r
  simp only [astep] at hs
  split at hs
  · rename_i vs hy
    split at hs
    · rename_i hl
      cases ho : one agg ((vs.drop off).take n) with
      | none => simp [ho] at hs
      | some u =>
        simp [ho] at hs
        obtain ⟨h1, h2⟩ := hs; subst h1; subst h2
        rw [hy] at rx
        cases hax : a.eval x with
        | agg arr =>
          rw [hax] at rx
          cases rx with
          | agg _ cs g1 g2 =>
            refine Does.still S (VRs.part ⟨g1, g2⟩ (fun e => by subst e; simpa using hn) hl ho) ?_
            simp only [execOp, Instr.field, hax, Sem.run_bind, run_underlying hu, Result.andThen_ok, hf, asAgg, Sem.run_pure, hoff, run_extract ha hn (by omega : off + n ≤ cs.length)]
        | _ => rw [hax] at rx; cases rx
    · cases hs
  · cases hs

theorem does_fadr {t : TypeId} {f : Nat} {x : Operand} {off n : Nat} {y : AO} {fs : Array Field} {fd : Field} (hx : okAO x y = true) (hu : P.underlying t = some (.struct fs)) (hf : fs[f]? = some fd) (hoff : fd.offset = off)
    (hn : szP P fd.type = some n) (hn0 : 0 < n) : Does P ⟨dst, .fieldAddr t x f, type, pos, after, guard⟩ (.fadr off y) := by
  intro F H v H' hs κ a S r
  have rx := okAO_ok hx r
  have run : ∀ ad, (Instr.fieldAt t (.pointer (some ad)) f).run P κ.w = .ok (.pointer (some (ad.add off))) κ.w := fun ad => by
    have : ¬ n = 0 := by omega
    simp only [Instr.fieldAt, Sem.run_bind, run_underlying hu, Result.andThen_ok, hf, Instr.sureAddr, Sem.run_pure, fieldPlace, run_sizeOf' hn, this, if_false, hoff]
  simp only [astep] at hs
  split at hs
  · rename_i id o ext hy
    injection hs with hs; injection hs with h1 h2; subst h1; subst h2
    rw [hy] at rx
    cases hax : a.eval x with
    | pointer ad =>
      rw [hax] at rx
      cases rx with
      | p _ _ _ ok =>
        refine Does.still S (.p id (o + off) ext ok) ?_
        simp only [execOp, hax, Sem.run_bind, run, Result.andThen_ok, Sem.run_pure, add_none, Nat.add_assoc]
    | _ => rw [hax] at rx; cases rx
  · rename_i cs o hy
    injection hs with hs; injection hs with h1 h2; subst h1; subst h2
    rw [hy] at rx
    cases hax : a.eval x with
    | pointer ad =>
      rw [hax] at rx
      cases rx with
      | fp _ _ b o' cv hf' hc hv =>
        refine Does.still S (.fp cs (o + off) b o' cv hf' hc hv) ?_
        simp only [execOp, hax, Sem.run_bind, run, Result.andThen_ok, Sem.run_pure, add_none, Nat.add_assoc]
    | _ => rw [hax] at rx; cases rx
  · cases hs

theorem does_ext {n : Nat} {x : Operand} {y : AO} (hx : okAO x y = true) : Does P ⟨dst, .extract x n, type, pos, after, guard⟩ (.ext n y) := by
  intro F H v H' hs κ a S r
  have rx := okAO_ok hx r
  simp only [astep] at hs
  split at hs
  · rename_i vs hy
    split at hs
    · rename_i u hu
      injection hs with hs; injection hs with h1 h2; subst h1; subst h2
      rw [hy] at rx
      cases hax : a.eval x with
      | tuple arr =>
        rw [hax] at rx
        cases rx with
        | tup _ cs g1 g2 =>
          obtain ⟨c, hc, hv⟩ := VRs.get ⟨g1, g2⟩ hu
          refine Does.still S hv ?_
          simp [execOp, Instr.extract, hax, hc]
      | _ => rw [hax] at rx; cases rx
    · cases hs
  · cases hs

theorem does_idx {t : TypeId} {x i : Operand} {y j : AO} (hx : okAO x y = true) (hi : okAO i j = true) (hu : P.underlying t = some .string) : Does P ⟨dst, .index t x i, type, pos, after, guard⟩ (.idx y j) := by
  intro F H v H' hs κ a S r
  have rx := okAO_ok hx r
  have ri := okAO_ok hi r
  simp only [astep] at hs
  split at hs
  · rename_i bs k n hy hj
    rw [hy] at rx
    rw [hj] at ri
    split at hs
    · rename_i hn
      split at hs
      · rename_i b hb
        injection hs with hs; injection hs with h1 h2; subst h1; subst h2
        refine Does.still S (.i _ _) ?_
        have : (⟨bs.toArray⟩ : ByteArray)[n.toNat]? = some b := by
          have hlt := (List.getElem?_eq_some_iff.1 hb).1
          have hs' : n.toNat < (⟨bs.toArray⟩ : ByteArray).size := by rw [size_mk]; exact hlt
          rw [getElem?_pos (⟨bs.toArray⟩ : ByteArray) n.toNat hs']
          congr 1
          have := (List.getElem?_eq_some_iff.1 hb).2
          rw [← this]
          rfl
        simp only [execOp, Instr.index, VR.inv_s rx, VR.inv_i ri, asIntOf, Sem.run_bind, Sem.run_pure, Result.andThen_ok, run_underlying hu, hn, if_true, this]
      · cases hs
    · cases hs
  · cases hs

theorem does_len {t : TypeId} {d : TypeDesc} {str : Bool} {x : Operand} {y : AO} (hx : okAO x y = true) (hu : P.underlying t = some d) (hl : lenT str d = true) {ts : Array TypeId} {args : Array Operand} (ht : ts.toList = [t]) (ha : args.toList = [x]) :
    Does P ⟨dst, .call ⟨.builtin .len, args, ts⟩, type, pos, after, guard⟩ (.len str y) := by
  intro F H v H' hs κ a S r
  have rx := okAO_ok hx r
  have e1 : ts = #[t] := by rw [← ht]
  have e2 : args = #[x] := by rw [← ha]
  subst e1; subst e2
  have un := run_underlying hu κ.w
  simp only [astep] at hs
  cases str with
  | true =>
    cases d <;> simp only [lenT, Bool.false_eq_true] at hl
    split at hs
    all_goals first | (cases hs; done) | (rename_i h0 _; cases h0; done) | skip
    rename_i hy
    injection hs with hs; injection hs with h1 h2; subst h1; subst h2
    rw [hy] at rx
    refine Does.still S (.i _ _) ?_
    simp [execOp, resolve, invoke, builtin, Builtin.len_, VR.inv_s rx, un, size_mk, goInt]
  | false =>
    cases d <;> simp only [lenT, Bool.false_eq_true] at hl
    split at hs
    all_goals first | (cases hs; done) | (rename_i h0 _; cases h0; done) | skip
    all_goals rename_i hy
    all_goals injection hs with hs
    all_goals injection hs with h1 h2
    all_goals subst h1
    all_goals subst h2
    all_goals rw [hy] at rx
    all_goals refine Does.still S (.i _ _) ?_
    all_goals generalize hc : a.eval x = c at rx
    all_goals cases rx
    all_goals simp [execOp, resolve, invoke, builtin, Builtin.len_, hc, un, goInt]

theorem does_app {sz bytes : Nat} {x y : Operand} {x' y' : AO} (hx : okAO x x' = true) (hy : okAO y y' = true) {ts : Array TypeId} {args : Array Operand} (ha : args.toList = [x, y]) (hp : appP P sz bytes ts.toList = true) :
    Does P ⟨dst, .call ⟨.builtin .append, args, ts⟩, type, pos, after, guard⟩ (.app sz bytes x' y') := by
  intro F H v H' hs κ a S r
  simp only [astep] at hs
  have e2 : args = #[x, y] := by rw [← ha]
  subst e2
  unfold appP at hp
  split at hp
  · rename_i sT xT hts
    have e1 : ts = #[sT, xT] := by rw [← hts]
    subst e1
    split at hp
    · rename_i e d hs1 hs2
      simp only [Bool.and_eq_true] at hp
      obtain ⟨hp1, hp2⟩ := hp
      split at hp2
      · rename_i i hi
        simp only [Bool.and_eq_true, beq_iff_eq, decide_eq_true_eq] at hp2
        obtain ⟨⟨⟨⟨q1, q2⟩, q3⟩, q4⟩, q5⟩ := hp2
        subst q1; subst q2
        split at q5
        · rename_i z hz
          have T : AppT P sT xT e i z := ⟨hs1, ⟨d, hs2, fun k hk => by subst hk; simp [isIntT] at hp1⟩, hi, hz, by simpa using q5⟩
          obtain ⟨κ', cv, le, S', rv, run⟩ := sAppend_ok T q3 q4 S hs (okAO_ok hx r) (okAO_ok hy r) type
          refine ⟨κ', _, cv, le, S', rv, ?_, .inl rfl⟩
          simp only [execOp, resolve, invoke, builtin, Sem.run_bind, Sem.run_pure, Result.andThen_ok]
          simp [run]
        · cases q5
      · cases hp2
    · cases hp
  · cases hp

end
end Go.Proofs.Ytihipphpfbnknaa.Am
