/- Part 25 of the proof of the laws of the queries: SysD, S15a, S15b, S15e. -/
import Derived.Test.YtjemhlndmkbneaaGreatDoorW22
import Derived.Test.YtjemhlndmkbneaaGreatDoorW24
namespace Go.Proofs.YtjemhlndmkbneaaGreatDoor
open Am C
set_option linter.unusedSimpArgs false
set_option linter.unusedVariables false
structure Mk where
  pos : Int
  tag : Str
  deriving DecidableEq
structure Ob where
  name : Str
  kinds : Str
  marks : List Mk
structure Fu where
  name : Str
  kinds : Str
  ret : Str
structure Cn where
  op : Int
  a : Str
  b : Str
  k : Int
  tag : Str
  args : List Str
structure Sy where
  objs : List Ob
  fns : List Fu
  cons : List Cn
def mkcs (m : Mk) : List V := [.i .i64 m.pos, .s m.tag]
def obcs (o : Ob) : List V := [.s o.name, .s o.kinds, .fs (o.marks.map mkcs)]
def fucs (f : Fu) : List V := [.s f.name, .s f.kinds, .s f.ret]
def cncs (c : Cn) : List V := [.i .i64 c.op, .s c.a, .s c.b, .i .i64 c.k, .s c.tag, ss c.args]
def sycs (s : Sy) : List V := [.fs (s.objs.map obcs), .fs (s.fns.map fucs), .fs (s.cons.map cncs)]
def nodeB (s : Str) : Bool := match readN s with
  | some d => decide (d.kind ≤ 3) || decide (0 ≤ d.cell)
  | none => false
def placeB (s : Str) : Bool := match readN s with
  | some d => decide (d.kind = 4) || decide (0 ≤ d.cell)
  | none => false
def kpB (s : Str) : Bool := s.all fun c => c == 105 || c == 112
def tagB (t : Str) : Bool := decide (1 ≤ t.length) && decide (t.length ≤ 60)
def mkB (n : Nat) (l : List Mk) (m : Mk) : Bool := decide (0 ≤ m.pos) && decide (m.pos < n) && tagB m.tag && decide (∀ x, l.getLast? = some x → x.pos ≤ m.pos) && decide (m ∉ l)
def mksB (n : Nat) : List Mk → List Mk → Bool
  | _, [] => true
  | l, m :: r => mkB n l m && mksB n (l ++ [m]) r
def obE (o : Ob) : Int := match readN o.name with
  | none => 11
  | some d => if d.kind < 5 ∨ 0 ≤ d.cell then 11 else if ¬ (kpB o.kinds = true ∧ 1 ≤ o.kinds.length ∧ o.kinds.length ≤ 64) then 5 else if mksB o.kinds.length [] o.marks then 0 else 3
def retB (r : Str) : Bool := decide (r = [105]) || decide (r = [112]) || decide (r = [118])
def fuE (f : Fu) : Int := match readN f.name with
  | none => 11
  | some d => if d.kind ≠ 4 then 11 else if ¬ (kpB f.kinds = true ∧ f.kinds.length ≤ 6) ∨ retB f.ret = false then 5 else 0
def sigS : Str → Option (Str × Str)
  | [] => none
  | c :: r => if c = 62 then some ([], r) else (sigS r).map fun x => (c :: x.1, x.2)
def argB (p : Bool) (a : Str) : Bool := decide (a = []) || (p && nodeB a)
def calledB (c : Cn) : Bool := match sigS c.tag with
  | none => false
  | some (l, r) => decide (c.k = 0) && kpB l && decide (l.length ≤ 6) && (decide (r = []) || decide (r = [105]) || decide (r = [112])) && decide (c.args.length = l.length + 1) &&
      (List.range c.args.length).all fun i => argB (if i = 0 then decide (r = [112]) else decide (l[i - 1]? = some 112)) (c.args.getD i [])
def siteB (s : Str) : Bool := match readN s with
  | some d => decide (d.kind = 3)
  | none => false
def cnE (c : Cn) : Int :=
  if c.op < 1 ∨ 6 < c.op then 5
  else if ¬ (nodeB c.a = true ∧ (c.op = 6 → siteB c.a = true) ∧ (if c.op = 1 then placeB c.b = true else nodeB c.b = true)) then 11
  else if c.op = 6 then (if calledB c then 0 else 3)
  else if c.op = 5 then (if c.args = [] ∧ 0 ≤ c.k ∧ c.k ≤ 64 ∧ tagB c.tag = true then 0 else 3)
  else if c.args = [] ∧ c.k = 0 ∧ c.tag = [] then 0 else 3
def cmpI (x y : Int) : Int := if x < y then -1 else if x = y then 0 else 1
def cmpN (x y : Nat) : Int := if x < y then -1 else if x = y then 0 else 1
def orI : List Int → Int
  | [] => 0
  | x :: r => if x ≠ 0 then x else orI r
def cmpL : List Str → List Str → Int
  | [], b => cmpN 0 b.length
  | a :: r, [] => 1
  | a :: r, b :: q => if cmpS a b ≠ 0 then cmpS a b else cmpL r q
def cmpC (a b : Cn) : Int := orI [cmpI a.op b.op, cmpS a.a b.a, cmpS a.b b.b, cmpI a.k b.k, cmpS a.tag b.tag, cmpL a.args b.args]
def chk {α : Type} (ask : α → Int) (cmp : α → α → Int) : Option α → List α → Int
  | _, [] => 0
  | p, x :: r => if ask x ≠ 0 then ask x else if (match p with | some y => decide (0 ≤ cmp y x) | none => false) then 13 else chk ask cmp (some x) r
def cmpO (a b : Ob) : Int := cmpS a.name b.name
def cmpF (a b : Fu) : Int := cmpS a.name b.name
def sysE (s : Sy) : Int :=
  if 600 < s.objs.length ∨ 600 < s.fns.length ∨ 6000 < s.cons.length then 4
  else orI [chk obE cmpO none s.objs, chk fuE cmpF none s.fns, chk cnE cmpC none s.cons]
def cellN (obj : Str) (k : Nat) : Str := match readN obj with
  | some d => if d.kind < 5 ∨ d.cell ≠ -1 then [] else if rightN { d with cell := k } then writeN { d with cell := k } else []
  | none => []
def kindAt (o : Ob) (all : Bool) (i : Nat) : Bool := all || decide (o.kinds[i]? = some 112)
def cellsL (o : Ob) (all : Bool) : List Str := ((List.range o.kinds.length).filter (kindAt o all)).map (cellN o.name)
def nodesC (c : Cn) : List Str := c.a :: ((if c.op ≠ 1 then [c.b] else []) ++ c.args.filter fun a => decide (a ≠ []))
def nodesL (s : Sy) : List Str := s.cons.flatMap nodesC ++ s.objs.flatMap fun o => cellsL o false
def placesL (s : Sy) : List Str := (s.objs.flatMap fun o => cellsL o true) ++ (s.fns.map Fu.name ++ s.cons.filterMap fun c => if c.op = 1 then some c.b else none)
def nodesS (s : Sy) : List Str := if sysE s = 0 then sortedS (nodesL s) else []
def placesS (s : Sy) : List Str := if sysE s = 0 then sortedS (placesL s) else []
def fnCells (l : List Fu) : Nat := (l.map fun f => f.kinds.length + 1).sum
def conCount (l : List Cn) : Nat := (l.filter fun c => decide (2 < c.op)).length
def sizeN (s : Sy) : Nat := if sysE s = 0 then (sortedS (nodesL s ++ placesL s)).length + fnCells s.fns else 0
def sizeC (s : Sy) : Nat := if sysE s = 0 then conCount s.cons else 0
end Go.Proofs.YtjemhlndmkbneaaGreatDoor
namespace Go.Proofs.YtjemhlndmkbneaaGreatDoor
open Am C
set_option linter.unusedSimpArgs false
set_option linter.unusedVariables false
def KdInv (s : Str) (a b : Int) (H : Hp) (m : Nat) (F : Fr) (H' : Hp) : Prop :=
  ∃ i, i ≤ s.length ∧ m = s.length - i ∧ kpB (s.take i) = true ∧ H' = H ∧ F = [(0, .s s), (1, .i .i64 a), (2, .i .i64 b), (7, .i .i64 i)]
theorem kpB_take {s : Str} {i : Nat} (h : i < s.length) : kpB (s.take (i + 1)) = (kpB (s.take i) && (s[i] == 105 || s[i] == 112)) := by
  unfold kpB
  rw [List.take_add_one, List.getElem?_eq_getElem h, List.all_append]
  simp
theorem kpB_no {s : Str} {i : Nat} (h : i < s.length) (hn : ¬ (s[i] == 105 || s[i] == 112) = true) : kpB s = false := by
  cases hk : kpB s
  · rfl
  · exact absurd (List.all_eq_true.1 hk _ (List.getElem_mem h)) hn
theorem u8_ne (a : UInt8) (n : Nat) (hn : n < 256) : ((a.toNat : Int) = n) = (a = UInt8.ofNat n) := by
  apply propext
  constructor
  · intro h
    have : a.toNat = n := by omega
    rw [← this]; simp
  · intro h; subst h; simp; omega
theorem RKinds_ok (s : Str) (a b : Int) (hs : s.length ≤ 9223372036854775807) (H : Hp) : AC Tryz.prog n_weftref15_kinds [.s s, .i .i64 a, .i .i64 b] H (fun v H' => v = .b (kpB s && (decide (a ≤ s.length) && decide ((s.length : Int) ≤ b))) ∧ H' = H) := by
  refine AC.code weftref15_kinds.at weftref15_kinds.ok ?_
  simp only [weftref15_kinds]
  refine AX.seq (AX.reg ?_)
  simp [weftref15_kinds.r0]
  refine AX.seq (AX.seq (AX.reg ?_))
  simp [weftref15_kinds.r1]
  refine AX.pblock (AX.loop (KdInv s a b H) s.length ⟨_, _, .refl _ _, 0, by omega, by omega, rfl, rfl, rfl⟩ ?_)
  rintro m F H' ⟨i, hi, rfl, hk, rfl, rfl⟩
  simp only [weftref15_kinds.l0]
  refine AX.seq (AX.seq (AX.reg ?_))
  simp [weftref15_kinds.r2]
  refine AX.pcond rfl (fun hb => AX.skip ?_) (fun hb => AX.exit ?_)
  case refine_2 =>
    simp at hb
    rw [List.take_of_length_le hb] at hk
    simp
    refine AX.seq (AX.reg ?_)
    by_cases h1 : a ≤ s.length
    · simp [weftref15_kinds.r6, h1]
      refine AX.ret ?_
      simp [hk, h1]
    · simp [weftref15_kinds.r6, h1]
      refine AX.ret ?_
      simp [hk, h1]
  simp at hb
  simp
  refine AX.seq (AX.pblock (AX.seq (AX.reg ?_)))
  have e1 : ((s[i].toNat : Int) = 105) = (s[i] = 105) := u8_ne s[i] 105 (by omega)
  have e2 : ((s[i].toNat : Int) = 112) = (s[i] = 112) := u8_ne s[i] 112 (by omega)
  have hkt := kpB_take hb
  by_cases h1 : s[i] = 105
  · simp [weftref15_kinds.r3, hb, e1, e2, h1]
    refine AX.pcond (t := false) rfl (fun h => by simp at h) (fun _ => AX.skip ?_)
    simp
    refine AX.reg ?_
    simp [weftref15_kinds.r5, succ_of_lt hb hs]
    exact ⟨s.length - (i + 1), by omega, _, _, .refl _ _, i + 1, by omega, rfl, by rw [hkt, hk]; simp [h1], rfl, by simp⟩
  by_cases h2 : s[i] = 112
  · simp [weftref15_kinds.r3, hb, e1, e2, h1, h2]
    refine AX.pcond (t := false) rfl (fun h => by simp at h) (fun _ => AX.skip ?_)
    simp
    refine AX.reg ?_
    simp [weftref15_kinds.r5, succ_of_lt hb hs]
    exact ⟨s.length - (i + 1), by omega, _, _, .refl _ _, i + 1, by omega, rfl, by rw [hkt, hk]; simp [h2], rfl, by simp⟩
  simp [weftref15_kinds.r3, hb, e1, e2, h1, h2]
  refine AX.pcond (t := true) rfl (fun _ => ?_) (fun h => by simp at h)
  refine AX.seq (AX.reg ?_)
  simp [weftref15_kinds.r4]
  refine AX.ret ?_
  simp [kpB_no hb (by simp [h1, h2])]
theorem RNode_ok (s : Str) (hs : s.length ≤ 9223372036854775807) (H : Hp) : AC Tryz.prog n_weftref15_Node [.s s] H (fun v H' => v = .b (nodeB s) ∧ H' = H) := by
  refine AC.codeP weftref15_Node.at weftref15_Node.ok (by simp) fun hlt => ?_
  simp only [weftref15_Node]
  refine AX.seq (AX.reg ?_)
  simp [weftref15_Node.r0]
  refine AX.seq (AX.reg ?_)
  simp [weftref15_Node.r1]
  refine AC.fix (Read14_ok s hs _) ?_
  rw [readN_eq]
  cases hr : readN s with
  | none =>
    simp [rdV, nv, Nd.cs, Nd.zero]
    refine AX.seq (AX.reg ?_)
    simp [weftref15_Node.r2]
    refine AX.ret ?_
    simp [nodeB, hr]
    exact ⟨(Hp.Ext.add hlt _).upd hlt (Nat.le_refl _) _, .refl _⟩
  | some d =>
    simp [rdV, nv, Nd.cs]
    refine AX.seq (AX.reg ?_)
    by_cases hk : d.kind ≤ 3
    · simp [weftref15_Node.r2, hk]
      refine AX.ret ?_
      simp [nodeB, hr, hk]
      exact ⟨(Hp.Ext.add hlt _).upd hlt (Nat.le_refl _) _, .refl _⟩
    · simp [weftref15_Node.r2, hk]
      refine AX.ret ?_
      simp [nodeB, hr, hk]
      exact ⟨(Hp.Ext.add hlt _).upd hlt (Nat.le_refl _) _, .refl _⟩
theorem RPlace_ok (s : Str) (hs : s.length ≤ 9223372036854775807) (H : Hp) : AC Tryz.prog n_weftref15_Place [.s s] H (fun v H' => v = .b (placeB s) ∧ H' = H) := by
  refine AC.codeP weftref15_Place.at weftref15_Place.ok (by simp) fun hlt => ?_
  simp only [weftref15_Place]
  refine AX.seq (AX.reg ?_)
  simp [weftref15_Place.r0]
  refine AX.seq (AX.reg ?_)
  simp [weftref15_Place.r1]
  refine AC.fix (Read14_ok s hs _) ?_
  rw [readN_eq]
  cases hr : readN s with
  | none =>
    simp [rdV, nv, Nd.cs, Nd.zero]
    refine AX.seq (AX.reg ?_)
    simp [weftref15_Place.r2]
    refine AX.ret ?_
    simp [placeB, hr]
    exact ⟨(Hp.Ext.add hlt _).upd hlt (Nat.le_refl _) _, .refl _⟩
  | some d =>
    simp [rdV, nv, Nd.cs]
    refine AX.seq (AX.reg ?_)
    by_cases hk : d.kind = 4
    · simp [weftref15_Place.r2, hk]
      refine AX.ret ?_
      simp [placeB, hr, hk]
      exact ⟨(Hp.Ext.add hlt _).upd hlt (Nat.le_refl _) _, .refl _⟩
    · simp [weftref15_Place.r2, hk]
      refine AX.ret ?_
      simp [placeB, hr, hk]
      exact ⟨(Hp.Ext.add hlt _).upd hlt (Nat.le_refl _) _, .refl _⟩
theorem Rtexts_ok (a b : Str) (H : Hp) : AC Tryz.prog n_weftref15_texts [.s a, .s b] H (fun v H' => v = .i .i64 (cmpS a b) ∧ H' = H) := by
  refine AC.code weftref15_texts.at weftref15_texts.ok ?_
  simp only [weftref15_texts]
  refine AX.seq (AX.reg ?_)
  simp [weftref15_texts.r0]
  refine AX.seq (AX.pblock (AX.seq (AX.reg ?_)))
  simp [weftref15_texts.r1]
  refine AX.pcond rfl (fun hb => ?_) (fun hb => ?_)
  · have hb0 := hb
    refine AX.seq (AX.reg ?_)
    simp [weftref15_texts.r2]
    refine AX.ret ?_
    simp [cmpS, hb]
  have hb0 := hb
  refine AX.seq (AX.reg ?_)
  simp [weftref15_texts.r3]
  refine AX.pcond rfl (fun hc => ?_) (fun hc => AX.skip ?_)
  · simp at hc
    refine AX.seq (AX.reg ?_)
    simp [weftref15_texts.r4]
    refine AX.ret ?_
    have : a ≠ b := hc.2
    simp [cmpS, hb, this]
  simp at hc
  simp
  refine AX.seq (AX.reg ?_)
  simp [weftref15_texts.r5]
  refine AX.ret ?_
  have : a = b := hc hb
  simp [cmpS, this, ltB_irr]
theorem Rints_ok (a b : Int) (H : Hp) : AC Tryz.prog n_weftref15_ints [.i .i64 a, .i .i64 b] H (fun v H' => v = .i .i64 (cmpI a b) ∧ H' = H) := by
  refine AC.code weftref15_ints.at weftref15_ints.ok ?_
  simp only [weftref15_ints]
  refine AX.seq (AX.reg ?_)
  simp [weftref15_ints.r0]
  refine AX.seq (AX.pblock (AX.seq (AX.reg ?_)))
  simp [weftref15_ints.r1]
  refine AX.pcond rfl (fun hb => ?_) (fun hb => ?_)
  · simp at hb
    refine AX.seq (AX.reg ?_)
    simp [weftref15_ints.r2]
    refine AX.ret ?_
    simp [cmpI, hb]
  simp at hb
  refine AX.seq (AX.reg ?_)
  simp [weftref15_ints.r3]
  refine AX.pcond rfl (fun hc => ?_) (fun hc => AX.skip ?_)
  · simp at hc
    refine AX.seq (AX.reg ?_)
    simp [weftref15_ints.r4]
    refine AX.ret ?_
    simp [cmpI, show ¬ a < b by omega, show ¬ a = b by omega]
  simp at hc
  simp
  refine AX.seq (AX.reg ?_)
  simp [weftref15_ints.r5]
  refine AX.ret ?_
  simp [cmpI, show ¬ a < b by omega, show a = b by omega]
theorem readN_len {s : Str} {d : Nd} (h : readN s = some d) : d.fn.length ≤ s.length ∧ d.name.length ≤ s.length := by
  unfold readN at h
  split at h
  · injection h with h; subst h; exact readK_len s
  · cases h
theorem RCell_ok (obj : Str) (k : Nat) (hs : obj.length ≤ 9223372036854775807) (H : Hp) : AC Tryz.prog n_weftref14_Cell [.s obj, .i .i64 k] H (fun v H' => v = .s (cellN obj k) ∧ H' = H) := by
  refine AC.codeP weftref14_Cell.at weftref14_Cell.ok (by simp) fun hlt => ?_
  simp only [weftref14_Cell]
  refine AX.seq (AX.reg ?_)
  simp [weftref14_Cell.r0]
  refine AX.seq (AX.reg ?_)
  simp [weftref14_Cell.r1]
  refine AC.fix (Read14_ok obj hs _) ?_
  rw [readN_eq]
  cases hr : readN obj with
  | none =>
    simp [rdV, nv, Nd.cs, Nd.zero]
    refine AX.seq (AX.seq (AX.reg ?_))
    simp [weftref14_Cell.r2]
    refine AX.pcond (t := true) rfl (fun _ => ?_) (fun h => by simp at h)
    refine AX.seq (AX.reg ?_)
    simp [weftref14_Cell.r3]
    refine AX.ret ?_
    simp [cellN, hr]
    exact ⟨(Hp.Ext.add hlt _).upd hlt (Nat.le_refl _) _, .refl _⟩
  | some d =>
    simp [rdV, nv, Nd.cs]
    refine AX.seq (AX.seq (AX.reg ?_))
    by_cases hk : d.kind < 5 ∨ d.cell ≠ -1
    · have e : cellN obj k = [] := by unfold cellN; rw [hr]; simp only; rw [if_pos hk]
      by_cases h1 : d.kind < 5
      · simp [weftref14_Cell.r2, h1]
        refine AX.pcond (t := true) rfl (fun _ => ?_) (fun h => by simp at h)
        refine AX.seq (AX.reg ?_)
        simp [weftref14_Cell.r3]
        refine AX.ret ?_
        simp [e]
        exact ⟨(Hp.Ext.add hlt _).upd hlt (Nat.le_refl _) _, .refl _⟩
      · have h2 : ¬ d.cell = -1 := by rcases hk with h | h; exact absurd h h1; exact h
        simp [weftref14_Cell.r2, h1, h2]
        refine AX.pcond (t := true) rfl (fun _ => ?_) (fun h => by simp at h)
        refine AX.seq (AX.reg ?_)
        simp [weftref14_Cell.r3]
        refine AX.ret ?_
        simp [e]
        exact ⟨(Hp.Ext.add hlt _).upd hlt (Nat.le_refl _) _, .refl _⟩
    · have e : cellN obj k = if rightN { d with cell := k } then writeN { d with cell := k } else [] := by unfold cellN; rw [hr]; simp only; rw [if_neg hk]
      have h1 : ¬ d.kind < 5 := fun h => hk (.inl h)
      have h2 : d.cell = -1 := Classical.byContradiction fun h => hk (.inr h)
      simp [weftref14_Cell.r2, h1, h2]
      refine AX.pcond (t := false) rfl (fun h => by simp at h) (fun _ => AX.skip ?_)
      simp
      refine AX.seq (AX.reg ?_)
      simp [weftref14_Cell.r4]
      refine AX.seq (AX.reg ?_)
      simp [weftref14_Cell.r5]
      have hdl := readN_len hr
      refine AC.fix (Text14_ok { d with cell := k } (by have := hdl.1; simp; omega) (by have := hdl.2; simp; omega) _) ?_
      obtain ⟨tx, er, etx, hfit⟩ : ∃ tx er, textV { d with cell := (k : Int) } = .tup [.s tx, .i .i64 er] ∧ cellN obj k = tx := by
        rw [e]
        by_cases hr : rightN { d with cell := (k : Int) } = true
        · exact ⟨_, 0, by unfold textV; rw [if_pos hr], by rw [if_pos hr]⟩
        · exact ⟨[], 11, by unfold textV; rw [if_neg hr], by rw [if_neg hr]⟩
      rw [etx, hfit]
      simp
      refine AX.seq (AX.reg ?_)
      simp [weftref14_Cell.r6]
      refine AX.ret ?_
      simp
      exact ⟨(Hp.Ext.add hlt _).upd hlt (Nat.le_refl _) _, .refl _⟩
end Go.Proofs.YtjemhlndmkbneaaGreatDoor
namespace Go.Proofs.YtjemhlndmkbneaaGreatDoor
open Am C
set_option linter.unusedSimpArgs false
set_option linter.unusedVariables false
theorem ext2 {H : Hp} (hlt : ∀ id blk, H.get id = some blk → id < H.next) (a b : Blk) : H.Ext ((H.add a).upd H.next b) := (Hp.Ext.add hlt _).upd hlt (Nat.le_refl _) _
theorem lt2 {H : Hp} (hlt : ∀ id blk, H.get id = some blk → id < H.next) (a b : Blk) : ∀ id blk, ((H.add a).upd H.next b).get id = some blk → id < ((H.add a).upd H.next b).next := Hp.upd_lt (Hp.add_lt hlt _) (by simp) _
theorem Rfunction_ok (f : Fu) (h1 : f.name.length ≤ 9223372036854775807) (h2 : f.kinds.length ≤ 9223372036854775807) (H : Hp) : AC Tryz.prog n_weftref15_function [.agg (fucs f)] H (fun v H' => v = .i .i64 (fuE f) ∧ H' = H) := by
  refine AC.codeP weftref15_function.at weftref15_function.ok (by simp) fun hlt => ?_
  simp only [weftref15_function]
  refine AX.seq (AX.reg ?_)
  simp [weftref15_function.r0, fucs]
  refine AX.seq (AX.reg ?_)
  simp [weftref15_function.r1]
  refine AC.fix (Read14_ok f.name h1 _) ?_
  rw [readN_eq]
  cases hr : readN f.name with
  | none =>
    simp [rdV, nv, Nd.cs, Nd.zero]
    refine AX.seq (AX.seq (AX.reg ?_))
    simp [weftref15_function.r2]
    refine AX.pcond (t := true) rfl (fun _ => ?_) (fun h => by simp at h)
    refine AX.seq (AX.reg ?_)
    simp [weftref15_function.r3]
    refine AX.ret ?_
    simp [fuE, hr]
    exact ⟨ext2 hlt _ _, .refl _⟩
  | some d =>
    simp [rdV, nv, Nd.cs]
    refine AX.seq (AX.seq (AX.reg ?_))
    by_cases hk : d.kind = 4
    · simp [weftref15_function.r2, hk]
      refine AX.pcond (t := false) rfl (fun h => by simp at h) (fun _ => AX.skip ?_)
      simp
      refine AX.seq (AX.seq (AX.reg ?_))
      simp [weftref15_function.r4]
      refine AC.fix (RKinds_ok f.kinds 0 6 h2 _) ?_
      have eB : (kpB f.kinds && (decide ((0 : Int) ≤ f.kinds.length) && decide ((f.kinds.length : Int) ≤ 6))) = decide (kpB f.kinds = true ∧ f.kinds.length ≤ 6) := by
        cases kpB f.kinds <;> simp
      rw [eB]
      by_cases hb : kpB f.kinds = true ∧ f.kinds.length ≤ 6
      · simp only [hb, decide_true]
        by_cases r1 : f.ret = [105]
        · simp [r1]
          refine AX.pcond (t := false) rfl (fun h => by simp at h) (fun _ => AX.skip ?_)
          simp
          refine AX.seq (AX.reg ?_)
          simp [weftref15_function.r6]
          refine AX.ret ?_
          simp [fuE, hr, hk, hb, retB, r1]
          exact ⟨ext2 hlt _ _, .refl _⟩
        by_cases r2 : f.ret = [112]
        · simp [r1, r2]
          refine AX.pcond (t := false) rfl (fun h => by simp at h) (fun _ => AX.skip ?_)
          simp
          refine AX.seq (AX.reg ?_)
          simp [weftref15_function.r6]
          refine AX.ret ?_
          simp [fuE, hr, hk, hb, retB, r2]
          exact ⟨ext2 hlt _ _, .refl _⟩
        by_cases r3 : f.ret = [118]
        · simp [r1, r2, r3]
          refine AX.pcond (t := false) rfl (fun h => by simp at h) (fun _ => AX.skip ?_)
          simp
          refine AX.seq (AX.reg ?_)
          simp [weftref15_function.r6]
          refine AX.ret ?_
          simp [fuE, hr, hk, hb, retB, r3]
          exact ⟨ext2 hlt _ _, .refl _⟩
        simp [r1, r2, r3, show (f.ret == [105]) = false by simpa using r1, show (f.ret == [112]) = false by simpa using r2, show (f.ret == [118]) = false by simpa using r3]
        refine AX.pcond (t := true) rfl (fun _ => ?_) (fun h => by simp at h)
        refine AX.seq (AX.reg ?_)
        simp [weftref15_function.r5]
        refine AX.ret ?_
        simp [fuE, hr, hk, hb, retB, r1, r2, r3]
        exact ⟨ext2 hlt _ _, .refl _⟩
      · simp only [hb, decide_false]
        simp
        refine AX.pcond (t := true) rfl (fun _ => ?_) (fun h => by simp at h)
        refine AX.seq (AX.reg ?_)
        simp [weftref15_function.r5]
        refine AX.ret ?_
        have : fuE f = 5 := by unfold fuE; rw [hr]; simp only [hk]; rw [if_neg (by simp), if_pos (.inl hb)]
        simp [this]
        exact ⟨ext2 hlt _ _, .refl _⟩
    · simp [weftref15_function.r2, hk]
      refine AX.pcond (t := true) rfl (fun _ => ?_) (fun h => by simp at h)
      refine AX.seq (AX.reg ?_)
      simp [weftref15_function.r3]
      refine AX.ret ?_
      simp [fuE, hr, hk]
      exact ⟨ext2 hlt _ _, .refl _⟩
def sigOk (l r : Str) : Bool := kpB l && decide (l.length ≤ 6) && (decide (r = []) || decide (r = [105]) || decide (r = [112]))
def sigV (t : Str) : V := match sigS t with
  | none => .tup [.s [], .s [], .b false]
  | some (l, r) => .tup [.s l, .s r, .b (sigOk l r)]
theorem sigS_at : ∀ {t : Str} {i : Nat}, (62 : UInt8) ∉ t.take i → (h : i < t.length) → t[i] = 62 → sigS t = some (t.take i, t.drop (i + 1))
  | [], i, _, h, _ => by simp at h
  | c :: r, 0, _, _, e => by simp at e; simp [sigS, e]
  | c :: r, i + 1, hn, h, e => by
    simp at hn h e
    have hc : ¬ c = 62 := fun h => hn.1 h.symm
    simp [sigS, hc, sigS_at hn.2 h e]
theorem sigS_no : ∀ {t : Str}, (62 : UInt8) ∉ t → sigS t = none
  | [], _ => rfl
  | c :: r, h => by
    simp at h
    have hc : ¬ c = 62 := fun e => h.1 e.symm
    simp [sigS, hc, sigS_no h.2]
def SigInv (t : Str) (H : Hp) (m : Nat) (F : Fr) (X : Hp) : Prop :=
  ∃ i, i ≤ t.length ∧ m = t.length - i ∧ (62 : UInt8) ∉ t.take i ∧ X = H ∧ F = [(0, .s t), (5, .i .i64 i)]
theorem Sig_ok (t : Str) (ht : t.length ≤ 9223372036854775807) (H : Hp) : AC Tryz.prog n_weftref15_Sig [.s t] H (fun v H' => v = sigV t ∧ H' = H) := by
  refine AC.code weftref15_Sig.at weftref15_Sig.ok ?_
  simp only [weftref15_Sig]
  refine AX.seq (AX.reg ?_)
  simp [weftref15_Sig.r0]
  refine AX.seq (AX.seq (AX.reg ?_))
  simp [weftref15_Sig.r1]
  refine AX.pblock (AX.loop (SigInv t H) t.length ⟨_, _, .refl _ _, 0, by omega, by omega, by simp, rfl, rfl⟩ ?_)
  rintro m F X ⟨i, hi, rfl, hn, rfl, rfl⟩
  simp only [weftref15_Sig.l0]
  refine AX.seq (AX.seq (AX.reg ?_))
  simp [weftref15_Sig.r2]
  refine AX.pcond rfl (fun hb => AX.skip ?_) (fun hb => AX.exit ?_)
  case refine_2 =>
    simp at hb
    rw [List.take_of_length_le hb] at hn
    simp
    refine AX.seq (AX.reg ?_)
    simp [weftref15_Sig.r7]
    refine AX.ret ?_
    simp [sigV, sigS_no hn]
  simp at hb
  simp
  refine AX.seq (AX.pblock (AX.seq (AX.reg ?_)))
  have e1 : ((t[i].toNat : Int) = 62) = (t[i] = 62) := u8_ne t[i] 62 (by omega)
  simp [weftref15_Sig.r3, hb, e1]
  refine AX.pcond rfl (fun hc => ?_) (fun hc => AX.skip ?_)
  · simp at hc
    have es := sigS_at hn hb hc
    refine AX.seq (AX.reg ?_)
    simp [weftref15_Sig.r4, succ_of_lt hb ht, show i + 1 ≤ t.length from hb, show (0 : Int) ≤ (i : Int) + 1 by omega, show (i : Int) + 1 ≤ (t.length : Int) by omega]
    generalize hl : t.take i = l at *
    generalize hr : t.drop (i + 1) = r at *
    have hll : l.length ≤ 9223372036854775807 := by rw [← hl]; simp; omega
    have hil : i ≤ t.length := hi
    refine AX.seq (AX.drw ?_)
    simp [weftref15_Sig.r5, hil, hl]
    refine callD_pure _ (fun H2 => RKinds_ok l 0 6 hll H2) ?_
    have eq : sigOk l r = ((kpB l && (decide ((0 : Int) ≤ l.length) && decide ((l.length : Int) ≤ 6))) && (decide (r = []) || decide (r = [105]) || decide (r = [112]))) := by
      unfold sigOk
      cases kpB l <;> simp
    have eV : sigV t = .tup [.s l, .s r, .b (sigOk l r)] := by unfold sigV; rw [es]
    rw [eV, eq]
    generalize (kpB l && (decide ((0 : Int) ≤ l.length) && decide ((l.length : Int) ≤ 6))) = q
    cases q
    · simp
      refine AX.ret ?_
      simp
    by_cases r0 : r = []
    · simp [r0]
      refine AX.ret ?_
      simp
    by_cases r1 : r = [105]
    · simp [r0, r1]
      refine AX.ret ?_
      simp
    have q1 : (r == [105]) = false := by simpa using r1
    have q0 : (r == []) = false := by simpa using r0
    by_cases r2 : r = [112]
    · simp [r0, r1, r2, q0, q1]
      refine AX.ret ?_
      simp
    have q2 : (r == [112]) = false := by simpa using r2
    simp [r0, r1, r2, q0, q1, q2]
    refine AX.ret ?_
    simp [r0, r1, r2]
  simp at hc
  simp
  refine AX.reg ?_
  simp [weftref15_Sig.r6, succ_of_lt hb ht]
  refine ⟨t.length - (i + 1), by omega, _, _, .refl _ _, i + 1, by omega, rfl, ?_, rfl, by simp⟩
  rw [List.take_add_one, List.getElem?_eq_getElem hb]
  intro hm
  rcases List.mem_append.1 hm with hm | hm
  · exact hn hm
  · simp at hm; exact hc hm.symm
end Go.Proofs.YtjemhlndmkbneaaGreatDoor
namespace Go.Proofs.YtjemhlndmkbneaaGreatDoor
open Am C
set_option linter.unusedSimpArgs false
set_option linter.unusedVariables false
def mk1B (n : Nat) (l : List Mk) (m : Mk) : Bool := decide (0 ≤ m.pos) && decide (m.pos < n) && tagB m.tag && decide (∀ x, l.getLast? = some x → x.pos ≤ m.pos)
theorem mkB_eq (n : Nat) (l : List Mk) (m : Mk) : mkB n l m = (mk1B n l m && decide (m ∉ l)) := rfl
theorem mksB_step {n : Nat} {ms : List Mk} {i : Nat} (h : i < ms.length) : mksB n (ms.take i) (ms.drop i) = (mkB n (ms.take i) ms[i] && mksB n (ms.take (i + 1)) (ms.drop (i + 1))) := by
  rw [List.drop_eq_getElem_cons h]
  simp only [mksB]
  rw [List.take_append_getElem h]
theorem mk_eq (q mk : Mk) : cellsEq [0, 1] [.i .i64 q.pos, .s q.tag] [.i .i64 mk.pos, .s mk.tag] = some (decide (q = mk)) := by
  have : decide (q = mk) = (decide (q.pos = mk.pos) && decide (q.tag = mk.tag)) := by
    cases q; cases mk; simp
  rw [this]
  have e1 : (q.pos == mk.pos) = decide (q.pos = mk.pos) := rfl
  have e2 : (q.tag == mk.tag) = decide (q.tag = mk.tag) := by rw [Bool.eq_iff_iff]; simp
  simp only [cellsEq, cellEq, if_true, e1, e2]
  cases decide (q.pos = mk.pos) <;> cases decide (q.tag = mk.tag) <;> rfl
def ObInv (o : Ob) (H : Hp) (m : Nat) (F : Fr) (X : Hp) : Prop :=
  ∃ i, i ≤ o.marks.length ∧ m = o.marks.length - i ∧ mksB o.kinds.length [] o.marks = mksB o.kinds.length (o.marks.take i) (o.marks.drop i) ∧ H.Ext X ∧ (∀ id blk, X.get id = some blk → id < X.next) ∧ F = [(1, .fp (obcs o) 0), (5, .i .i64 i)]
def Ob1Inv (o : Ob) (i : Nat) (mk : Mk) (id : Nat) (Y : Hp) (m : Nat) (F : Fr) (X : Hp) : Prop :=
  ∃ k, k ≤ i ∧ m = i - k ∧ mk ∉ o.marks.take k ∧ X = Y ∧ F = [(1, .fp (obcs o) 0), (5, .i .i64 i), (6, .p (some (id, 0, 2))), (7, .i .i64 k)]
theorem Robject_ok (o : Ob) (h1 : o.name.length ≤ 9223372036854775807) (h2 : o.kinds.length ≤ 9223372036854775807) (h3 : o.marks.length ≤ 9223372036854775807) (h4 : ∀ m ∈ o.marks, m.tag.length ≤ 9223372036854775807) (H : Hp) :
    AC Tryz.prog n_weftref15_object [.agg (obcs o)] H (fun v H' => v = .i .i64 (obE o) ∧ H' = H) := by
  refine AC.codeP weftref15_object.at weftref15_object.ok (by simp) fun hlt => ?_
  simp only [weftref15_object]
  refine AX.seq (AX.reg ?_)
  simp [weftref15_object.r0, obcs]
  refine AX.seq (AX.reg ?_)
  simp [weftref15_object.r1]
  refine AC.fix (Read14_ok o.name h1 _) ?_
  rw [readN_eq]
  cases hr : readN o.name with
  | none =>
    simp [rdV, nv, Nd.cs, Nd.zero]
    refine AX.seq (AX.seq (AX.reg ?_))
    simp [weftref15_object.r2]
    refine AX.pcond (t := true) rfl (fun _ => ?_) (fun h => by simp at h)
    refine AX.seq (AX.reg ?_)
    simp [weftref15_object.r3]
    refine AX.ret ?_
    simp [obE, hr]
    exact ⟨ext2 hlt _ _, .refl _⟩
  | some d =>
    simp [rdV, nv, Nd.cs]
    refine AX.seq ?_
    refine AX.test (decide (d.kind < 5) || decide (0 ≤ d.cell)) [(1, .fp (obcs o) 0), (25, .b (decide (d.kind < 5) || decide (0 ≤ d.cell)))] ?_ rfl (fun hb => ?_) (fun hb => AX.skip ?_)
    · by_cases k : d.kind < 5
      · simp [weftref15_object.r2, obcs, k]
      · simp [weftref15_object.r2, obcs, k]
    · refine AX.seq (AX.reg ?_)
      simp [weftref15_object.r3]
      refine AX.ret ?_
      simp at hb
      simp [obE, hr, hb]
      exact ⟨ext2 hlt _ _, .refl _⟩
    simp at hb
    have hb' : ¬ (d.kind < 5 ∨ 0 ≤ d.cell) := by omega
    have X2 := ext2 hlt (.cells [.i .i64 0, .s [], .i .i64 0, .s [], .i .i64 0, .i .i64 0] 6) (.cells [.i .i64 d.kind, .s d.fn, .i .i64 d.copy, .s d.name, .i .i64 d.n, .i .i64 d.cell] 6)
    have L2 := lt2 hlt (.cells [.i .i64 0, .s [], .i .i64 0, .s [], .i .i64 0, .i .i64 0] 6) (.cells [.i .i64 d.kind, .s d.fn, .i .i64 d.copy, .s d.name, .i .i64 d.n, .i .i64 d.cell] 6)
    generalize (H.add (.cells [.i .i64 0, .s [], .i .i64 0, .s [], .i .i64 0, .i .i64 0] 6)).upd H.next (.cells [.i .i64 d.kind, .s d.fn, .i .i64 d.copy, .s d.name, .i .i64 d.n, .i .i64 d.cell] 6) = X at *
    simp
    refine AX.seq (AX.seq (AX.reg ?_))
    simp [weftref15_object.r4, obcs]
    refine AC.fix (RKinds_ok o.kinds 1 64 h2 _) ?_
    have eB : (kpB o.kinds && (decide ((1 : Int) ≤ o.kinds.length) && decide ((o.kinds.length : Int) ≤ 64))) = decide (kpB o.kinds = true ∧ 1 ≤ o.kinds.length ∧ o.kinds.length ≤ 64) := by
      rw [Bool.eq_iff_iff]; simp
    rw [eB]
    by_cases hk : kpB o.kinds = true ∧ 1 ≤ o.kinds.length ∧ o.kinds.length ≤ 64
    case neg =>
      simp only [hk, decide_false]
      simp
      refine AX.pcond (t := true) rfl (fun _ => ?_) (fun h => by simp at h)
      refine AX.seq (AX.reg ?_)
      simp [weftref15_object.r5]
      refine AX.ret ?_
      have : obE o = 5 := by unfold obE; rw [hr]; simp only; rw [if_neg hb', if_pos hk]
      simp [this]
      exact ⟨X2, .refl _⟩
    have eo : obE o = if mksB o.kinds.length [] o.marks then 0 else 3 := by unfold obE; rw [hr]; simp only; rw [if_neg hb', if_neg (Classical.not_not.2 hk)]
    simp only [hk, decide_true]
    simp
    refine AX.pcond (t := false) rfl (fun h => by simp at h) (fun _ => AX.skip ?_)
    simp
    refine AX.seq (AX.seq (AX.reg ?_))
    simp [weftref15_object.r6]
    refine AX.pblock (AX.loop (ObInv o H) o.marks.length ⟨_, _, .refl _ _, 0, by omega, by omega, rfl, X2, L2, by simp [obcs]⟩ ?_)
    rintro m F Y ⟨i, hi, rfl, hm, X3, L3, rfl⟩
    simp only [weftref15_object.l0]
    refine AX.seq (AX.seq (AX.reg ?_))
    simp [weftref15_object.r7, obcs]
    refine AX.pcond rfl (fun hc => AX.skip ?_) (fun hc => AX.exit ?_)
    case refine_2 =>
      simp at hc
      rw [List.drop_eq_nil_of_le hc] at hm
      simp only [mksB] at hm
      simp
      refine AX.seq (AX.reg ?_)
      simp [weftref15_object.r17]
      refine AX.ret ?_
      simp [eo, hm]
      exact ⟨X3, .refl _⟩
    simp at hc
    rw [mksB_step hc, mkB_eq] at hm
    simp
    have hmt := h4 _ (List.getElem_mem hc)
    generalize hmk : o.marks[i] = mk at *
    have hg : o.marks[i]? = some mk := by rw [List.getElem?_eq_getElem hc, hmk]
    refine AX.seq (AX.pblock (AX.seq (AX.reg ?_)))
    simp [weftref15_object.r8, hg, mkcs]
    have X4 := X3.trans (ext2 L3 (.cells [.i .i64 0, .s []] 2) (.cells [.i .i64 mk.pos, .s mk.tag] 2))
    have L4 := lt2 L3 (.cells [.i .i64 0, .s []] 2) (.cells [.i .i64 mk.pos, .s mk.tag] 2)
    have G4 : ((Y.add (.cells [.i .i64 0, .s []] 2)).upd Y.next (.cells [.i .i64 mk.pos, .s mk.tag] 2)).get Y.next = some (.cells [.i .i64 mk.pos, .s mk.tag] 2) := by simp
    generalize (Y.add (.cells [.i .i64 0, .s []] 2)).upd Y.next (.cells [.i .i64 mk.pos, .s mk.tag] 2) = Z at *
    generalize Y.next = id at *
    refine AX.seq ?_
    refine AX.testD (!mk1B o.kinds.length (o.marks.take i) mk) [(1, .fp (obcs o) 0), (5, .i .i64 i), (6, .p (some (id, 0, 2))), (80, .b (!mk1B o.kinds.length (o.marks.take i) mk))] ?_ rfl (fun hb => ?_) (fun hb => AX.skip ?_)
    · by_cases c1 : mk.pos < 0
      · simp [weftref15_object.r9, obcs, G4, c1, mk1B, show ¬ 0 ≤ mk.pos by omega]
      by_cases c2 : (o.kinds.length : Int) ≤ mk.pos
      · simp [weftref15_object.r9, obcs, G4, c1, c2, mk1B, show ¬ mk.pos < o.kinds.length by omega]
      by_cases c3 : mk.tag.length < 1
      · simp [weftref15_object.r9, obcs, G4, c1, c2, c3, mk1B, tagB, show ¬ 1 ≤ mk.tag.length by omega]
      by_cases c4 : 60 < mk.tag.length
      · simp [weftref15_object.r9, obcs, G4, c1, c2, c3, c4, mk1B, tagB, show ¬ mk.tag.length ≤ 60 by omega]
      have t0 : mk1B o.kinds.length (o.marks.take i) mk = decide (∀ x, (o.marks.take i).getLast? = some x → x.pos ≤ mk.pos) := by
        unfold mk1B tagB
        rw [decide_eq_true (show 0 ≤ mk.pos by omega), decide_eq_true (show mk.pos < o.kinds.length by omega), decide_eq_true (show 1 ≤ mk.tag.length by omega), decide_eq_true (show mk.tag.length ≤ 60 by omega)]
        simp
      cases i with
      | zero =>
        have t00 : mk1B o.kinds.length [] mk = true := by simpa using t0
        simp [weftref15_object.r9, obcs, G4, c1, c2, c3, c4, t00]
      | succ j =>
        have hj : j < o.marks.length := by omega
        have t1 : mk1B o.kinds.length (o.marks.take (j + 1)) mk = decide (o.marks[j].pos ≤ mk.pos) := by
          rw [t0]
          have : (o.marks.take (j + 1)).getLast? = some o.marks[j] := by
            rw [List.getLast?_eq_getElem?, List.length_take, Nat.min_eq_left (by omega)]
            simp [List.getElem?_take, hj]
          simp [this]
        have hgj : o.marks[j]? = some o.marks[j] := List.getElem?_eq_getElem hj
        generalize o.marks[j] = pm at *
        have hwj : IntKind.i64.wrap (j : Int) = (j : Int) := wrap_i64 (by omega) (by omega)
        by_cases c5 : mk.pos < pm.pos
        · simp [weftref15_object.r9, obcs, G4, c1, c2, c3, c4, t1, hgj, mkcs, c5, hwj, show ¬ pm.pos ≤ mk.pos by omega]
        · simp [weftref15_object.r9, obcs, G4, c1, c2, c3, c4, t1, hgj, mkcs, c5, hwj, show pm.pos ≤ mk.pos by omega]
    · refine AX.seq (AX.reg ?_)
      simp [weftref15_object.r10]
      refine AX.ret ?_
      simp at hb
      simp [eo, hm, hb]
      exact ⟨X4, .refl _⟩
    simp at hb
    simp
    refine AX.seq (AX.reg ?_)
    simp [weftref15_object.r11]
    refine AX.pblock (AX.loop (Ob1Inv o i mk id Z) i ⟨_, _, .refl _ _, 0, by omega, by omega, by simp, rfl, by simp [obcs]⟩ ?_)
    rintro m F X' ⟨k, hk2, rfl, hnk, rfl, rfl⟩
    simp only [weftref15_object.l1]
    refine AX.seq (AX.seq (AX.reg ?_))
    simp [weftref15_object.r12]
    refine AX.pcond rfl (fun hd => AX.skip ?_) (fun hd => AX.exit ?_)
    case refine_2 =>
      simp at hd
      have : k = i := by omega
      subst this
      simp
      refine AX.reg ?_
      simp [weftref15_object.r16, succ_of_lt hc h3]
      refine ⟨o.marks.length - (k + 1), by omega, _, _, .refl _ _, k + 1, by omega, rfl, ?_, X4, L4, by simp [obcs]⟩
      rw [hm, hb]; simp [hnk]
    simp at hd
    simp
    have hk3 : k < o.marks.length := by omega
    have hgk : o.marks[k]? = some o.marks[k] := List.getElem?_eq_getElem hk3
    have htk : o.marks.take (k + 1) = o.marks.take k ++ [o.marks[k]] := by rw [List.take_add_one, hgk]; rfl
    generalize hmq : o.marks[k] = q at *
    refine AX.seq (AX.pblock ?_)
    refine AX.testD (decide (q = mk)) [(1, .fp (obcs o) 0), (5, .i .i64 i), (6, .p (some (id, 0, 2))), (7, .i .i64 k), (92, .b (decide (q = mk)))] ?_ rfl (fun hb2 => ?_) (fun hb2 => AX.skip ?_)
    · simp [weftref15_object.r13, obcs, G4, hgk, mkcs]
      rw [mk_eq]
      simp [obcs, mkcs]
    · simp at hb2
      refine AX.seq (AX.reg ?_)
      simp [weftref15_object.r14]
      refine AX.ret ?_
      have : mk ∈ o.marks.take i := List.mem_of_getElem? (i := k) (by rw [List.getElem?_take, if_pos hd, hgk, hb2])
      simp [eo, hm, this]
      exact ⟨X4, .refl _⟩
    simp at hb2
    simp
    refine AX.reg ?_
    simp [weftref15_object.r15, succ_of_lt hd (show i ≤ 9223372036854775807 by omega)]
    refine ⟨i - (k + 1), by omega, _, _, .refl _ _, k + 1, by omega, rfl, ?_, rfl, by simp [obcs]⟩
    rw [htk]
    simp [hnk]
    exact fun h => hb2 h.symm
end Go.Proofs.YtjemhlndmkbneaaGreatDoor
