/- Part 26 of the proof of the laws of the queries: SyM, S20a, S20b. -/
import Derived.Test.YtjajpilacdfnbaaGreatDoorX19
import Derived.Test.YtjajpilacdfnbaaGreatDoorX25
namespace Go.Proofs.YtjajpilacdfnbaaGreatDoor
open Am C
set_option linter.unusedSimpArgs false
set_option linter.unusedVariables false
@[simp ↓] theorem isCell_ss (l : List Str) : y5l (ss l) = true := rfl
@[simp ↓] theorem cellsV_ss (l : List Str) : yaj (ss l) = some [ss l] := rfl
structure Su where
  name : Str
  gives : List Str
  wants : List Str
  keeps : List Str
  sys : Sy
def y3z (s : Su) : List V := [.s s.name, ss s.gives, ss s.wants, ss s.keeps, .fs (s.sys.objs.map y49), .fs (s.sys.fns.map y6i), .fs (s.sys.cons.map y4l)]
def risB (l : List Str) : Bool := decide (∀ j, j < l.length - 1 → ltB (l.getD j []) (l.getD (j + 1) []) = true)
theorem risB_iff {l : List Str} : risB l = true ↔ y52 l := by
  unfold risB
  rw [decide_eq_true_eq]
  induction l with
  | nil => simp [y52]
  | cons x r ih =>
    constructor
    · intro h
      have hr : y52 r := ih.1 fun j hj => by
        have := h (j + 1) (by simp at hj ⊢; omega)
        simpa using this
      refine List.pairwise_cons.2 ⟨fun y hy => ?_, hr⟩
      cases r with
      | nil => cases hy
      | cons z q =>
        have h0 := h 0 (by simp)
        simp at h0
        rcases List.mem_cons.1 hy with rfl | hy
        · exact h0
        · exact y9i h0 ((List.pairwise_cons.1 hr).1 y hy)
    · intro h j hj
      have h' := List.pairwise_cons.1 h
      cases j with
      | zero =>
        cases r with
        | nil => simp at hj
        | cons z q => simpa using h'.1 z (by simp)
      | succ j =>
        have := ih.2 h'.2 j (by simp at hj ⊢; omega)
        simpa using this
def ya5 (s : Sy) (n : Str) : Bool := s.objs.any (fun o => decide (o.name = n)) || s.fns.any (fun f => decide (f.name = n))
def ybe (s : Sy) (l : List Str) : Int := if risB l = false then 13 else if l.all (ya5 s) = false then 7 else 0
def suE (s : Su) : Int :=
  if y5o s.name = false then 11 else orI [yee s.sys, ybe s.sys s.gives, ybe s.sys s.wants, if s.gives.any (fun n => decide (n ∈ s.wants)) then 8 else 0, if 6000 < s.keeps.length then 4 else 0,
    if risB s.keeps = false then 13 else 0, if s.keeps.all y7c = false then 11 else 0]
abbrev Th := Ob ⊕ Fu
def thN : Th → Str
  | .inl o => o.name
  | .inr f => f.name
def ybi (s : Sy) : List Th := s.objs.map .inl ++ s.fns.map .inr
def yb3 (l : List Su) : List Str := l.flatMap fun s => (ybi s.sys).map thN
def y63 (l : List Su) (n : Str) : List (Su × Th) := l.filterMap fun s => ((ybi s.sys).find? fun t => decide (thN t = n)).map fun t => (s, t)
structure Sm where
  name : Str
  giver : Str
  wanted : List Str
def ycn (x : Sm) : List V := [.s x.name, .s x.giver, ss x.wanted]
def gvB (n : Str) (s : Su) : Bool := decide (n ∈ s.gives)
def wnB (n : Str) (s : Su) : Bool := !decide (n ∈ s.gives) && decide (n ∈ s.wants)
def owB (n : Str) (s : Su) : Bool := !decide (n ∈ s.gives) && !decide (n ∈ s.wants)
def gvs (n : Str) (X : List (Su × Th)) : List Su := (X.map Prod.fst).filter (gvB n)
def wns (n : Str) (X : List (Su × Th)) : List Su := (X.map Prod.fst).filter (wnB n)
def ows (n : Str) (X : List (Su × Th)) : List Su := (X.map Prod.fst).filter (owB n)
def y9j (n : Str) (X : List (Su × Th)) : Str := match (gvs n X).getLast? with
  | some s => s.name
  | none => []
def y9n (n : Str) (X : List (Su × Th)) : List Str := y3y ((wns n X).map Su.name)
def yh8 (X : List (Su × Th)) : Bool := X.any fun t => X.any fun u => decide (t.2 ≠ u.2)
def yex (n : Str) (X : List (Su × Th)) : Int :=
  if 1 < (gvs n X).length ∨ (0 < (ows n X).length ∧ 1 < X.length) then 8 else if yh8 X then 12 else if wns n X ≠ [] ∧ gvs n X = [] then 7 else 0
def yao (l : List Su) (n : Str) : Sm := ⟨n, y9j n (y63 l n), y9n n (y63 l n)⟩
def ycs : List Str → List Su → Option (Str × Int)
  | _, [] => none
  | ns, s :: r => if suE s ≠ 0 then some (s.name, suE s) else if s.name ∈ ns then some (s.name, 8) else ycs (ns ++ [s.name]) r
def yf0 (l : List Su) : List Str → List Sm → List Sm × Str × Int
  | [], out => (out, [], 0)
  | n :: r, out => if yex n (y63 l n) ≠ 0 then ([], n, yex n (y63 l n)) else yf0 l r (if y9j n (y63 l n) ≠ [] then out ++ [yao l n] else out)
def yf1 (l : List Su) : List Sm × Str × Int :=
  if 8 < l.length then ([], [], 4) else match ycs [] l with
    | some (n, e) => ([], n, e)
    | none => yf0 l (y3y (yb3 l)) []
theorem yg6 {s : Su} (h : suE s = 0) : y5o s.name = true ∧ yee s.sys = 0 ∧ (y52 s.gives ∧ ∀ n ∈ s.gives, ya5 s.sys n = true) ∧ (y52 s.wants ∧ ∀ n ∈ s.wants, ya5 s.sys n = true) ∧ ∀ n ∈ s.gives, n ∉ s.wants := by
  unfold suE at h
  split at h
  · cases h
  rename_i h0
  obtain ⟨h1, h⟩ := y9q h
  obtain ⟨h2, h⟩ := y9q h
  obtain ⟨h3, h⟩ := y9q h
  obtain ⟨h4, h⟩ := y9q h
  have lst : ∀ {l : List Str}, ybe s.sys l = 0 → y52 l ∧ ∀ n ∈ l, ya5 s.sys n = true := fun {l} e => by
    unfold ybe at e
    split at e
    · cases e
    rename_i e1
    split at e
    · cases e
    rename_i e2
    exact ⟨risB_iff.1 (by simpa using e1), fun n hn => List.all_eq_true.1 (by simpa using e2) n hn⟩
  refine ⟨by simpa using h0, h1, lst h2, lst h3, fun n hn hw => ?_⟩
  rw [if_pos (List.any_eq_true.2 ⟨n, hn, by simpa using hw⟩)] at h4
  cases h4
theorem yfo {α : Type} {ask : α → Int} {nm : α → Str} : ∀ {l : List α} {p : Option α}, chk ask (fun a b => y8i (nm a) (nm b)) p l = 0 → (∀ y, p = some y → ∀ x ∈ l, ltB (nm y) (nm x) = true) ∧ y52 (l.map nm)
  | [], _, _ => ⟨fun _ _ x h => (by cases h), by simp [y52]⟩
  | x :: r, p, h => by
    simp only [chk] at h
    by_cases h1 : ask x = 0
    rotate_left
    · rw [if_pos h1] at h; exact absurd h h1
    rw [if_neg (by simpa using h1)] at h
    have key : (∀ y, p = some y → ltB (nm y) (nm x) = true) ∧ chk ask (fun a b => y8i (nm a) (nm b)) (some x) r = 0 := by
      cases p with
      | none => exact ⟨fun y hy => (by cases hy), by simpa using h⟩
      | some y =>
        simp only [ymi] at h
        by_cases h2 : ltB (nm y) (nm x) = true
        · exact ⟨fun z hz => by injection hz with hz; subst hz; exact h2, by simpa [h2] using h⟩
        · simp [h2] at h
    obtain ⟨hx, h⟩ := key
    obtain ⟨a, b⟩ := yfo h
    refine ⟨fun y hy z hz => ?_, ?_⟩
    · rcases List.mem_cons.1 hz with rfl | hz
      · exact hx y hy
      · exact y9i (hx y hy) (a x rfl z hz)
    · rw [List.map_cons]
      refine List.pairwise_cons.2 ⟨fun z hz => ?_, b⟩
      obtain ⟨w, hw, rfl⟩ := List.mem_map.1 hz
      exact a x rfl w hw
theorem sys_chk {s : Sy} (h : yee s = 0) : chk obE yg1 none s.objs = 0 ∧ chk fuE yg2 none s.fns = 0 := by
  unfold yee at h
  split at h
  · cases h
  obtain ⟨h1, h⟩ := y9q h
  obtain ⟨h2, h⟩ := y9q h
  exact ⟨h1, h2⟩
theorem ylz {o : Ob} (h : obE o = 0) : ∃ d, y7k o.name = some d ∧ ¬ d.kind < 5 := by
  unfold obE at h
  cases hr : y7k o.name with
  | none => rw [hr] at h; cases h
  | some d =>
    rw [hr] at h
    simp only at h
    split at h
    · cases h
    rename_i h1
    exact ⟨d, rfl, fun hh => h1 (.inl hh)⟩
theorem fu_kind {f : Fu} (h : fuE f = 0) : ∃ d, y7k f.name = some d ∧ d.kind = 4 := by
  unfold fuE at h
  cases hr : y7k f.name with
  | none => rw [hr] at h; cases h
  | some d =>
    rw [hr] at h
    simp only at h
    split at h
    · cases h
    rename_i h1
    exact ⟨d, rfl, Classical.byContradiction h1⟩
theorem ygb {l : List Str} (h : y52 l) : l.Nodup := List.Pairwise.imp (fun {a b} h e => by subst e; exact y8u _ h) h
theorem yl5 {s : Sy} (h : yee s = 0) : ((ybi s).map thN).Nodup := by
  obtain ⟨h1, h2⟩ := sys_chk h
  have hok := ydd h
  have r1 := (yfo (nm := Ob.name) h1).2
  have r2 := (yfo (nm := Fu.name) h2).2
  have e : (ybi s).map thN = s.objs.map Ob.name ++ s.fns.map Fu.name := by
    unfold ybi
    simp [List.map_append, List.map_map, Function.comp_def, thN]
  rw [e]
  refine List.nodup_append.2 ⟨ygb r1, ygb r2, fun a ha b hb hab => ?_⟩
  subst hab
  obtain ⟨o, ho, rfl⟩ := List.mem_map.1 ha
  obtain ⟨f, hf, he⟩ := List.mem_map.1 hb
  obtain ⟨d, d1, d2⟩ := ylz (hok.2.2.2.1 o ho)
  obtain ⟨d', d3, d4⟩ := fu_kind (hok.2.2.2.2.1 f hf)
  rw [he, d1] at d3
  injection d3 with d3
  subst d3
  omega
theorem ydq {α : Type} {nm : α → Str} {n : Str} : ∀ {l : List α}, (l.map nm).Nodup → l.filter (fun t => decide (nm t = n)) = (l.find? fun t => decide (nm t = n)).toList
  | [], _ => rfl
  | x :: r, h => by
    rw [List.map_cons, List.nodup_cons] at h
    by_cases e : nm x = n
    · simp only [List.filter_cons, List.find?_cons, e, decide_true, if_true, Option.toList_some, List.cons.injEq, true_and]
      rw [List.filter_eq_nil_iff]
      intro y hy hh
      have : nm y = n := by simpa using hh
      exact h.1 (List.mem_map.2 ⟨y, hy, by rw [this, e]⟩)
    · simp only [List.filter_cons, List.find?_cons, e, decide_false, Bool.false_eq_true, if_false]
      exact ydq h.2
def gatX (l : List Su) (n : Str) : List (Su × Th) := l.flatMap fun s => ((ybi s.sys).filter fun t => decide (thN t = n)).map fun t => (s, t)
theorem gat_has {l : List Su} (h : ∀ s ∈ l, yee s.sys = 0) (n : Str) : gatX l n = y63 l n := by
  induction l with
  | nil => rfl
  | cons s r ih =>
    have := ih fun s hs => h s (by simp [hs])
    unfold gatX y63 at this ⊢
    rw [List.flatMap_cons, this, ydq (yl5 (h s (by simp))), List.filterMap_cons]
    cases (ybi s.sys).find? fun t => decide (thN t = n) <;> simp
theorem ybx : ∀ {l : List Su} {ns : List Str}, ycs ns l = none ↔ (∀ s ∈ l, suE s = 0) ∧ (l.map Su.name).Nodup ∧ ∀ s ∈ l, s.name ∉ ns
  | [], ns => by simp [ycs]
  | s :: r, ns => by
    simp only [ycs]
    by_cases h1 : suE s = 0
    · by_cases h2 : s.name ∈ ns
      · simp [h1, h2]
      · simp only [h1, h2, ne_eq, not_true_eq_false, if_false, ybx (l := r)]
        constructor
        · rintro ⟨a, b, c⟩
          refine ⟨fun x hx => ?_, ?_, fun x hx => ?_⟩
          · rcases List.mem_cons.1 hx with rfl | hx
            · exact h1
            · exact a x hx
          · rw [List.map_cons, List.nodup_cons]
            refine ⟨fun hm => ?_, b⟩
            obtain ⟨y, hy, e⟩ := List.mem_map.1 hm
            exact c y hy (by simp [e])
          · rcases List.mem_cons.1 hx with rfl | hx
            · exact h2
            · exact fun hm => c x hx (by simp [hm])
        · rintro ⟨a, b, c⟩
          rw [List.map_cons, List.nodup_cons] at b
          refine ⟨fun x hx => a x (by simp [hx]), b.2, fun x hx hm => ?_⟩
          rcases List.mem_append.1 hm with hm | hm
          · exact c x (by simp [hx]) hm
          · simp at hm
            exact b.1 (List.mem_map.2 ⟨x, hx, hm⟩)
    · simp [h1]
theorem run_ok {l : List Su} : ∀ {ns : List Str} {out : List Sm}, ((yf0 l ns out).2.2 = 0 ↔ ∀ n ∈ ns, yex n (y63 l n) = 0) ∧
    ((∀ n ∈ ns, yex n (y63 l n) = 0) → yf0 l ns out = (out ++ (ns.filter fun n => decide (y9j n (y63 l n) ≠ [])).map (yao l), [], 0))
  | [], out => by simp [yf0]
  | n :: r, out => by
    simp only [yf0]
    by_cases h : yex n (y63 l n) = 0
    · have ih := @run_ok l r (if y9j n (y63 l n) ≠ [] then out ++ [yao l n] else out)
      rw [if_neg (by simpa using h)]
      refine ⟨ih.1.trans (by simp [h]), fun hh => ?_⟩
      rw [ih.2 fun m hm => hh m (by simp [hm])]
      by_cases g : y9j n (y63 l n) = []
      · simp [g]
      · simp [g]
    · rw [if_pos h]
      refine ⟨by simp [h], fun hh => absurd (hh n (by simp)) h⟩
def okL (l : List Su) : Prop := l.length ≤ 8 ∧ (∀ s ∈ l, suE s = 0) ∧ (l.map Su.name).Nodup ∧ ∀ n ∈ yb3 l, yex n (y63 l n) = 0
theorem res_ok {l : List Su} : ((yf1 l).2.2 = 0 ↔ okL l) ∧ (okL l → yf1 l = (((y3y (yb3 l)).filter fun n => decide (y9j n (y63 l n) ≠ [])).map (yao l), [], 0)) := by
  unfold yf1 okL
  by_cases h8 : 8 < l.length
  · rw [if_pos h8]
    exact ⟨⟨fun h => absurd h (by decide), fun h => by have := h.1; omega⟩, fun h => by have := h.1; omega⟩
  rw [if_neg h8]
  cases hb : ycs [] l with
  | some p =>
    obtain ⟨n, e⟩ := p
    have hne : e ≠ 0 := by
      have : ∀ {l : List Su} {ns : List Str} {n : Str} {e : Int}, ycs ns l = some (n, e) → e ≠ 0 := by
        intro l
        induction l with
        | nil => intro ns n e h; cases h
        | cons s r ih =>
          intro ns n e h
          simp only [ycs] at h
          split at h
          · injection h with h; injection h with _ h; subst h; assumption
          split at h
          · injection h with h; injection h with _ h; subst h; decide
          · exact ih h
      exact this hb
    refine ⟨⟨fun h => absurd h hne, fun h => ?_⟩, fun h => ?_⟩
    · have := (ybx (ns := [])).2 ⟨h.2.1, h.2.2.1, fun s _ hm => by cases hm⟩
      rw [hb] at this; cases this
    · have := (ybx (ns := [])).2 ⟨h.2.1, h.2.2.1, fun s _ hm => by cases hm⟩
      rw [hb] at this; cases this
  | none =>
    obtain ⟨h1, h2, _⟩ := ybx.1 hb
    have r := @run_ok l (y3y (yb3 l)) []
    simp only [y7y] at r
    refine ⟨r.1.trans ⟨fun h => ⟨by omega, h1, h2, h⟩, fun h => h.2.2.2⟩, fun h => ?_⟩
    have := r.2 h.2.2.2
    simpa using this
theorem yji {a b : List Str} (h : ∀ x, x ∈ a ↔ x ∈ b) : y3y a = y3y b := yca (y95 _) (y95 _) fun x => by simp [y7y, h]
theorem res_bad {l : List Su} (hn : ¬ okL l) : (yf1 l).1 = [] := by
  have hz : (yf1 l).2.2 ≠ 0 := fun k => hn (res_ok.1.1 k)
  unfold yf1 at hz ⊢
  split
  · rfl
  rename_i h8
  rw [if_neg h8] at hz
  cases hb : ycs [] l with
  | some p => rfl
  | none =>
    rw [hb] at hz
    simp only at hz ⊢
    have : ∀ (ns : List Str) (out : List Sm), (yf0 l ns out).2.2 ≠ 0 → (yf0 l ns out).1 = [] := by
      intro ns
      induction ns with
      | nil => intro out h; simp [yf0] at h
      | cons n r ih =>
        intro out h
        simp only [yf0] at h ⊢
        split
        · rfl
        · rename_i hh
          rw [if_neg hh] at h
          exact ih _ h
    exact this _ _ hz
theorem has_mem {l : List Su} {n : Str} {s : Su} (h : s ∈ (y63 l n).map Prod.fst) : s ∈ l := by
  obtain ⟨p, hp, rfl⟩ := List.mem_map.1 h
  obtain ⟨s, hs, e⟩ := List.mem_filterMap.1 hp
  cases hf : (ybi s.sys).find? fun t => decide (thN t = n) with
  | none => rw [hf] at e; cases e
  | some u => rw [hf] at e; injection e with e; subst e; exact hs
end Go.Proofs.YtjajpilacdfnbaaGreatDoor
namespace Go.Proofs.YtjajpilacdfnbaaGreatDoor
open Am C
set_option linter.unusedSimpArgs false
set_option linter.unusedVariables false
theorem Trim_ok (s t : Str) (hs : s.length ≤ 9223372036854775807) (ht : t.length < 4294967281) (ha : t.all (fun b => decide (b.toNat < 128)) = true) (H : Hp) : AC Tryz.prog yb1 [.s s, .s t] H (fun v H' => v = .s (Go.Lib.trimS s t) ∧ H' = H) := by
  refine AC.below (by kernel_rfl) fun κ cs r => ?_
  obtain ⟨a, b, rfl, ra, rb⟩ := r.two'
  obtain rfl := vr_s ra
  obtain rfl := vr_s rb
  refine ⟨_, fun κ' => .s _, ?_⟩
  refine (Go.Proofs.Any.strings_Trim_laid Tryz.lays160 (by kernel_rfl) ⟨s.toArray⟩ ⟨t.toArray⟩ κ.w (show s.toArray.size ≤ 9223372036854775807 by simpa using hs) (show t.toArray.size < 4294967281 by simpa using ht) (by simpa using Go.Proofs.ascii_of_all ha)).mono fun e w' ⟨he, hw⟩ => ⟨?_, hw⟩
  rw [he]
theorem ynx (s : Str) (c : UInt8) (H : Hp) : AC Tryz.prog y67 [.s s, .s [c]] H (fun v H' => v = .i .i64 (Go.Lib.indexByte s c) ∧ H' = H) := by
  refine AC.below (by kernel_rfl) fun κ cs r => ?_
  obtain ⟨a, b, rfl, ra, rb⟩ := r.two'
  obtain rfl := vr_s ra
  obtain rfl := vr_s rb
  refine ⟨_, fun κ' => .i _ _, ?_⟩
  refine (Tryz.stringslite_Index_one ⟨s.toArray⟩ c κ.w).mono fun e w' ⟨he, hw⟩ => ⟨?_, ?_⟩
  · rw [he]
  · rw [hw]; exact .refl _ _
theorem trim_nil (s : Str) : (Go.Lib.trimS s [105, 112] = []) = (kpB s = true) := by
  have hp : ∀ l : Str, l.all (List.contains [105, 112]) = kpB l := fun l => by
    unfold kpB
    congr 1
    funext c
    simp [List.contains, List.elem]
    cases c == 105 <;> cases c == 112 <;> rfl
  apply propext
  unfold Go.Lib.trimS Go.Lib.trimLeftS Go.Lib.trimRightS
  rw [y8h, ← hp s]
  constructor
  · intro h
    rw [List.all_reverse] at h
    have hd : s.reverse.dropWhile (List.contains [105, 112]) = [] := by
      cases hx : s.reverse.dropWhile (List.contains [105, 112]) with
      | nil => rfl
      | cons c r =>
        have h1 := List.head_dropWhile_not (List.contains [105, 112]) (l := s.reverse) (by rw [hx]; simp)
        rw [hx] at h
        simp only [hx, List.head_cons] at h1
        simp only [List.all_cons, Bool.and_eq_true] at h
        rw [h1] at h; exact absurd h.1 (by simp)
    rw [y8h, List.all_reverse] at hd
    exact hd
  · intro h
    have : s.reverse.dropWhile (List.contains [105, 112]) = [] := by rw [y8h, List.all_reverse]; exact h
    rw [this]; rfl
theorem y9v (s : Str) (n : Int) (hs : s.length ≤ 9223372036854775807) (H : Hp) : AC Tryz.prog y4y [.s s, .i .i64 n] H (fun v H' => v = .b (kpB s && decide ((s.length : Int) ≤ n)) ∧ H' = H) := by
  refine AC.code y2p.at y2p.ok ?_
  simp only [y2p]
  refine AX.sr ?_
  simp [y2p.r0]
  refine AX.sr ?_
  simp [y2p.r1]
  refine AC.fix (Trim_ok s [105, 112] hs (by simp) (by rfl) _) ?_
  have ht := trim_nil s
  by_cases h : Go.Lib.trimS s [105, 112] = []
  · have hk : kpB s = true := by rw [← ht]; exact h
    simp [h]
    refine AX.ret ?_
    simp [hk]
  · have hk : kpB s = false := by
      cases e : kpB s
      · rfl
      · exact absurd (by rw [ht]; exact e) h
    simp [h, show (Go.Lib.trimS s [105, 112] == []) = false by simpa using h]
    refine AX.ret ?_
    simp [hk]
theorem ydc (s : Str) (hs : s.length ≤ 9223372036854775807) (H : Hp) : AC Tryz.prog y6m [.s s] H (fun v H' => v = .b (yh7 s) ∧ H' = H) := by
  refine AC.code y2x.at y2x.ok ?_
  simp only [y2x]
  refine AX.sr ?_
  simp [y2x.r0]
  refine AX.sr ?_
  by_cases h : s = []
  · simp [y2x.r1, h]
    refine AX.ret ?_
    simp [yh7]
  · have h1 : 1 ≤ s.length := by cases s <;> simp_all
    simp [y2x.r1, h, show (s == []) = false by simpa using h]
    refine AX.ret ?_
    simp [yh7, h1]
theorem y72 (s : Str) (hs : s.length ≤ 9223372036854775806) (H : Hp) : AC Tryz.prog y5h [.s s] H (fun v H' => v = .b (y7c s) ∧ H' = H) := by
  refine AC.codeP y33.at y33.ok (by simp) fun hlt => ?_
  simp only [y33]
  refine AX.sr ?_
  simp [y33.r0]
  refine AX.sr ?_
  simp [y33.r1]
  refine AC.fix (yc3 s hs _) ?_
  cases hr : y7k s with
  | none =>
    simp [rdV, nv, Nd.cs, Nd.zero]
    refine AX.sr ?_
    simp [y33.r2]
    refine AX.ret ?_
    simp [y7c, hr]
    exact ⟨(Hp.Ext.add hlt _).upd hlt (Nat.le_refl _) _, .refl _⟩
  | some d =>
    simp [rdV, nv, Nd.cs]
    refine AX.sr ?_
    by_cases hk : d.kind ≤ 3
    · simp [y33.r2, hk]
      refine AX.ret ?_
      simp [y7c, hr, hk]
      exact ⟨(Hp.Ext.add hlt _).upd hlt (Nat.le_refl _) _, .refl _⟩
    · simp [y33.r2, hk]
      refine AX.ret ?_
      simp [y7c, hr, hk]
      exact ⟨(Hp.Ext.add hlt _).upd hlt (Nat.le_refl _) _, .refl _⟩
theorem ynn (s : Str) (hs : s.length ≤ 9223372036854775806) (H : Hp) : AC Tryz.prog y99 [.s s] H (fun v H' => v = .b (ya0 s) ∧ H' = H) := by
  refine AC.codeP y2u.at y2u.ok (by simp) fun hlt => ?_
  simp only [y2u]
  refine AX.sr ?_
  simp [y2u.r0]
  refine AX.sr ?_
  simp [y2u.r1]
  refine AC.fix (yc3 s hs _) ?_
  cases hr : y7k s with
  | none =>
    simp [rdV, nv, Nd.cs, Nd.zero]
    refine AX.sr ?_
    simp [y2u.r2]
    refine AX.ret ?_
    simp [ya0, hr]
    exact ⟨(Hp.Ext.add hlt _).upd hlt (Nat.le_refl _) _, .refl _⟩
  | some d =>
    simp [rdV, nv, Nd.cs]
    refine AX.sr ?_
    by_cases hk : d.kind = 4
    · simp [y2u.r2, hk]
      refine AX.ret ?_
      simp [ya0, hr, hk]
      exact ⟨(Hp.Ext.add hlt _).upd hlt (Nat.le_refl _) _, .refl _⟩
    · simp [y2u.r2, hk]
      refine AX.ret ?_
      simp [ya0, hr, hk]
      exact ⟨(Hp.Ext.add hlt _).upd hlt (Nat.le_refl _) _, .refl _⟩
theorem yjj (t : Str) : (yc6 t = none → Go.Lib.indexByte t 62 = -1) ∧ ∀ l r, yc6 t = some (l, r) → Go.Lib.indexByte t 62 = l.length ∧ t = l ++ 62 :: r := by
  refine ⟨fun h => ?_, fun l r h => ?_⟩
  · refine ycp fun hm => ?_
    obtain ⟨i, hi, he⟩ := List.mem_iff_getElem.1 hm
    have : ∀ {q : Str}, (62 : UInt8) ∈ q → yc6 q ≠ none := by
      intro q
      induction q with
      | nil => intro h; cases h
      | cons a q ih =>
        intro h
        unfold yc6
        split
        · simp
        · rename_i ha
          have : (62 : UInt8) ∈ q := (List.mem_cons.1 h).resolve_left fun e => ha e.symm
          have := ih this
          cases hq : yc6 q with
          | none => exact absurd hq this
          | some x => simp
    exact this hm h
  · have : ∀ {q l r : Str}, yc6 q = some (l, r) → (62 : UInt8) ∉ l ∧ q = l ++ 62 :: r := by
      intro q
      induction q with
      | nil => intro l r h; simp [yc6] at h
      | cons a q ih =>
        intro l r h
        unfold yc6 at h
        split at h
        · rename_i ha
          injection h with h; injection h with h1 h2
          subst h1; subst h2; subst ha; simp
        · rename_i ha
          cases hq : yc6 q with
          | none => rw [hq] at h; cases h
          | some x =>
            rw [hq] at h; injection h with h; injection h with h1 h2
            obtain ⟨g1, g2⟩ := ih (l := x.1) (r := x.2) (by rw [hq])
            subst h1; subst h2
            refine ⟨?_, by rw [List.cons_append, ← g2]⟩
            simp only [List.mem_cons, not_or]
            exact ⟨fun e => ha e.symm, g1⟩
    obtain ⟨h1, h2⟩ := this h
    refine ⟨?_, h2⟩
    rw [h2]
    exact ycq h1
def cutV (t : Str) : V := match yc6 t with
  | none => .tup [.s t, .s [], .b false]
  | some (l, r) => .tup [.s l, .s r, .b true]
theorem Cut0_ok (t : Str) (ht : t.length ≤ 9223372036854775807) (H : Hp) : AC Tryz.prog y5b [.s t, .s [62]] H (fun v H' => v = cutV t ∧ H' = H) := by
  refine AC.code y1q.at y1q.ok ?_
  simp only [y1q]
  refine AX.sr ?_
  simp [y1q.r0]
  refine AX.seq (AX.seq (AX.reg ?_))
  simp [y1q.r1]
  refine AC.fix (ynx t 62 _) ?_
  have hi := yjj t
  unfold cutV
  cases hs : yc6 t with
  | none =>
    rw [hi.1 hs]
    simp
    refine AX.sr ?_
    simp [y1q.r2]
    refine AX.pcond (t := false) rfl (fun h => by simp at h) (fun _ => AX.skip ?_)
    simp
    refine AX.sr ?_
    simp [y1q.r4]
    refine AX.ret ?_
    simp
  | some x =>
    obtain ⟨l, r⟩ := x
    obtain ⟨h1, h2⟩ := hi.2 l r hs
    rw [h1]
    simp
    refine AX.sr ?_
    simp [y1q.r2]
    refine AX.pcond (t := true) rfl (fun _ => ?_) (fun h => by simp at h)
    have hlen : t.length = l.length + r.length + 1 := by rw [h2]; simp; omega
    have w1 : IntKind.i64.wrap ((l.length : Int) + 1) = (l.length : Int) + 1 := y3e (by omega) (by omega)
    have e1 : t.take l.length = l := by rw [h2]; simp
    have e2 : t.drop (l.length + 1) = r := by rw [h2]; simp
    refine AX.seq (AX.drw ?_)
    simp [y1q.r3, w1, e1, show l.length ≤ t.length by omega, show (0 : Int) ≤ (l.length : Int) + 1 by omega, show (l.length : Int) + 1 ≤ (t.length : Int) by omega, show ((l.length : Int) + 1).toNat = l.length + 1 by omega, e2]
    refine AX.ret ?_
    simp
theorem Cut_ok (t : Str) (ht : t.length ≤ 9223372036854775807) (H : Hp) : AC Tryz.prog y9r [.s t, .s [62]] H (fun v H' => v = cutV t ∧ H' = H) := by
  refine AC.code y42.at y42.ok ?_
  simp only [y42]
  refine AX.sr ?_
  simp [y42.r0]
  refine AX.sr ?_
  simp [y42.r1]
  refine AC.fix (Cut0_ok t ht _) ?_
  unfold cutV
  cases hs : yc6 t with
  | none => simp; refine AX.ret ?_; simp
  | some x => simp; refine AX.ret ?_; simp
end Go.Proofs.YtjajpilacdfnbaaGreatDoor
namespace Go.Proofs.YtjajpilacdfnbaaGreatDoor
open Am C
set_option linter.unusedSimpArgs false
set_option linter.unusedVariables false
theorem ygq (x : Int) (H : Hp) : AC Tryz.prog y7i [.i .i64 x] H (fun v H' => v = .b false ∧ H' = H) := by
  refine AC.code y3q.at y3q.ok ?_
  simp only [y3q]
  refine AX.sr ?_
  simp [y3q.r0]
  refine AX.sr ?_
  simp [y3q.r1]
  refine AX.ret ?_
  simp
theorem ydy (x y : Int) (H : Hp) : AC Tryz.prog y6q [.i .i64 x, .i .i64 y] H (fun v H' => v = .i .i64 (ybg x y) ∧ H' = H) := by
  refine AC.code y1c.at y1c.ok ?_
  simp only [y1c]
  refine AX.sr ?_
  simp [y1c.r0]
  refine AX.sr ?_
  simp [y1c.r1]
  refine AC.fix (ygq _ _) ?_
  simp
  refine AX.sr ?_
  simp [y1c.r2]
  refine AC.fix (ygq _ _) ?_
  simp
  refine AX.seq (AX.seq (AX.reg ?_))
  simp [y1c.r3]
  refine AX.pcond (t := false) rfl (fun h => by simp at h) (fun _ => AX.skip ?_)
  simp
  refine AX.seq (AX.seq (AX.reg ?_))
  simp [y1c.r7]
  refine AX.pcond (t := false) rfl (fun h => by simp at h) (fun _ => AX.skip ?_)
  simp
  refine AX.seq (AX.seq (AX.reg ?_))
  simp [y1c.r9]
  refine AX.pcond rfl (fun h => AX.seq (AX.reg ?_)) (fun h => AX.skip ?_)
  · simp at h
    simp [y1c.r10]
    refine AX.ret ?_
    simp [ybg, h]
  simp at h
  simp
  refine AX.seq (AX.seq (AX.reg ?_))
  simp [y1c.r11]
  refine AX.pcond rfl (fun h2 => AX.seq (AX.reg ?_)) (fun h2 => AX.skip ?_)
  · simp at h2
    simp [y1c.r12]
    refine AX.ret ?_
    simp [ybg, show ¬ x < y by omega, show ¬ x = y by omega]
  simp at h2
  simp
  refine AX.sr ?_
  simp [y1c.r13]
  refine AX.ret ?_
  simp [ybg, show ¬ x < y by omega, show x = y by omega]
def OrInv (R : List Int) (H : Hp) (m : Nat) (F : Fr) (X : Hp) : Prop :=
  ∃ i, i ≤ R.length ∧ m = R.length - i ∧ orI (R.take i) = 0 ∧ X = H ∧ F = [(3, .i .i64 0), (6, .fs (zi R)), (7, .i .i64 R.length), (8, .i .i64 i)]
theorem Or_ok (R : List Int) (hR : R.length ≤ 1000) (H : Hp) : AC Tryz.prog yaa [.fs (zi R)] H (fun v H' => v = .i .i64 (orI R) ∧ H' = H) := by
  refine AC.code y26.at y26.ok ?_
  simp only [y26]
  refine AX.sr ?_
  simp [y26.r0]
  refine AX.sr ?_
  simp [y26.r1]
  refine AX.seq (AX.seq (AX.reg ?_))
  simp [y26.r2]
  refine AX.pblock (AX.loop (OrInv R H) R.length ⟨_, _, .refl _ _, 0, by omega, by omega, rfl, rfl, by simp [zi]⟩ ?_)
  rintro m F X ⟨i, hi, rfl, ho, rfl, rfl⟩
  simp only [y26.l0]
  refine AX.sr ?_
  simp [y26.r3]
  refine AX.seq (AX.pcond rfl (fun hd => AX.skip ?_) (fun hd => AX.exit ?_))
  case refine_2 =>
    simp at hd
    rw [List.take_of_length_le hd] at ho
    simp
    refine AX.sr ?_
    simp [y26.r8]
    refine AX.ret ?_
    simp [ho]
  simp at hd
  have hg : R[i]? = some R[i] := List.getElem?_eq_getElem hd
  have hsp : orI R = if R[i] ≠ 0 then R[i] else orI (R.drop (i + 1)) := by
    conv => lhs; rw [← List.take_append_drop i R, List.drop_eq_getElem_cons hd]
    rw [y9h]
    simp [ho, orI]
  have hst : orI (R.take (i + 1)) = R[i] := by
    rw [List.take_add_one, hg, y9h]
    simp [ho, orI]
    exact fun h => h.symm
  simp
  refine AX.seq (AX.pblock (AX.seq (AX.reg ?_)))
  simp [y26.r4, hd, zi, hg]
  refine AX.sr ?_
  simp [y26.r5]
  refine AX.pcond rfl (fun he => ?_) (fun he => AX.skip ?_)
  · simp at he
    refine AX.sr ?_
    simp [y26.r6]
    refine AX.ret ?_
    simp [hsp, he]
  simp at he
  simp
  refine AX.reg ?_
  simp [y26.r7, y2j hd (show R.length ≤ 9223372036854775807 by omega)]
  exact ⟨R.length - (i + 1), by omega, _, _, .refl _ _, i + 1, by omega, rfl, by rw [hst, he], rfl, by simp [zi]⟩
def CmLInv (a b : List Str) (H : Hp) (m : Nat) (F : Fr) (X : Hp) : Prop :=
  ∃ i, i ≤ a.length ∧ i ≤ b.length ∧ m = a.length - i ∧ yhx a b = yhx (a.drop i) (b.drop i) ∧ X = H ∧ F = [(0, ss a), (1, ss b), (9, ss a), (10, .i .i64 a.length), (11, .i .i64 i)]
theorem yid (a b : List Str) (ha : a.length ≤ 9223372036854775807) (hb : b.length ≤ 9223372036854775807) (H : Hp) : AC Tryz.prog y4m [ss a, ss b] H (fun v H' => v = .i .i64 (yhx a b) ∧ H' = H) := by
  refine AC.code yc.at yc.ok ?_
  simp only [yc]
  refine AX.sr ?_
  simp [yc.r0]
  refine AX.seq (AX.seq (AX.reg ?_))
  simp [yc.r1, ss]
  refine AX.pblock (AX.loop (CmLInv a b H) a.length ⟨_, _, .refl _ _, 0, by omega, by omega, by omega, rfl, rfl, by simp [ss]⟩ ?_)
  rintro m F X ⟨i, hia, hib, rfl, hc, rfl, rfl⟩
  simp only [yc.l0]
  refine AX.sr ?_
  simp [yc.r2]
  refine AX.seq (AX.pcond rfl (fun hd => AX.skip ?_) (fun hd => AX.exit ?_))
  case refine_2 =>
    simp at hd
    rw [List.drop_eq_nil_of_le hd] at hc
    have e : yhx a b = if a.length < b.length then -1 else 0 := by
      rw [hc]
      simp only [yhx, cmpN, List.length_drop]
      by_cases h : a.length < b.length
      · rw [if_pos (by omega), if_pos h]
      · rw [if_neg (by omega), if_neg h, if_pos (by omega)]
    simp
    refine AX.seq (AX.seq (AX.reg ?_))
    simp [yc.r11, ss]
    refine AX.pcond rfl (fun he => ?_) (fun he => AX.skip ?_)
    · simp at he
      refine AX.sr ?_
      simp [yc.r12]
      refine AX.ret ?_
      simp [e, he]
    simp at he
    simp
    refine AX.sr ?_
    simp [yc.r13]
    refine AX.ret ?_
    simp [e, show ¬ a.length < b.length by omega]
  simp at hd
  simp
  rw [List.drop_eq_getElem_cons hd] at hc
  refine AX.seq (AX.pblock (AX.seq (AX.reg ?_)))
  simp [yc.r3, ss, hd]
  refine AX.seq (AX.seq (AX.reg ?_))
  simp [yc.r4]
  refine AX.pcond rfl (fun he => ?_) (fun he => AX.skip ?_)
  · simp at he
    rw [List.drop_eq_nil_of_le he] at hc
    refine AX.sr ?_
    simp [yc.r5]
    refine AX.ret ?_
    simp [hc, yhx]
  simp at he
  rw [List.drop_eq_getElem_cons he] at hc
  simp only [yhx] at hc
  simp
  refine AX.sr ?_
  simp [yc.r6, he]
  refine AX.sr ?_
  simp [yc.r7]
  refine AC.fix (y80 _ _ _) ?_
  simp
  refine AX.sr ?_
  simp [yc.r8]
  refine AX.pcond rfl (fun hf => ?_) (fun hf => AX.skip ?_)
  · simp at hf
    refine AX.sr ?_
    simp [yc.r9]
    refine AX.ret ?_
    simp [hc, hf]
  simp at hf
  simp
  refine AX.reg ?_
  simp [yc.r10, y2j hd ha]
  exact ⟨a.length - (i + 1), by omega, _, _, .refl _ _, i + 1, by omega, by omega, rfl, by rw [hc]; simp [hf], rfl, by simp [ss]⟩
theorem yi6 (a b : Cn) (ha : a.args.length ≤ 9223372036854775807) (hb : b.args.length ≤ 9223372036854775807) (H : Hp) : AC Tryz.prog y62 [.agg (y4l a), .agg (y4l b)] H (fun v H' => v = .i .i64 (yea a b) ∧ H' = H) := by
  refine AC.code y3j.at y3j.ok ?_
  simp only [y3j]
  refine AX.sr ?_
  simp [y3j.r0, y4l]
  refine AX.seq (AX.drw ?_)
  simp [y3j.r1]
  refine y3k _ (fun H2 => ydy a.op b.op H2) ?_
  simp
  refine y3k _ (fun H2 => y80 a.a b.a H2) ?_
  simp
  refine y3k _ (fun H2 => y80 a.b b.b H2) ?_
  simp
  refine y3k _ (fun H2 => ydy a.k b.k H2) ?_
  simp
  refine y3k _ (fun H2 => y80 a.tag b.tag H2) ?_
  simp
  refine y3k _ (fun H2 => yid a.args b.args ha hb H2) ?_
  simp [show y8y 6 [V.i .i64 0] = [.i .i64 0, .i .i64 0, .i .i64 0, .i .i64 0, .i .i64 0, .i .i64 0] from rfl]
  refine y3k _ (fun H2 => Or_ok [ybg a.op b.op, y8i a.a b.a, y8i a.b b.b, ybg a.k b.k, y8i a.tag b.tag, yhx a.args b.args] (by simp) H2) ?_
  simp
  refine AX.ret ?_
  simp [yea]
def yhm : List Mk → Mk → Int
  | [], _ => -1
  | y :: r, x => if y = x then 0 else if yhm r x < 0 then -1 else yhm r x + 1
theorem yis {l : List Mk} {x : Mk} : yhm l x < 0 ↔ x ∉ l := by
  induction l with
  | nil => simp [yhm]
  | cons y r ih =>
    simp only [yhm]
    by_cases h : y = x
    · simp [h]
    · rw [if_neg h]
      by_cases h2 : yhm r x < 0
      · rw [if_pos h2]; simp [ih.1 h2, Ne.symm h]
      · rw [if_neg h2]
        have : x ∈ r := Classical.byContradiction fun hc => h2 (ih.2 hc)
        simp [this]; omega
theorem numM_at {l : List Mk} {x : Mk} {i : Nat} (h : l[i]? = some x) (hn : x ∉ l.take i) : yhm l x = i := by
  induction l generalizing i with
  | nil => simp at h
  | cons y r ih =>
    cases i with
    | zero => simp at h; simp [yhm, h]
    | succ i =>
      simp at h hn
      have := ih h hn.2
      simp only [yhm]
      rw [if_neg (Ne.symm hn.1), this, if_neg (by omega)]; omega
theorem numM_ge (l : List Mk) (x : Mk) : -1 ≤ yhm l x ∧ yhm l x < l.length := by
  induction l with
  | nil => simp [yhm]
  | cons y r ih =>
    simp only [yhm, List.length_cons]
    split
    · omega
    · split <;> omega
def IxInv (l : List Mk) (x : Mk) (H : Hp) (m : Nat) (F : Fr) (X : Hp) : Prop :=
  ∃ i, i ≤ l.length ∧ m = l.length - i ∧ x ∉ l.take i ∧ X = H ∧ F = [(0, .fs (l.map y7b)), (3, .fp (y7b x) 0), (7, .i .i64 l.length), (8, .i .i64 i)]
theorem ynw (l : List Mk) (x : Mk) (hl : l.length ≤ 9223372036854775807) (H : Hp) : AC Tryz.prog y4g [.fs (l.map y7b), .agg (y7b x)] H (fun v H' => v = .i .i64 (yhm l x) ∧ H' = H) := by
  refine AC.code yn.at yn.ok ?_
  simp only [yn]
  refine AX.sr ?_
  simp [yn.r0, y7b]
  refine AX.seq (AX.seq (AX.reg ?_))
  simp [yn.r1]
  refine AX.pblock (AX.loop (IxInv l x H) l.length ⟨_, _, .refl _ _, 0, by omega, by omega, by simp, rfl, by simp [y7b]⟩ ?_)
  rintro m F X ⟨i, hi, rfl, hn, rfl, rfl⟩
  simp only [yn.l0]
  refine AX.sr ?_
  simp [yn.r2]
  refine AX.seq (AX.pcond rfl (fun hd => AX.skip ?_) (fun hd => AX.exit ?_))
  case refine_2 =>
    simp at hd
    rw [List.take_of_length_le hd] at hn
    simp
    refine AX.sr ?_
    simp [yn.r7]
    refine AX.ret ?_
    have h1 := yis.2 hn
    have h2 := numM_ge l x
    simp; omega
  simp at hd
  have hg : l[i]? = some l[i] := List.getElem?_eq_getElem hd
  have htk : l.take (i + 1) = l.take i ++ [l[i]] := by rw [List.take_add_one, hg]; rfl
  have hmem := List.getElem_mem hd
  generalize l[i] = q at *
  simp
  refine AX.seq (AX.pblock (AX.seq (AX.reg ?_)))
  simp [yn.r3]
  refine AX.testD (decide (x = q)) [(0, .fs (l.map y7b)), (3, .fp (y7b x) 0), (5, .i .i64 i), (7, .i .i64 l.length), (8, .i .i64 i), (16, .b (decide (x = q)))] ?_ rfl (fun hb2 => ?_) (fun hb2 => AX.skip ?_)
  · simp [yn.r4, hg, y7b]
    rw [mk_eq]
    simp [y7b]
  · simp at hb2
    refine AX.sr ?_
    simp [yn.r5]
    refine AX.ret ?_
    simp
    exact (numM_at (by rw [hg, hb2]) hn).symm
  simp at hb2
  simp
  refine AX.reg ?_
  simp [yn.r6, y2j hd hl]
  refine ⟨l.length - (i + 1), by omega, _, _, .refl _ _, i + 1, by omega, rfl, ?_, rfl, by simp [y7b]⟩
  rw [htk]
  simp [hn, hb2]
theorem yh6 (l : List Mk) (x : Mk) (hl : l.length ≤ 9223372036854775807) (H : Hp) : AC Tryz.prog y3t [.fs (l.map y7b), .agg (y7b x)] H (fun v H' => v = .b (decide (x ∈ l)) ∧ H' = H) := by
  refine AC.code y1z.at y1z.ok ?_
  simp only [y1z]
  refine AX.sr ?_
  simp [y1z.r0, y7b]
  refine AX.sr ?_
  simp [y1z.r1]
  refine AC.fix (ynw l x hl _) ?_
  simp
  refine AX.ret ?_
  have h := @yis l x
  by_cases hm : x ∈ l
  · have : ¬ yhm l x < 0 := fun e => (h.1 e) hm
    simp [hm]; omega
  · have := h.2 hm
    simp [hm]; omega
end Go.Proofs.YtjajpilacdfnbaaGreatDoor
