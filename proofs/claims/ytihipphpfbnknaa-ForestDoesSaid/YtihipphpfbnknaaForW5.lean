/- The walks of the forest package: joining. -/
import Derived.Test.YtihipphpfbnknaaForW4
namespace Go.Proofs.Ytihipphpfbnknaa
open Am C
set_option linter.unusedSimpArgs false
set_option linter.unusedVariables false

/-- What a heap comes to when two members of a forest are joined. -/
def upJ (n : Nat) (up : List Nat) (rep : List Nat) (a b : Int) : List Nat :=
  if joins rep a b then (upF n (upF n up a) b).set (max (findV rep a).toNat (findV rep b).toNat) (min (findV rep a).toNat (findV rep b).toNat) else upF n (upF n up a) b
def ringJ (ring : List Nat) (rep : List Nat) (a b : Int) : List Nat :=
  if joins rep a b then (ring.set (findV rep a).toNat (gt ring (findV rep b).toNat)).set (findV rep b).toNat (gt ring (findV rep a).toNat) else ring
def partsJ (parts : Nat) (rep : List Nat) (a b : Int) : Nat := if joins rep a b then parts - 1 else parts
def heapJ (H : Hp) (f u r n : Nat) (up ring : List Nat) (parts : Nat) (rep : List Nat) (a b : Int) : Hp :=
  ((H.upd u (.cells (nc (upJ n up rep a b)) n)).upd r (.cells (nc (ringJ ring rep a b)) n)).upd f (.cells [.sl (some (u, 0, n)) n 1, .sl (some (r, 0, n)) n 1, .i .i64 (partsJ parts rep a b)] 3)

theorem upF_inv {n : Nat} {up ring rep : List Nat} (I : FInv n up ring rep) (k : Int) : FInv n (upF n up k) ring rep := by
  unfold upF
  split
  · rename_i h
    exact (halve_ok n I (by omega) (by omega)).1
  · exact I
theorem FH.upd {H : Hp} {f u r n : Nat} {up ring : List Nat} {parts : Nat} (h : FH H f u r n up ring parts) (up' : List Nat) : FH (H.upd u (.cells (nc up') n)) f u r n up' ring parts :=
  ⟨by simp [h.fu, h.gf], by simp, by simp [Ne.symm h.ur, h.gr], h.fu, h.fr, h.ur, h.n5, h.pn⟩

theorem Join_ok {H : Hp} {f u r n : Nat} {up ring rep : List Nat} {parts : Nat} (h : FH H f u r n up ring parts) (I : FInv n up ring rep) (hp : parts = cnt rep) (a b : Int) :
    AC Try.prog n_forest_Forest_Join [.p (some (f, 0, 3)), .i .i64 a, .i .i64 b] H (fun v H' => v = .b (joins rep a b) ∧ H' = heapJ H f u r n up ring parts rep a b) := by
  refine AC.code forest_Forest_Join.at forest_Forest_Join.ok ?_
  simp only [forest_Forest_Join]
  refine AX.seq (AX.reg ?_)
  simp [forest_Forest_Join.r0]
  refine AX.seq (AX.reg ?_)
  have I1 := upF_inv I a
  have h1 := h.upd (upF n up a)
  have I2 := upF_inv I1 b
  have h2 := h1.upd (upF n (upF n up a) b)
  simp [forest_Forest_Join.r1]
  refine AC.fix (Find_ok h I a) ?_
  simp
  refine AC.fix (Find_ok h1 I1 b) ?_
  simp at h2
  simp
  generalize hup2 : upF n (upF n up a) b = up2 at *
  by_cases hj : findV rep a < 0 ∨ findV rep b < 0 ∨ findV rep a = findV rep b
  · have hj1 : joins rep a b = false := by simp [joins, hj]
    have key : AX Try.prog 70 (.post [0, 7, 8, 25] (.region forest_Forest_Join.r2)) (Post.then (fun F H' => F = [(0, .p (some (f, 0, 3))), (7, .i .i64 (findV rep a)), (8, .i .i64 (findV rep b)), (25, .b true)] ∧ H' = H.upd u (.cells (nc up2) n)) (fun _ _ _ => False)) [(0, .p (some (f, 0, 3))), (7, .i .i64 (findV rep a)), (8, .i .i64 (findV rep b))] (H.upd u (.cells (nc up2) n)) := by
      refine AX.reg ?_
      by_cases h1 : findV rep a < 0
      · simp [forest_Forest_Join.r2, h1]
      · by_cases h2 : findV rep b < 0
        · simp [forest_Forest_Join.r2, h1, h2]
        · have h3 : findV rep a = findV rep b := by omega
          simp [forest_Forest_Join.r2, h1, h2, h3]
    refine AX.seq (AX.seq (key.mono ?_))
    rintro x F H' hx
    cases x <;> simp [Post.then] at hx ⊢
    obtain ⟨rfl, rfl⟩ := hx
    refine AX.pcond rfl (fun _ => AX.seq (AX.reg ?_)) (fun hb => by simp at hb)
    simp [forest_Forest_Join.r3]
    refine AX.ret ?_
    simp [hj1, heapJ, upJ, ringJ, partsJ, hup2]
    rw [Hp.upd_self (id := r) h2.gr, Hp.upd_self h2.gf]
  have hj1 : joins rep a b = true := by simp [joins, hj]
  have n1 : ¬ findV rep a < 0 := by omega
  have n2 : ¬ findV rep b < 0 := by omega
  have n3 : ¬ findV rep a = findV rep b := by omega
  refine AX.seq (AX.seq (AX.reg ?_))
  simp [forest_Forest_Join.r2, n1, n2, n3]
  refine AX.pcond rfl (fun hb => by simp [n3] at hb) (fun _ => AX.skip ?_)
  simp
  obtain ⟨a1, a2, a3⟩ := findV_in n1
  obtain ⟨b1, b2, b3⟩ := findV_in n2
  rw [I.lp] at a2 b2
  obtain ⟨x, hx⟩ : ∃ x : Nat, x = gt rep a.toNat := ⟨_, rfl⟩
  obtain ⟨y, hy⟩ : ∃ y : Nat, y = gt rep b.toNat := ⟨_, rfl⟩
  rw [← hx] at a3
  rw [← hy] at b3
  have xr := I.rep_le a.toNat (by omega)
  have yr := I.rep_le b.toNat (by omega)
  have xrr := I.rep_rep a.toNat (by omega)
  have yrr := I.rep_rep b.toNat (by omega)
  rw [← hx] at xr xrr
  rw [← hy] at yr yrr
  have hxn : x < n := by omega
  have hyn : y < n := by omega
  have hxy : x ≠ y := by omega
  rw [a3, b3]
  obtain ⟨lo, hlo⟩ : ∃ lo : Nat, lo = min x y := ⟨_, rfl⟩
  obtain ⟨hi, hhi⟩ : ∃ hi : Nat, hi = max x y := ⟨_, rfl⟩
  have e1 : min (x : Int) (y : Int) = (lo : Int) := by omega
  have e2 : max (x : Int) (y : Int) = (hi : Int) := by omega
  have hhn : hi < n := by omega
  have hul : up2.length = n := I2.lu
  have hrl : ring.length = n := I.lr
  have hcnt := cnt_join I hxn hyn xrr yrr hxy
  have q1 := nc_take (l := ring) (i := y) (by omega)
  have q2 := nc_take (l := ring) (i := x) (by omega)
  rw [show ring.getD y 0 = gt ring y from rfl] at q1
  rw [show ring.getD x 0 = gt ring x from rfl] at q2
  have q3 := nc_take (l := ring.set x (gt ring y)) (i := x) (by simp; omega)
  refine AX.seq (AX.reg ?_)
  simp [forest_Forest_Join.r4, h.gf, h.fu, e1, e2, hhn, hul, Nat.add_one_le_iff, nc_set]
  refine AX.seq (AX.drw ?_)
  have fu := h.fu
  have fr := h.fr
  have ur := h.ur
  simp [forest_Forest_Join.r5, h.gf, h.gr, h.fu, h.fr, Ne.symm h.ur, hxn, hyn, q1, q2, hrl, Nat.add_one_le_iff, nc_set]
  refine AX.seq (AX.reg ?_)
  have e3 : IntKind.i64.wrap ((parts : Int) - 1) = ((parts - 1 : Nat) : Int) := by have := h.pn; have := h.n5; rw [wrap_i64 (by omega) (by omega)]; omega
  simp [forest_Forest_Join.r6, h.gf, h.fu, h.fr, e3]
  refine AX.seq (AX.reg ?_)
  simp [forest_Forest_Join.r7]
  refine AX.ret ?_
  simp [hj1, heapJ, upJ, ringJ, partsJ, hup2, a3, b3]
  rw [hlo, hhi]

theorem joins_true {rep : List Nat} {a b : Int} (h : joins rep a b = true) : ¬ findV rep a < 0 ∧ ¬ findV rep b < 0 ∧ ¬ findV rep a = findV rep b := by
  simp [joins] at h
  omega
theorem heapJ_inv {n : Nat} {up ring rep : List Nat} (I : FInv n up ring rep) (a b : Int) : FInv n (upJ n up rep a b) (ringJ ring rep a b) (joinV rep a b) := by
  have I2 := upF_inv (upF_inv I a) b
  unfold upJ ringJ joinV
  by_cases hj : joins rep a b = true
  · obtain ⟨n1, n2, n3⟩ := joins_true hj
    obtain ⟨a1, a2, a3⟩ := findV_in n1
    obtain ⟨b1, b2, b3⟩ := findV_in n2
    rw [I.lp] at a2 b2
    have xr := I.rep_le a.toNat (by omega)
    have yr := I.rep_le b.toNat (by omega)
    have xrr := I.rep_rep a.toNat (by omega)
    have yrr := I.rep_rep b.toNat (by omega)
    rw [if_pos hj, if_pos hj, if_pos hj, a3, b3]
    simp only [Int.toNat_natCast]
    exact I2.join (by omega) (by omega) xrr yrr (by omega)
  · rw [if_neg hj, if_neg hj, if_neg hj]; exact I2
theorem partsJ_cnt {n : Nat} {up ring rep : List Nat} (I : FInv n up ring rep) (a b : Int) : partsJ (cnt rep) rep a b = cnt (joinV rep a b) := by
  unfold partsJ joinV
  by_cases hj : joins rep a b = true
  · obtain ⟨n1, n2, n3⟩ := joins_true hj
    obtain ⟨a1, a2, a3⟩ := findV_in n1
    obtain ⟨b1, b2, b3⟩ := findV_in n2
    rw [I.lp] at a2 b2
    have xr := I.rep_le a.toNat (by omega)
    have yr := I.rep_le b.toNat (by omega)
    have xrr := I.rep_rep a.toNat (by omega)
    have yrr := I.rep_rep b.toNat (by omega)
    rw [if_pos hj, if_pos hj, a3, b3]
    simp only [Int.toNat_natCast]
    have := cnt_join I (x := gt rep a.toNat) (y := gt rep b.toNat) (by omega) (by omega) xrr yrr (by omega)
    omega
  · rw [if_neg hj, if_neg hj]
theorem heapJ_FH {H : Hp} {f u r n : Nat} {up ring rep : List Nat} {parts : Nat} (h : FH H f u r n up ring parts) (a b : Int) :
    FH (heapJ H f u r n up ring parts rep a b) f u r n (upJ n up rep a b) (ringJ ring rep a b) (partsJ parts rep a b) := by
  have := h.fu; have := h.fr; have := h.ur
  refine ⟨by simp [heapJ], by simp [heapJ, h.ur, Ne.symm h.fu], by simp [heapJ, Ne.symm h.fr], h.fu, h.fr, h.ur, h.n5, ?_⟩
  have := h.pn
  unfold partsJ; split <;> omega
theorem heapJ_get {H : Hp} {f u r n : Nat} {up ring rep : List Nat} {parts : Nat} {a b : Int} {id : Nat} (h1 : id ≠ f) (h2 : id ≠ u) (h3 : id ≠ r) : (heapJ H f u r n up ring parts rep a b).get id = H.get id := by
  simp [heapJ, h1, h2, h3]
@[simp] theorem heapJ_next {H : Hp} {f u r n : Nat} {up ring rep : List Nat} {parts : Nat} {a b : Int} : (heapJ H f u r n up ring parts rep a b).next = H.next := rfl

theorem Join_nil (H : Hp) (a b : Int) : AC Try.prog n_forest_Forest_Join [.p none, .i .i64 a, .i .i64 b] H (fun v H' => v = .b false ∧ H' = H) := by
  refine AC.code forest_Forest_Join.at forest_Forest_Join.ok ?_
  simp only [forest_Forest_Join]
  refine AX.seq (AX.reg ?_)
  simp [forest_Forest_Join.r0]
  refine AX.seq (AX.reg ?_)
  simp [forest_Forest_Join.r1]
  refine AC.fix (Find_nil H a) ?_
  simp
  refine AC.fix (Find_nil H b) ?_
  simp
  refine AX.seq (AX.seq (AX.reg ?_))
  simp [forest_Forest_Join.r2]
  refine AX.pcond rfl (fun _ => AX.seq (AX.reg ?_)) (fun hb => by simp at hb)
  simp [forest_Forest_Join.r3]
  refine AX.ret ?_
  simp

/-! ### members -/
def bc (l : List Bool) : List V := l.map fun b => .b b
@[simp] theorem bc_length (l : List Bool) : (bc l).length = l.length := by simp [bc]
theorem bc_take {l : List Bool} {i : Nat} (h : i < l.length) : List.take 1 (List.drop i (bc l)) = [.b (l.getD i false)] := by
  rw [List.drop_eq_getElem_cons (by simpa using h), List.take_succ_cons, List.take_zero]
  simp [bc, List.getD_eq_getElem?_getD, List.getElem?_eq_getElem h]
theorem bc_set (l : List Bool) (i : Nat) (v : Bool) : (bc l).set i (.b v) = bc (l.set i v) := by simp [bc, List.map_set]
theorem bc_repl (n : Nat) : repl n [V.b false] = bc (List.replicate n false) := by simp [repl, bc]
/-- The marks of those that are in a list. -/
def marks (n : Nat) (v : List Nat) : List Bool := (List.range n).map fun j => decide (j ∈ v)
@[simp] theorem marks_length (n : Nat) (v : List Nat) : (marks n v).length = n := by simp [marks]
theorem marks_get {n : Nat} {v : List Nat} {i : Nat} (h : i < n) : (marks n v).getD i false = decide (i ∈ v) := by
  simp [marks, List.getD_eq_getElem?_getD, List.getElem?_map, List.getElem?_range h]
theorem marks_nil (n : Nat) : marks n [] = List.replicate n false := by
  apply List.ext_getElem <;> simp [marks]
theorem marks_set {n : Nat} {v : List Nat} {i : Nat} (h : i < n) : (marks n v).set i true = marks n (v ++ [i]) := by
  apply List.ext_getElem
  · simp
  · intro j h1 h2
    simp [marks, List.getElem_set]
    by_cases hj : i = j
    · subst hj; simp
    · simp [hj, Ne.symm hj]
def MemInv (H0 : Hp) (f n r0 : Nat) (cyc : List Nat) (m : Nat) (F : Fr) (H' : Hp) : Prop :=
  ∃ (v w : List Nat), cyc = v ++ w ∧ m = w.length ∧ H' = H0.add (.cells (bc (marks n v)) n) ∧
    F = [(0, .p (some (f, 0, 3))), (6, .sl (some (H0.next, 0, n)) n 1), (7, .i .i64 v.length), (8, .i .i64 ((w ++ [r0]).headD 0 : Nat))]
theorem nodup_lt_length : ∀ (n : Nat) (l : List Nat), l.Nodup → (∀ x ∈ l, x < n) → l.length ≤ n
  | 0, [], _, _ => by simp
  | 0, x :: l, _, h => by have := h x (by simp); omega
  | n + 1, l, nd, h => by
    by_cases hm : n ∈ l
    · have := nodup_lt_length n (l.erase n) (nd.erase n) fun x hx => by
        have h1 := (nd.mem_erase_iff).1 hx
        have := h x h1.2
        have := h1.1
        omega
      rw [List.length_erase_of_mem hm] at this
      omega
    · have := nodup_lt_length n l nd fun x hx => by
        have h1 := h x hx
        have : x ≠ n := fun e => hm (e ▸ hx)
        omega
      omega
def listV (id : Nat) (l : List Nat) : V := .sl (some (id, 0, l.length)) l.length 1
def ListInv (H1 : Hp) (n : Nat) (tid : Nat) (rep : List Nat) (x : Int) (m : Nat) (F : Fr) (H' : Hp) : Prop :=
  ∃ i, i ≤ n ∧ m = n - i ∧ H' = H1.add (.cells (nc (memb rep x i)) 0) ∧ F = [(9, listV H1.next (memb rep x i)), (43, .sl (some (tid, 0, n)) n 1), (44, .i .i64 n), (45, .i .i64 i)]
def memHeap (H : Hp) (u n : Nat) (up rep : List Nat) (k : Int) : Hp :=
  if findV rep k < 0 then H.upd u (.cells (nc (upF n up k)) n)
  else ((H.upd u (.cells (nc (upF n up k)) n)).add (.cells (bc ((List.range n).map fun j => decide ((gt rep j : Int) = findV rep k))) n)).add (.cells (nc (memb rep (findV rep k) n)) 0)
def memV (H : Hp) (n : Nat) (rep : List Nat) (k : Int) : V := if findV rep k < 0 then .sl none 0 0 else listV (H.next + 1) (memb rep (findV rep k) n)

theorem Members_ok {H : Hp} {f u r n : Nat} {up ring rep : List Nat} {parts : Nat} (h : FH H f u r n up ring parts) (I : FInv n up ring rep) (hlt : f < H.next ∧ u < H.next ∧ r < H.next) (k : Int) :
    AC Try.prog n_forest_Forest_Members [.p (some (f, 0, 3)), .i .i64 k] H (fun v H' => v = memV H n rep k ∧ H' = memHeap H u n up rep k) := by
  refine AC.code forest_Forest_Members.at forest_Forest_Members.ok ?_
  simp only [forest_Forest_Members]
  refine AX.seq (AX.reg ?_)
  simp [forest_Forest_Members.r0]
  refine AX.seq (AX.reg ?_)
  simp [forest_Forest_Members.r1]
  refine AC.fix (Find_ok h I k) ?_
  have h1 := h.upd (upF n up k)
  have I1 := upF_inv I k
  have hul : (upF n up k).length = n := I1.lu
  simp
  refine AX.seq (AX.seq (AX.reg ?_))
  simp [forest_Forest_Members.r2]
  by_cases hf : findV rep k < 0
  · refine AX.pcond rfl (fun _ => AX.seq (AX.reg ?_)) (fun hb => by simp at hb; omega)
    simp [forest_Forest_Members.r3]
    refine AX.ret ?_
    simp [memV, memHeap, hf]
  refine AX.pcond rfl (fun hb => by simp at hb; omega) (fun _ => AX.skip ?_)
  simp
  obtain ⟨k1, k2, k3⟩ := findV_in hf
  rw [I.lp] at k2
  generalize hup1 : upF n up k = up1 at *
  generalize hH1 : H.upd u (Blk.cells (nc up1) n) = H1 at *
  have hnx : H1.next = H.next := by rw [← hH1]; rfl
  have n5 := h.n5
  refine AX.seq (AX.reg ?_)
  have e0 : (n : Int) ≤ 140737488355328 := by omega
  simp [forest_Forest_Members.r4, h1.gf, roomB, e0, bc_repl]
  refine AX.seq (AX.reg ?_)
  simp [forest_Forest_Members.r5]
  obtain ⟨r0, hr0⟩ : ∃ r0 : Nat, r0 = gt rep k.toNat := ⟨_, rfl⟩
  rw [← hr0] at k3
  have xr := I.rep_le k.toNat (by omega)
  have xrr := I.rep_rep k.toNat (by omega)
  rw [← hr0] at xr xrr
  have hrn : r0 < n := by omega
  obtain ⟨A, pA, nA, mA⟩ := I.ring r0 hrn xrr
  have hcl : (r0 :: A).length ≤ n := by
    exact nodup_lt_length n _ nA fun j hj => ((mA j).1 hj).1
  refine AX.seq (AX.seq (AX.reg ?_))
  simp [forest_Forest_Members.r6, k3]
  have fr := h.fr
  have marksEq : marks n (r0 :: A) = (List.range n).map fun j => decide ((gt rep j : Int) = (r0 : Int)) := by
    unfold marks
    apply List.map_congr_left
    intro j hj
    have hj' : j < n := by simpa using hj
    apply decide_eq_decide.2
    rw [mA]
    constructor
    · rintro ⟨_, e⟩; rw [e]
    · intro e; exact ⟨hj', by omega⟩
  refine AX.pblock (AX.loop (MemInv H1 f n r0 (r0 :: A)) (r0 :: A).length ⟨_, _, .refl _ _, [], r0 :: A, rfl, rfl, by simp [marks_nil], by simp⟩ ?_)
  rintro m F H' ⟨v, w, hvw, rfl, rfl, rfl⟩
  have hf1 : f ≠ H1.next := by omega
  have hr1 : r ≠ H1.next := by omega
  have hu1 : u ≠ H1.next := by omega
  simp only [forest_Forest_Members.l0]
  cases w with
  | nil =>
    have hv : v = r0 :: A := by simpa using hvw.symm
    have q1 := bc_take (l := marks n v) (i := r0) (by simpa using hrn)
    rw [marks_get hrn, show decide (r0 ∈ v) = true by rw [hv]; simp] at q1
    refine AX.seq (AX.seq (AX.reg ?_))
    simp [forest_Forest_Members.r7, hrn, q1, Nat.add_one_le_iff]
    refine AX.pcond rfl (fun hb => by simp at hb) (fun _ => AX.exit ?_)
    simp
    subst hv
    rw [marksEq]
    refine AX.seq (AX.reg ?_)
    have e5 : ((A.length : Int) + 1) * 8 ≤ 140737488355328 := by simp at hcl; omega
    simp [forest_Forest_Members.r11, roomB, e5]
    refine ⟨by omega, ?_⟩
    obtain ⟨mk, hmk⟩ : ∃ mk, mk = (List.range n).map fun j => decide (gt rep j = r0) := ⟨_, rfl⟩
    have hmkl : mk.length = n := by rw [hmk]; simp
    rw [← hmk]
    obtain ⟨H2, hH2⟩ : ∃ H2, H2 = H1.add (.cells (bc mk) n) := ⟨_, rfl⟩
    have hn2 : H2.next = H1.next + 1 := by rw [hH2]; rfl
    have hg2 : H2.get H1.next = some (.cells (bc mk) n) := by rw [hH2]; simp
    rw [← hH2, show repl 0 [V.i .i64 0] = nc [] from rfl]
    refine AX.seq (AX.seq (AX.reg ?_))
    simp [forest_Forest_Members.r12]
    refine AX.pblock (AX.loop (ListInv H2 n H1.next rep r0) n ⟨_, _, .refl _ _, 0, by omega, by omega, rfl, by simp [listV, memb, hn2]⟩ ?_)
    rintro m F H' ⟨i, hi, rfl, rfl, rfl⟩
    have hs := memb_succ rep r0 i
    have hle := memb_le rep r0 i
    simp only [forest_Forest_Members.l1]
    refine AX.seq (AX.reg ?_)
    simp [forest_Forest_Members.r13]
    refine AX.seq (AX.pcond rfl (fun hb => AX.skip ?_) (fun hb => AX.exit ?_))
    case refine_2 =>
      simp at hb
      have : i = n := by omega
      subst this
      simp
      refine AX.seq (AX.reg ?_)
      simp [forest_Forest_Members.r18]
      refine AX.ret ?_
      simp [memV, memHeap, hf, k3, hup1, hH1, hn2, hnx, hH2, hmk, listV]
    simp at hb
    simp
    generalize hcur : memb rep r0 i = cur at *
    have q2 := bc_take (l := mk) (i := i) (by omega)
    rw [show mk.getD i false = decide (gt rep i = r0) by rw [hmk]; simp [List.getD_eq_getElem?_getD, List.getElem?_map, List.getElem?_range hb]] at q2
    have hne2 : H1.next ≠ H2.next := by omega
    refine AX.seq (AX.pblock (AX.seq (AX.reg ?_)))
    simp [forest_Forest_Members.r14, hb, hg2, hne2, q2, Nat.add_one_le_iff]
    refine AX.seq (AX.reg ?_)
    simp [forest_Forest_Members.r15]
    refine AX.pcond rfl (fun hc => AX.reg ?_) (fun hc => AX.skip ?_)
    · simp at hc
      rw [if_pos (by omega)] at hs
      have e6 : ((cur.length : Int) + 1).toNat = cur.length + 1 := by omega
      have e7 : (cur.length + 1) * 8 ≤ 140737488355328 := by omega
      simp [forest_Forest_Members.r16, repl, listV, roomB, e7, isCell, upd_add, nc_append]
      refine AX.reg ?_
      simp [forest_Forest_Members.r17, i64_succ (show i ≤ 9223372036854775000 by omega)]
      exact ⟨n - (i + 1), by omega, _, _, .refl _ _, i + 1, by omega, rfl, by rw [hs], by simp [hs, listV]⟩
    · simp at hc
      rw [if_neg (by omega)] at hs
      simp
      refine AX.reg ?_
      simp [forest_Forest_Members.r17, i64_succ (show i ≤ 9223372036854775000 by omega)]
      exact ⟨n - (i + 1), by omega, _, _, .refl _ _, i + 1, by omega, rfl, by rw [hs], by simp [hs]⟩
  | cons i w =>
    have hi := (mA i).1 (by rw [hvw]; simp)
    have hiv : i ∉ v := fun hm => by
      rw [hvw] at nA
      have := (List.nodup_append.1 nA).2.2 i hm i (by simp)
      exact this rfl
    have q1 := bc_take (l := marks n v) (i := i) (by simpa using hi.1)
    rw [marks_get hi.1, show decide (i ∈ v) = false by simp [hiv]] at q1
    have hin := hi.1
    refine AX.seq (AX.seq (AX.reg ?_))
    simp [forest_Forest_Members.r7, hin, q1, Nat.add_one_le_iff]
    refine AX.pcond rfl (fun hb => AX.skip ?_) (fun hb => by simp at hb)
    simp
    refine AX.seq (AX.pblock (AX.seq (AX.reg ?_)))
    simp [forest_Forest_Members.r8, hin, Nat.add_one_le_iff, bc_set, marks_set hin, upd_add]
    refine AX.reg ?_
    have hvl : v.length ≤ n := by
      have : (r0 :: A).length = v.length + (i :: w).length := by rw [hvw]; simp
      omega
    simp [forest_Forest_Members.r9, i64_succ (show v.length ≤ 9223372036854775000 by omega)]
    have q2 := nc_take (l := ring) (i := i) (by rw [I.lr]; omega)
    rw [show ring.getD i 0 = gt ring i from rfl, pA.next v i w hvw] at q2
    refine AX.reg ?_
    simp only [forest_Forest_Members.r10]
    simp [h1.gf, h1.gr, hf1, hr1, hin, q2, Nat.add_one_le_iff, Ne.symm h.fr, h.fr]
    exact ⟨w.length, by omega, _, _, .refl _ _, v ++ [i], w, by simp [hvw], rfl, rfl, by simp⟩
end Go.Proofs.Ytihipphpfbnknaa
