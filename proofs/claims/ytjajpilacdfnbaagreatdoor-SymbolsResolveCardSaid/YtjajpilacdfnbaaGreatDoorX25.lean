/- Part 25 of the proof of the laws of the queries: QSort, QSort2, SysD, S15a, S15b, S15c, S15d, S15e, S15f, S15g, S15h, Gen1, S15i, S37b. -/
import Derived.Test.YtjajpilacdfnbaaGreatDoorX19
import Derived.Test.YtjajpilacdfnbaaGreatDoorX23
import Derived.Test.YtjajpilacdfnbaaGreatDoorX24
namespace Go.Proofs.YtjajpilacdfnbaaGreatDoor
open Am C
set_option linter.unusedSimpArgs false
set_option linter.unusedVariables false
theorem yo0 (os : List Nat) (ido mo : Nat) (hne : os ≠ []) (hl : os.length ≤ 8000000000000) (H : Hp) (hg : H.get ido = some (.cells (nc os) mo)) : AC Tryz.prog y55 [.sl (some (ido, 0, os.length)) os.length 1] H (fun v H' => v = ns os ∧ H' = H) := by
  refine AC.row (T := 3) (sz := 1) (by kernel_rfl) (ns_len os) fun κ cs S r => ?_
  obtain ⟨c, rfl, rc⟩ := r.one'
  refine ⟨fun i _ => .int .i64 ((os[i]?).getD 0 : Nat), fun κ' i j e v he hv => ?_, ?_⟩
  · simp only [List.getElem?_map, Option.map_eq_some_iff] at he
    obtain ⟨x, hx, rfl⟩ := he
    cases j with
    | zero => simp at hv; subst hv; simp only [hx, Option.getD_some]; exact .i _ _
    | succ j => simp at hv
  obtain ⟨arr, t, fr, p1, p2, p3, p4, p5⟩ := yim S hg
  have hpos : 0 < os.length := List.length_pos_iff.2 hne
  cases rc with
  | sl _ _ _ _ _ cap nn a ok hz hlc hlo hhi hnc hroom ha =>
  obtain rfl := ha (by omega)
  have hfin : ∀ (xs : List Go.Value), xs = os.map (fun x => Go.Value.int .i64 (x : Nat)) → ∀ (i j : Nat) e v, (os.map fun x => [V.i .i64 (x : Nat)])[i]? = some e → e[j]? = some v → xs[i * 1 + j]? = some (.int .i64 ((os[i]?).getD 0 : Nat)) := by
    rintro _ rfl i j e v he hv
    simp only [List.getElem?_map, Option.map_eq_some_iff] at he
    obtain ⟨x, hx, rfl⟩ := he
    cases j with
    | zero => simp [hx]
    | succ j => simp at hv
  refine (Tryz.slices_Clone_int (κ.pl ido os.length).1 ((κ.pl ido os.length).2 + 0) os.length cap (os.map fun x => ((x : Nat) : Int)) κ.w (by simp) (by omega) fun j hj => ?_).mono fun e w' ⟨v', he, ho, _, hb⟩ => ⟨v', _, he, by simpa using ho, hfin _ ?_, hb⟩
  · simp at hj
    have := p3 j os[j] (List.getElem?_eq_getElem hj)
    rw [Nat.add_zero, y9l p1 (by omega), this]
    simp [List.getD_eq_getElem?_getD, hj]
  · rfl
theorem ykc (z : Nat) (H : Hp) : AC Tryz.prog y55 [.sl none 0 z] H (fun v H' => v = ns [] ∧ H' = H) := by
  refine AC.row (T := 3) (sz := 1) (by kernel_rfl) (ns_len []) fun κ cs S r => ?_
  obtain ⟨c, rfl, rc⟩ := r.one'
  refine ⟨fun i _ => .int .i64 0, fun κ' i j e v he hv => by simp at he, ?_⟩
  cases rc with
  | sl0 _ a =>
  cases a with
  | none => exact (Tryz.slices_Clone_int_nil 0 0 κ.w).mono fun e w' ⟨he, hw⟩ => ⟨_, [], he, by rw [hw]; exact Go.World.ownsRow_nil _ _ _ _, fun i j e v he => by simp at he, by rw [hw]; exact .refl _ _⟩
  | some a => exact (Tryz.slices_Clone_int_zero a 0 κ.w).mono fun e w' ⟨v', he, ho, _, hb⟩ => ⟨v', [], he, ho, fun i j e v he => by simp at he, hb⟩
def RisInv (y bx : Nat) (os : List Nat) (J : Nat → Hp → Prop) (m : Nat) (F : Fr) (X : Hp) : Prop :=
  ∃ k, k ≤ os.length ∧ m = os.length - k ∧ J k X ∧ F = [(0, .yl y), (1, .p (some (bx, 0, 1))), (9, ns os), (10, .i .i64 os.length), (11, .i .i64 k)]
theorem yk5 (y bx id idt ido : Nat) (ts : List Str) (os : List Nat) (J : Nat → Hp → Prop) (H : Hp) (hl : os.length ≤ 1000000) (h0 : J 0 H)
    (hJ : ∀ k X, J k X → (∃ m, X.get bx = some (.cells [.p (some (id, 0, 2))] m) ∧ m ≤ 1) ∧ TabAt X id idt ido ts os)
    (hy : ∀ k n t X, os[k]? = some n → ts[n]? = some t → J k X → YC Tryz.prog y [.s t, .i .i64 (n : Nat)] X (fun v X' => v = .b true ∧ J (k + 1) X')) :
    AC Tryz.prog y47 [.yl y, .p (some (bx, 0, 1))] H (fun _ X => J os.length X) := by
  refine AC.code y1a.at y1a.ok ?_
  obtain ⟨⟨mb, hb, hmb⟩, T⟩ := hJ 0 H h0
  obtain ⟨tv, ov, m, hi, hm, ht, ho⟩ := T.ex
  simp only [y1a]
  refine AX.sr ?_
  simp [y1a.r0, hb, hmb, hi, hm]
  have hcl : AC Tryz.prog y55 [ov] H (fun v H' => v = ns os ∧ H' = H) := by
    rcases ho with ⟨e, z, rfl⟩ | ⟨hne, rfl, mo, go, hmo⟩
    · have e0 : os = [] := by simpa [nc] using e
      subst e0; exact ykc z H
    · have hol : (nc os).length = os.length := by simp [nc]
      rw [hol]
      exact yo0 os ido mo (by simpa [nc] using hne) (by omega) H go
  refine AC.fix hcl ?_
  simp [ns]
  refine AX.pblock (AX.loop (RisInv y bx os J) os.length ⟨_, _, .refl _ _, 0, by omega, by omega, h0, rfl⟩ ?_)
  rintro m' F X ⟨k, hk, rfl, hX, rfl⟩
  simp only [y1a.l0]
  refine AX.sr ?_
  simp [y1a.r1]
  refine AX.seq (AX.pcond rfl (fun hc => AX.skip ?_) (fun hc => AX.exit ?_))
  · simp at hc
    obtain ⟨⟨mb, hb, hmb⟩, T⟩ := hJ k X hX
    obtain ⟨tv, ov, m, hi, hm, ht, ho⟩ := T.ex
    obtain ⟨n, hn⟩ : ∃ n, os[k]? = some n := ⟨_, List.getElem?_eq_getElem hc⟩
    have hnl := T.all n (List.mem_of_getElem? hn)
    obtain ⟨t, htn⟩ : ∃ t, ts[n]? = some t := ⟨_, List.getElem?_eq_getElem hnl⟩
    rcases ht with ⟨e, z, rfl⟩ | ⟨hnt, rfl, mt, gt, hmt⟩
    · have e0 : ts = [] := by simpa [tcs] using e
      rw [e0] at hnl; simp at hnl
    have htl : (tcs ts).length = ts.length := by simp [tcs]
    rw [htl] at hmt hi
    have ht1 : ((tcs ts).drop n).take 1 = [.s t] := ycx (by simp [tcs, htn])
    simp
    refine AX.seq (AX.pblock (AX.seq (AX.reg ?_)))
    simp [y1a.r2, ns, hn]
    refine AX.sr ?_
    simp [y1a.r3, hb, hmb, hi, hm, gt, hmt, ht1, hnl, show n + 1 ≤ ts.length by omega]
    refine (hy k n t X hn htn hX).mono ?_
    rintro v X' ⟨rfl, hX'⟩
    simp
    refine AX.pcond (t := false) rfl (fun h => by simp at h) (fun _ => AX.skip ?_)
    simp
    refine AX.reg ?_
    simp [y1a.r4, y2o (show k ≤ 9223372036854775000 by omega)]
    exact ⟨os.length - (k + 1), by omega, _, _, .refl _ _, k + 1, by omega, rfl, hX', by simp [ns]⟩
  simp at hc
  have : k = os.length := by omega
  subst this
  simp
  exact hX
theorem ynq (id : Nat) (H : Hp) : AC Tryz.prog y4v [.p (some (id, 0, 2))] H (fun v H' => v = .fn y47 [.p (some (H.next, 0, 1))] ∧ H' = H.add (.cells [.p (some (id, 0, 2))] 1)) := by
  refine AC.code y29.at y29.ok ?_
  simp only [y29]
  refine AX.sr ?_
  simp [y29.r0]
  refine AX.sr ?_
  simp [y29.r1]
  refine AX.ret ?_
  simp
end Go.Proofs.YtjajpilacdfnbaaGreatDoor
namespace Go.Proofs.YtjajpilacdfnbaaGreatDoor
open Am C
set_option linter.unusedSimpArgs false
set_option linter.unusedVariables false
theorem ylk {H : Hp} {id idt ido : Nat} {ts : List Str} {os : List Nat} (T : TabAt H id idt ido ts os) (x : Str) : y6a (putT ts os x) (putO ts os x) = y78 (y6a ts os) x := by
  have hR : y52 (y6a ts os) := T.ris
  rw [ygr hR]
  unfold putT putO
  by_cases h : x ∈ y6a ts os
  · simp [h]
  · rw [if_neg h, if_neg h, if_neg h, yll T.all h]
def SoInv (l : List Str) (H : Hp) (m : Nat) (F : Fr) (X : Hp) : Prop :=
  ∃ i, i ≤ l.length ∧ m = l.length - i ∧ H.Ext X ∧ (∀ k blk, X.get k = some blk → k < X.next) ∧ H.next < X.next ∧ (∃ idt ido ts os, TabAt X H.next idt ido ts os ∧ H.next ≤ idt ∧ H.next ≤ ido ∧ y6a ts os = y3y (l.take i)) ∧
    F = [(2, .sl none 0 0), (3, .p (some (H.next, 0, 2))), (10, ss l), (11, .i .i64 l.length), (12, .i .i64 i)]
theorem Ext_left {H X X' : Hp} {id idt ido idt' ido' : Nat} (hl : ∀ k blk, H.get k = some blk → k < H.next) (e : H.Ext X) (h : Left X X' id idt ido idt' ido') (h1 : H.next ≤ id) (h2 : H.next ≤ idt) (h3 : H.next ≤ ido) : H.Ext X' :=
  ⟨Nat.le_trans e.1 h.nx, fun k blk g => by
    have := hl k blk g
    exact h.old k blk (by omega) (by omega) (by omega) (e.2 k blk g)⟩
theorem SlOf.ext {X Y : Hp} {cs : List V} {v : V} {id : Nat} (h : SlOf X cs v id) (e : X.Ext Y) : SlOf Y cs v id :=
  h.imp (fun x => x) fun ⟨a, c, m, g, hm⟩ => ⟨a, c, m, e.2 _ _ g, hm⟩
theorem TabAt.ext {X Y : Hp} {id idt ido : Nat} {ts : List Str} {os : List Nat} (T : TabAt X id idt ido ts os) (e : X.Ext Y) : TabAt Y id idt ido ts os := by
  obtain ⟨tv, ov, m, h1, h2, h3, h4⟩ := T.ex
  exact ⟨⟨tv, ov, m, e.2 _ _ h1, h2, h3.ext e, h4.ext e⟩, T.len, T.all, T.big, T.ris⟩
structure SoJ (X : Hp) (R : List Str) (p : V) (lp : OB) (k : Nat) (Y : Hp) : Prop where
  ext : X.Ext Y
  lt : ∀ j blk, Y.get j = some blk → j < Y.next
  nx : X.next + 2 < Y.next
  bx : Y.get (X.next + 1) = some (.cells [p] 1)
  lp : Y.get (X.next + 2) = some (.obj lp)
  out : ∃ v ia, Y.get X.next = some (.cells [v] 1) ∧ SlOf Y (tcs (R.take k)) v ia ∧ (R.take k ≠ [] → X.next + 2 < ia)
theorem yk9 (l : List Str) (hl : l.length ≤ 1000000) (H : Hp) : AC Tryz.prog y57 [ss l] H (fun v H' => v = ss (y3y l) ∧ H' = H) := by
  refine AC.codeP yk.at yk.ok (yfh _) fun hlt => ?_
  simp only [yk]
  refine AX.sr ?_
  simp [yk.r0]
  refine AX.sr ?_
  simp [yk.r1]
  refine AX.seq (AX.seq (AX.reg ?_))
  simp [yk.r2, ss]
  have T0 : TabAt (H.add (.cells [.sl none 0 0, .sl none 0 0] 2)) H.next H.next H.next [] [] := ⟨⟨_, _, 2, by simp, by omega, .inl ⟨rfl, 0, rfl⟩, .inl ⟨rfl, 0, rfl⟩⟩, rfl, by simp, by simp, by simp [y52]⟩
  refine AX.pblock (AX.loop (SoInv l H) l.length ⟨_, _, .refl _ _, 0, by omega, by omega, .add hlt _, Hp.add_lt hlt _, by simp, ⟨H.next, H.next, [], [], T0, Nat.le_refl _, Nat.le_refl _, rfl⟩, rfl⟩ ?_)
  rintro m F X ⟨i, hi, rfl, hx, hxl, hxn, ⟨idt, ido, ts, os, T, ht, ho, hr⟩, rfl⟩
  have hts : ts.length ≤ i := by
    have h1 : (y6a ts os).length = os.length := by simp [y6a]
    have h2 := ycm l i
    rw [← hr, h1, T.len] at h2
    exact h2
  simp only [yk.l0]
  refine AX.sr ?_
  simp [yk.r3]
  refine AX.seq (AX.pcond rfl (fun hc => AX.skip ?_) (fun hc => AX.exit ?_))
  · simp at hc
    simp
    refine AX.seq (AX.pblock (AX.seq (AX.reg ?_)))
    simp [yk.r4, ss, hc]
    refine AX.reg ?_
    simp [yk.r5]
    refine (Put_ok H.next idt ido ts os l[i] X (by omega) T).mono ?_
    rintro v X' ⟨⟨a, b, rfl⟩, idt', ido', T', L⟩
    simp
    refine AX.reg ?_
    simp [yk.r6, y2j hc (show l.length ≤ 9223372036854775807 by omega)]
    refine ⟨l.length - (i + 1), by omega, _, _, .refl _ _, i + 1, by omega, rfl, Ext_left hlt hx L (Nat.le_refl _) ht ho, L.lt hxl, by have := L.nx; omega, ⟨idt', ido', _, _, T', ?_, ?_, ?_⟩, by simp [ss]⟩
    · rcases L.t with h | h <;> omega
    · rcases L.o with h | h <;> omega
    · rw [ylk T, hr, List.take_add_one, List.getElem?_eq_getElem hc]
      exact (y91 _ _).symm
  simp at hc
  rw [List.take_of_length_le hc] at hr
  simp
  refine AX.sr ?_
  simp [yk.r7]
  refine AX.seq (AX.seq (AX.reg ?_))
  simp [yk.r8]
  refine AC.fix (ynq H.next _) ?_
  simp
  have hR : (y6a ts os).length = os.length := by simp [y6a]
  refine AX.pblock (AX.prange rfl fun S hS => ?_)
  refine (yk5 (X.next + 2) (X.next + 1) H.next idt ido ts os (SoJ X (y6a ts os) (.p (some (H.next, 0, 2))) (.lp S .ready)) _ (by have := T.len; omega) ?_ (fun k Y J => ⟨⟨1, J.bx, by omega⟩, T.ext J.ext⟩) ?_).mono ?_
  · have x1 : X.Ext (X.add (.cells [.sl none 0 0] 1)) := .add hxl _
    have l1 := Hp.add_lt hxl (.cells [.sl none 0 0] 1)
    have x2 := x1.trans (.add l1 (.cells [.p (some (H.next, 0, 2))] 1))
    have l2 := Hp.add_lt l1 (.cells [.p (some (H.next, 0, 2))] 1)
    exact ⟨x2.trans (.add l2 _), Hp.add_lt l2 _, by simp, by simp, by simp, ⟨.sl none 0 0, 0, by simp [show X.next ≠ X.next + 1 + 1 by omega], .inl ⟨by simp [tcs], 0, rfl⟩, fun h => absurd (by simp) h⟩⟩
  · intro k n t Y hn htn J
    have hk := (List.getElem?_eq_some_iff.1 hn).1
    have hrk : (y6a ts os)[k]? = some t := by
      simp only [y6a, List.getElem?_map, hn, Option.map_some, List.getD_eq_getElem?_getD, htn]; rfl
    obtain ⟨v, ia, jo, js, ji⟩ := J.out
    refine YC.walk hS J.lp rfl ?_
    simp only [yk.a1]
    refine AX.reg ?_
    simp [yk.r9, putAll]
    refine ⟨J.lp, ?_⟩
    simp only [yk.b1]
    refine AX.pblock (AX.reg ?_)
    have htk : (y6a ts os).take (k + 1) = (y6a ts os).take k ++ [t] := by rw [List.take_add_one, hrk]; rfl
    rcases js with ⟨e, z, rfl⟩ | ⟨hne, rfl, ma, ga, hma⟩
    · have e0 : (y6a ts os).take k = [] := by simpa [tcs] using e
      have e1 : ∀ G, y3m G 1 16 (.sl none 0 z) (.fs [[.s t]]) = some (.sl (some (G.next, 0, 1)) 1 1, G.add (.cells [.s t] 1)) := fun G => by simp [y3m, y73, y86]
      have n1 := J.nx
      simp [yk.r10, y8y, -y3m, jo, e1, show X.next ≠ Y.next by omega]
      simp [yc0, show X.next + 2 ≠ Y.next by omega, show X.next + 2 ≠ X.next by omega]
      refine ⟨⟨by simp; have := J.ext.1; omega, fun j blk g => ?_⟩, fun j blk g => ?_, by simp; omega, ?_, by simp, ⟨.sl (some (Y.next, 0, 1)) 1 1, Y.next, ?_, .inr ⟨by simp [tcs, htk], by simp [tcs, htk, e0], 1, ?_, by simp [tcs, htk]⟩, fun _ => by omega⟩⟩
      · have := hxl _ _ g
        have := J.ext.1
        simp [show j ≠ X.next + 2 by omega, show j ≠ Y.next by omega, show j ≠ X.next by omega]
        exact J.ext.2 _ _ g
      · by_cases k1 : j = X.next + 2
        · simp; omega
        · by_cases k2 : j = X.next
          · simp; omega
          · by_cases k3 : j = Y.next
            · simp; omega
            · simp [k1, k2, k3] at g
              have := J.lt _ _ g
              simp; omega
      · simp [show X.next + 1 ≠ Y.next by omega, J.bx]
      · simp
      · simp [tcs, htk, e0, show Y.next ≠ X.next + 2 by omega, show Y.next ≠ X.next by omega]
    · have n1 := J.nx
      have hne' : (y6a ts os).take k ≠ [] := fun h => hne (by rw [h]; rfl)
      have hia := ji hne'
      have hial := J.lt _ _ ga
      have htl : (tcs ((y6a ts os).take k)).length = k := by simp [tcs]; omega
      rw [htl] at hma jo
      have e1 : ∀ G : Hp, G.get ia = some (.cells (tcs ((y6a ts os).take k)) ma) → y3m G 1 16 (.sl (some (ia, 0, k)) k 1) (.fs [[.s t]]) = some (.sl (some (ia, 0, k + 1)) (k + 1) 1, G.upd ia (.cells (tcs ((y6a ts os).take k) ++ [.s t]) ma)) := fun G hG => by
        have := T.len; have := T.big
        simp [y3m, y73, y86, hG, htl, y5l]
        omega
      have e2 := e1 (Y.upd (X.next + 2) (.obj (.lp S .busy))) (by simp [show ia ≠ X.next + 2 by omega]; exact ga)
      simp [yk.r10, y8y, -y3m, jo, e2, show X.next ≠ ia by omega]
      simp [yc0, show X.next + 2 ≠ ia by omega, show X.next + 2 ≠ X.next by omega]
      refine ⟨⟨by simp; have := J.ext.1; omega, fun j blk g => ?_⟩, fun j blk g => ?_, by simp; omega, ?_, by simp, ⟨.sl (some (ia, 0, k + 1)) (k + 1) 1, ia, ?_, .inr ⟨by simp [tcs, htk], ?_, ma, ?_, ?_⟩, fun _ => hia⟩⟩
      · have := hxl _ _ g
        simp [show j ≠ X.next + 2 by omega, show j ≠ ia by omega, show j ≠ X.next by omega]
        exact J.ext.2 _ _ g
      · by_cases k1 : j = X.next + 2
        · simp; omega
        · by_cases k2 : j = X.next
          · simp; omega
          · by_cases k3 : j = ia
            · simp; omega
            · simp [k1, k2, k3] at g
              have := J.lt _ _ g
              simp; omega
      · simp [show X.next + 1 ≠ ia by omega, J.bx]
      · simp
      · have : (tcs ((y6a ts os).take (k + 1))).length = k + 1 := by rw [htk]; simp [tcs]; omega
        rw [this]
      · simp [show ia ≠ X.next + 2 by omega, show ia ≠ X.next by omega, htk, tcs]
      · have : (tcs ((y6a ts os).take (k + 1))).length = k + 1 := by rw [htk]; simp [tcs]; omega
        rw [this]; omega
  · rintro v Y J
    have hfull : (y6a ts os).take os.length = y6a ts os := List.take_of_length_le (by omega)
    obtain ⟨u, ia, jo, js, ji⟩ := J.out
    rw [hfull] at js ji
    refine .inl ⟨J.lp, ?_⟩
    simp
    refine AX.sr ?_
    have n1 := J.nx
    have hd : ∀ j, j ≠ X.next + 2 → (Y.del (X.next + 1 + 1)).get j = Y.get j := fun j h => by simp only [Hp.del]; rw [if_neg h]
    have jo' : (Y.del (X.next + 1 + 1)).get X.next = some (.cells [u] 1) := (hd _ (by omega)).trans jo
    simp [yk.r11, jo']
    refine AX.ret ?_
    simp
    refine ⟨⟨by have := J.ext.1; have := hx.1; simp only [Hp.del]; omega, fun j blk g => ?_⟩, ?_⟩
    · have g1 := hx.2 _ _ g
      have g2 := hxl _ _ g1
      rw [hd _ (by omega)]
      exact J.ext.2 _ _ g1
    · rw [← hr]
      rcases js with ⟨e, z, rfl⟩ | ⟨hne, rfl, ma, ga, hma⟩
      · have e0 : y6a ts os = [] := by simpa [tcs] using e
        rw [e0]; exact .sl0 _
      · have hia := ji (fun h => hne (by rw [h]; rfl))
        have hl2 : (tcs (y6a ts os)).length = (y6a ts os).length := by simp [tcs]
        have hfl : ((y6a ts os).map fun x => [V.s x]).flatten = tcs (y6a ts os) := by
          unfold tcs
          induction (y6a ts os) with
          | nil => rfl
          | cons a r ih => simp [ih]
        refine .sl ia 0 _ _ 1 ma (tcs (y6a ts os)) _ (by have := hx.1; omega) ((hd _ (by omega)).trans ga) hma (Nat.le_refl _) (by rw [hl2]; simp) (ylb _) (fun i j e v hi hj => ?_) (fun i j e v w hi hj hw => ?_)
        · have := y8f (ylb (y6a ts os)) hi hj
          rw [hfl] at this
          have := (List.getElem?_eq_some_iff.1 this).1
          omega
        · have := y8f (ylb (y6a ts os)) hi hj
          rw [hfl] at this
          rw [Nat.zero_add, this] at hw; injection hw with hw; subst hw; exact .refl _
end Go.Proofs.YtjajpilacdfnbaaGreatDoor
namespace Go.Proofs.YtjajpilacdfnbaaGreatDoor
open Am C
set_option linter.unusedSimpArgs false
set_option linter.unusedVariables false
structure Mk where
  pos : Int
  tag : Str
  deriving DecidableEq
structure Ob where
  name : Str
  kinds : Str
  marks : List Mk
  deriving DecidableEq
structure Fu where
  name : Str
  kinds : Str
  ret : Str
  deriving DecidableEq
structure Cn where
  op : Int
  a : Str
  b : Str
  k : Int
  tag : Str
  args : List Str
structure Sy where
  objs : List Ob
  fns : List Fu
  cons : List Cn
def y7b (m : Mk) : List V := [.i .i64 m.pos, .s m.tag]
def y49 (o : Ob) : List V := [.s o.name, .s o.kinds, .fs (o.marks.map y7b)]
def y6i (f : Fu) : List V := [.s f.name, .s f.kinds, .s f.ret]
def y4l (c : Cn) : List V := [.i .i64 c.op, .s c.a, .s c.b, .i .i64 c.k, .s c.tag, ss c.args]
def y53 (s : Sy) : List V := [.fs (s.objs.map y49), .fs (s.fns.map y6i), .fs (s.cons.map y4l)]
def y7c (s : Str) : Bool := match y7k s with
  | some d => decide (d.kind ≤ 3) || decide (0 ≤ d.cell)
  | none => false
def ya0 (s : Str) : Bool := match y7k s with
  | some d => decide (d.kind = 4) || decide (0 ≤ d.cell)
  | none => false
def kpB (s : Str) : Bool := s.all fun c => c == 105 || c == 112
def yh7 (t : Str) : Bool := decide (1 ≤ t.length) && decide (t.length ≤ 60)
def mkB (n : Nat) (l : List Mk) (m : Mk) : Bool := decide (0 ≤ m.pos) && decide (m.pos < n) && yh7 m.tag && decide (∀ x, l.getLast? = some x → x.pos ≤ m.pos) && decide (m ∉ l)
def yjr (n : Nat) : List Mk → List Mk → Bool
  | _, [] => true
  | l, m :: r => mkB n l m && yjr n (l ++ [m]) r
def obE (o : Ob) : Int := match y7k o.name with
  | none => 11
  | some d => if d.kind < 5 ∨ 0 ≤ d.cell then 11 else if ¬ (kpB o.kinds = true ∧ 1 ≤ o.kinds.length ∧ o.kinds.length ≤ 64) then 5 else if yjr o.kinds.length [] o.marks then 0 else 3
def retB (r : Str) : Bool := decide (r = [105]) || decide (r = [112]) || decide (r = [118])
def fuE (f : Fu) : Int := match y7k f.name with
  | none => 11
  | some d => if d.kind ≠ 4 then 11 else if ¬ (kpB f.kinds = true ∧ f.kinds.length ≤ 6) ∨ retB f.ret = false then 5 else 0
def yc6 : Str → Option (Str × Str)
  | [] => none
  | c :: r => if c = 62 then some ([], r) else (yc6 r).map fun x => (c :: x.1, x.2)
def yi2 (p : Bool) (a : Str) : Bool := decide (a = []) || (p && y7c a)
def yal (c : Cn) : Bool := match yc6 c.tag with
  | none => false
  | some (l, r) => decide (c.k = 0) && kpB l && decide (l.length ≤ 6) && (decide (r = []) || decide (r = [105]) || decide (r = [112])) && decide (c.args.length = l.length + 1) &&
      (List.range c.args.length).all fun i => yi2 (if i = 0 then decide (r = [112]) else decide (l[i - 1]? = some 112)) (c.args.getD i [])
def ybj (s : Str) : Bool := match y7k s with
  | some d => decide (d.kind = 3)
  | none => false
def cnE (c : Cn) : Int :=
  if c.op < 1 ∨ 6 < c.op then 5
  else if ¬ (y7c c.a = true ∧ (c.op = 6 → ybj c.a = true) ∧ (if c.op = 1 then ya0 c.b = true else y7c c.b = true)) then 11
  else if c.op = 6 then (if yal c then 0 else 3)
  else if c.op = 5 then (if c.args = [] ∧ 0 ≤ c.k ∧ c.k ≤ 64 ∧ yh7 c.tag = true then 0 else 3)
  else if c.args = [] ∧ c.k = 0 ∧ c.tag = [] then 0 else 3
def ybg (x y : Int) : Int := if x < y then -1 else if x = y then 0 else 1
def cmpN (x y : Nat) : Int := if x < y then -1 else if x = y then 0 else 1
def orI : List Int → Int
  | [] => 0
  | x :: r => if x ≠ 0 then x else orI r
def yhx : List Str → List Str → Int
  | [], b => cmpN 0 b.length
  | a :: r, [] => 1
  | a :: r, b :: q => if y8i a b ≠ 0 then y8i a b else yhx r q
def yea (a b : Cn) : Int := orI [ybg a.op b.op, y8i a.a b.a, y8i a.b b.b, ybg a.k b.k, y8i a.tag b.tag, yhx a.args b.args]
def chk {α : Type} (ask : α → Int) (cmp : α → α → Int) : Option α → List α → Int
  | _, [] => 0
  | p, x :: r => if ask x ≠ 0 then ask x else if (match p with | some y => decide (0 ≤ cmp y x) | none => false) then 13 else chk ask cmp (some x) r
def yg1 (a b : Ob) : Int := y8i a.name b.name
def yg2 (a b : Fu) : Int := y8i a.name b.name
def yee (s : Sy) : Int :=
  if 600 < s.objs.length ∨ 600 < s.fns.length ∨ 6000 < s.cons.length then 4
  else orI [chk obE yg1 none s.objs, chk fuE yg2 none s.fns, chk cnE yea none s.cons]
end Go.Proofs.YtjajpilacdfnbaaGreatDoor
namespace Go.Proofs.YtjajpilacdfnbaaGreatDoor
open Am C
set_option linter.unusedSimpArgs false
set_option linter.unusedVariables false
theorem yl3 (a : UInt8) (n : Nat) (hn : n < 256) : ((a.toNat : Int) = n) = (a = UInt8.ofNat n) := by
  apply propext
  constructor
  · intro h
    have : a.toNat = n := by omega
    rw [← this]; simp
  · intro h; subst h; simp; omega
end Go.Proofs.YtjajpilacdfnbaaGreatDoor
namespace Go.Proofs.YtjajpilacdfnbaaGreatDoor
open Am C
set_option linter.unusedSimpArgs false
set_option linter.unusedVariables false
theorem y8j {H : Hp} (hlt : ∀ id blk, H.get id = some blk → id < H.next) (a b : Blk) : H.Ext ((H.add a).upd H.next b) := (Hp.Ext.add hlt _).upd hlt (Nat.le_refl _) _
theorem lt2 {H : Hp} (hlt : ∀ id blk, H.get id = some blk → id < H.next) (a b : Blk) : ∀ id blk, ((H.add a).upd H.next b).get id = some blk → id < ((H.add a).upd H.next b).next := Hp.upd_lt (Hp.add_lt hlt _) (by simp) _
def y9e (l r : Str) : Bool := kpB l && decide (l.length ≤ 6) && (decide (r = []) || decide (r = [105]) || decide (r = [112]))
end Go.Proofs.YtjajpilacdfnbaaGreatDoor
namespace Go.Proofs.YtjajpilacdfnbaaGreatDoor
open Am C
set_option linter.unusedSimpArgs false
set_option linter.unusedVariables false
def yjo (l r : Str) (i : Nat) : Bool := if i = 0 then decide (r = [112]) else decide (l[i - 1]? = some 112)
def yk1 (l r : Str) (args : List Str) : Bool := (List.range args.length).all fun i => yi2 (yjo l r i) (args.getD i [])
theorem yeq (c : Cn) : yal c = match yc6 c.tag with
    | none => false
    | some (l, r) => y9e l r && decide (c.k = 0) && decide (c.args.length = l.length + 1) && yk1 l r c.args := by
  unfold yal
  cases h : yc6 c.tag with
  | none => rfl
  | some x =>
    obtain ⟨l, r⟩ := x
    simp only [y9e, yk1, yjo]
    cases kpB l <;> cases decide (c.k = 0) <;> simp
theorem yjd {l r : Str} {args : List Str} {i : Nat} (h : i < args.length) (hn : yi2 (yjo l r i) (args.getD i []) = false) : yk1 l r args = false := by
  cases hk : yk1 l r args
  · rfl
  · have := List.all_eq_true.1 hk i (List.mem_range.2 h)
    rw [hn] at this; cases this
theorem yez : ∀ {t : Str} {l r : Str}, yc6 t = some (l, r) → l.length + r.length + 1 = t.length
  | [], l, r, h => by simp [yc6] at h
  | c :: q, l, r, h => by
    unfold yc6 at h
    split at h
    · injection h with h; injection h with h1 h2; subst h1; subst h2; simp
    · cases hs : yc6 q with
      | none => rw [hs] at h; cases h
      | some x =>
        rw [hs] at h; injection h with h; injection h with h1 h2
        have := yez (t := q) (l := x.1) (r := x.2) (by rw [hs])
        subst h1; subst h2; simp; omega
end Go.Proofs.YtjajpilacdfnbaaGreatDoor
namespace Go.Proofs.YtjajpilacdfnbaaGreatDoor
open Am C
set_option linter.unusedSimpArgs false
set_option linter.unusedVariables false
def cnB (c : Cn) : Bool := y7c c.a && (!decide (c.op = 6) || ybj c.a) && (if c.op = 1 then ya0 c.b else y7c c.b)
theorem cnE_eq (c : Cn) : cnE c = if c.op < 1 ∨ 6 < c.op then 5 else if cnB c = false then 11 else if c.op = 6 then (if yal c then 0 else 3)
    else if ¬ c.args = [] then 3 else if c.op = 5 then (if 0 ≤ c.k ∧ c.k ≤ 64 ∧ 1 ≤ c.tag.length ∧ c.tag.length ≤ 60 then 0 else 3) else if c.k = 0 ∧ c.tag = [] then 0 else 3 := by
  unfold cnE
  by_cases h1 : c.op < 1 ∨ 6 < c.op
  · rw [if_pos h1, if_pos h1]
  rw [if_neg h1, if_neg h1]
  have e : (y7c c.a = true ∧ (c.op = 6 → ybj c.a = true) ∧ (if c.op = 1 then ya0 c.b = true else y7c c.b = true)) ↔ cnB c = true := by
    unfold cnB
    by_cases h6 : c.op = 6
    · simp [h6, and_assoc]
    · by_cases h1 : c.op = 1 <;> simp [h6, h1]
  by_cases h2 : cnB c = true
  · rw [if_neg (Classical.not_not.2 (e.2 h2)), if_neg (show ¬ cnB c = false by simp [h2])]
    by_cases h6 : c.op = 6
    · rw [if_pos h6, if_pos h6]
    rw [if_neg h6, if_neg h6]
    by_cases ha : c.args = []
    · by_cases h5 : c.op = 5
      · simp [ha, h5, yh7, and_assoc]
      · simp [ha, h5]
    · by_cases h5 : c.op = 5
      · simp [ha, h5]
      · simp [ha, h5]
  · rw [if_pos (fun h => h2 (e.1 h)), if_pos (by simpa using h2)]
end Go.Proofs.YtjajpilacdfnbaaGreatDoor
namespace Go.Proofs.YtjajpilacdfnbaaGreatDoor
open Am C
set_option linter.unusedSimpArgs false
set_option linter.unusedVariables false
def yjs (n : Nat) (l : List Mk) (m : Mk) : Bool := decide (0 ≤ m.pos) && decide (m.pos < n) && yh7 m.tag && decide (∀ x, l.getLast? = some x → x.pos ≤ m.pos)
theorem mkB_eq (n : Nat) (l : List Mk) (m : Mk) : mkB n l m = (yjs n l m && decide (m ∉ l)) := rfl
theorem ygm {n : Nat} {ms : List Mk} {i : Nat} (h : i < ms.length) : yjr n (ms.take i) (ms.drop i) = (mkB n (ms.take i) ms[i] && yjr n (ms.take (i + 1)) (ms.drop (i + 1))) := by
  rw [List.drop_eq_getElem_cons h]
  simp only [yjr]
  rw [List.take_append_getElem h]
theorem mk_eq (q mk : Mk) : y5c [0, 1] [.i .i64 q.pos, .s q.tag] [.i .i64 mk.pos, .s mk.tag] = some (decide (q = mk)) := by
  have : decide (q = mk) = (decide (q.pos = mk.pos) && decide (q.tag = mk.tag)) := by
    cases q; cases mk; simp
  rw [this]
  have e1 : (q.pos == mk.pos) = decide (q.pos = mk.pos) := rfl
  have e2 : (q.tag == mk.tag) = decide (q.tag = mk.tag) := by rw [Bool.eq_iff_iff]; simp
  simp only [y5c, y8w, if_true, e1, e2]
  cases decide (q.pos = mk.pos) <;> cases decide (q.tag = mk.tag) <;> rfl
end Go.Proofs.YtjajpilacdfnbaaGreatDoor
namespace Go.Proofs.YtjajpilacdfnbaaGreatDoor
open Am C
set_option linter.unusedSimpArgs false
set_option linter.unusedVariables false
def zi (l : List Int) : List (List V) := l.map fun x => [V.i .i64 x]
theorem y9h (x : List Int) (y : List Int) : orI (x ++ y) = if orI x ≠ 0 then orI x else orI y := by
  induction x with
  | nil => simp [orI]
  | cons a r ih =>
    by_cases h : a = 0
    · simp [orI, h, ih]
    · simp [orI, h]
end Go.Proofs.YtjajpilacdfnbaaGreatDoor
namespace Go.Proofs.YtjajpilacdfnbaaGreatDoor
open Am C
set_option linter.unusedSimpArgs false
set_option linter.unusedVariables false
def obS (o : Ob) : Prop := o.name.length ≤ 140737488355328 ∧ o.kinds.length ≤ 140737488355328 ∧ o.marks.length ≤ 140737488355328 ∧ ∀ m ∈ o.marks, m.tag.length ≤ 140737488355328
def fuS (f : Fu) : Prop := f.name.length ≤ 140737488355328 ∧ f.kinds.length ≤ 140737488355328
def cnS (c : Cn) : Prop := c.a.length ≤ 140737488355328 ∧ c.b.length ≤ 140737488355328 ∧ c.tag.length ≤ 140737488355328 ∧ c.args.length ≤ 1000000 ∧ ∀ a ∈ c.args, a.length ≤ 140737488355328
def syS (s : Sy) : Prop := s.objs.length ≤ 1000000 ∧ s.fns.length ≤ 1000000 ∧ s.cons.length ≤ 1000000 ∧ (∀ o ∈ s.objs, obS o) ∧ (∀ f ∈ s.fns, fuS f) ∧ ∀ c ∈ s.cons, cnS c
def pv {α : Type} (l : List α) (i : Nat) : Option α := if i = 0 then none else l[i - 1]?
def yb0 {α : Type} (cmp : α → α → Int) (p : Option α) (x : α) : Bool := match p with
  | some y => decide (0 ≤ cmp y x)
  | none => false
theorem yau {α : Type} {ask : α → Int} {cmp : α → α → Int} {l : List α} {i : Nat} (h : i < l.length) :
    chk ask cmp (pv l i) (l.drop i) = if ask l[i] ≠ 0 then ask l[i] else if yb0 cmp (pv l i) l[i] then 13 else chk ask cmp (pv l (i + 1)) (l.drop (i + 1)) := by
  rw [List.drop_eq_getElem_cons h]
  have : pv l (i + 1) = some l[i] := by simp [pv, h]
  rw [this]
  rfl
theorem ycg {α : Type} {ask : α → Int} {cmp : α → α → Int} {l : List α} {i : Nat} (h : l.length ≤ i) : chk ask cmp (pv l i) (l.drop i) = 0 := by
  rw [List.drop_eq_nil_of_le h]
  cases pv l i <;> rfl
theorem ymi (a b : Str) : decide (0 ≤ y8i a b) = !ltB a b := by
  unfold y8i
  cases h : ltB a b
  · by_cases e : a = b <;> simp [e]
  · simp
theorem or0 (x : Int) (r : List Int) (h : x = 0) : orI (x :: r) = orI r := by simp [orI, h]
theorem or1 (x : Int) (r : List Int) (h : ¬ x = 0) : orI (x :: r) = x := by simp [orI, h]
end Go.Proofs.YtjajpilacdfnbaaGreatDoor
namespace Go.Proofs.YtjajpilacdfnbaaGreatDoor
open Am C
set_option linter.unusedSimpArgs false
set_option linter.unusedVariables false
theorem yfp {α : Type} {ask : α → Int} {cmp : α → α → Int} : ∀ {l : List α} {p : Option α}, chk ask cmp p l = 0 → ∀ x ∈ l, ask x = 0
  | [], _, _, x, hx => by cases hx
  | a :: r, p, h, x, hx => by
    rw [show chk ask cmp p (a :: r) = if ask a ≠ 0 then ask a else if yb0 cmp p a then 13 else chk ask cmp (some a) r from rfl] at h
    split at h
    · rename_i h1; exact absurd h h1
    rename_i h1
    split at h
    · exact absurd h (by decide)
    rcases List.mem_cons.1 hx with rfl | hx
    · exact Classical.not_not.1 h1
    · exact yfp h x hx
theorem y9q {x : Int} {r : List Int} (h : orI (x :: r) = 0) : x = 0 ∧ orI r = 0 := by
  by_cases e : x = 0
  · rw [or0 _ _ e] at h; exact ⟨e, h⟩
  · rw [or1 _ _ e] at h; exact absurd h e
theorem ydd {s : Sy} (h : yee s = 0) : s.objs.length ≤ 600 ∧ s.fns.length ≤ 600 ∧ s.cons.length ≤ 6000 ∧ (∀ o ∈ s.objs, obE o = 0) ∧ (∀ f ∈ s.fns, fuE f = 0) ∧ ∀ c ∈ s.cons, cnE c = 0 := by
  unfold yee at h
  split at h
  · cases h
  rename_i hn
  obtain ⟨h1, h⟩ := y9q h
  obtain ⟨h2, h⟩ := y9q h
  obtain ⟨h3, h⟩ := y9q h
  exact ⟨by omega, by omega, by omega, yfp h1, yfp h2, yfp h3⟩
def sc1 (l : List Str) : List (List V) := l.map fun x => [V.s x]
end Go.Proofs.YtjajpilacdfnbaaGreatDoor
namespace Go.Proofs.YtjajpilacdfnbaaGreatDoor
open Am C
set_option linter.unusedSimpArgs false
set_option linter.unusedVariables false
def elV (ag : Bool) (cs : List V) : V := if ag then .agg cs else cs.headD .junk
theorem one_el {ag : Bool} {cs : List V} {sz : Nat} (h1 : cs.length = sz) (h2 : ag = false → sz = 1) : one ag cs = some (elV ag cs) := by
  cases ag with
  | true => simp [elV]
  | false =>
    have := h2 rfl
    match cs, h1 with
    | [v], _ => simp [elV]
    | [], h => simp at h; omega
    | _ :: _ :: _, h => simp at h; omega
def yav.r0 : List AStep := [⟨some 4, none, .op (.mov (.c (.i .i64 0)))⟩]
def yav.r1 : List AStep := [ab 6 0,ai 7 6,ac 8 0]
def yav.r2 : List AStep := [⟨some 9, none, .op (.bin .lss (.t 8) (.t 7))⟩]
def yav.r3 : List AStep := [⟨some 10, none, .op (.mov (.t 8))⟩, ⟨some 5, none, .op (.mov (.t 10))⟩]
def yav.r4 (sz : Nat) (ag : Bool) : List AStep := [ab 11 1,ab 12 0,ab 13 5,⟨some 14, none, .op (.iad sz (.t 12) (.t 13))⟩,⟨some 15, none, .op (.load ag sz (.t 14))⟩,a1w 16 11 15]
def yav.r5 : List AStep := [⟨some 17, none, .op (.mov (.t 5))⟩, ⟨some 4, none, .op (.mov (.t 17))⟩]
def yav.r6 : List AStep := [⟨some 18, none, .op (.bin .add (.t 8) (.c (.i .i64 1)))⟩, ⟨some 8, none, .op (.mov (.t 18))⟩]
def yav.r7 : List AStep := [⟨some 4, none, .op (.mov (.c (.i .i64 (-1))))⟩]
def yav.l0 (sz : Nat) (ag : Bool) : ACode := .seq (.post [0, 1, 7, 8, 9] (.region yav.r2)) (.seq (.post [0, 1, 7, 8] (.cond (.t 9) (.skip) (.exit 0))) (.seq (.post [0, 1, 7, 8] (.block 1 (.seq (.post [0, 1, 5, 7, 8] (.region yav.r3)) (.seq (.post [0, 1, 5, 7, 8, 16] (.region (yav.r4 sz ag))) (.post [0, 1, 7, 8] (.cond (.t 16) (.seq (.post [4] (.region yav.r5)) (.ret)) (.skip))))))) (.post [0, 1, 7, 8] (.region yav.r6))))
def yav (sz : Nat) (ag : Bool) : AFunc := ⟨19, [.t 4], .seq (.post [0, 1] (.region yav.r0)) (.seq (.seq (.post [0, 1, 7, 8] (.region yav.r1)) (.post [] (.block 0 (.loop (yav.l0 sz ag))))) (.seq (.post [4] (.region yav.r7)) (.ret)))⟩
section
variable {α : Type}
def IdxAInv (es : List (List V)) (g : V) (p : α → Bool) (l : List α) (H : Hp) (m : Nat) (F : Fr) (H' : Hp) : Prop :=
  ∃ i, i ≤ l.length ∧ m = l.length - i ∧ (l.take i).find? p = none ∧ H' = H ∧ F = [(0, .fs es), (1, g), (7, .i .i64 l.length), (8, .i .i64 i)]
theorem yfb {fid : Go.FuncId} {fn : Go.Func} {sz : Nat} {ag : Bool} (hf : Tryz.prog.funcs[fid]? = some fn) (hok : y23 Tryz.prog fn (yav sz ag) = true) (l : List α) (enc : α → List V) (he : ∀ x ∈ l, (enc x).length = sz) (ha : ag = false → sz = 1) (f : Go.FuncId) (caps : List V) (p : α → Bool)
    (hl : l.length ≤ 9223372036854775807) (H : Hp) (hc : ∀ x ∈ l, AC Tryz.prog f (elV ag (enc x) :: caps) H (fun v H' => v = .b (p x) ∧ H' = H)) :
    AC Tryz.prog fid [.fs (l.map enc), .fn f caps] H (fun v H' => v = .i .i64 (yhs p l) ∧ H' = H) := by
  refine AC.code hf hok ?_
  simp only [yav]
  refine AX.sr ?_
  simp [yav.r0]
  refine AX.seq (AX.seq (AX.reg ?_))
  simp [yav.r1]
  refine AX.pblock (AX.loop (IdxAInv (l.map enc) (.fn f caps) p l H) l.length ⟨_, _, .refl _ _, 0, by omega, by omega, by simp, rfl, rfl⟩ ?_)
  rintro m F H' ⟨i, hi, rfl, hx, rfl, rfl⟩
  simp only [yav.l0]
  refine AX.sr ?_
  simp [yav.r2]
  refine AX.seq (AX.pcond rfl (fun hd => AX.skip ?_) (fun hd => AX.exit ?_))
  · simp at hd
    simp
    have hg : l[i]? = some l[i] := List.getElem?_eq_getElem hd
    have hm := List.getElem_mem hd
    have h1 := he _ hm
    have h2 := hc _ hm
    have h3 := one_el h1 ha
    have htk : List.take sz (enc l[i]) = enc l[i] := List.take_of_length_le (by omega)
    refine AX.seq (AX.pblock (AX.seq (AX.reg ?_)))
    simp [yav.r3]
    refine AX.sr ?_
    simp [yav.r4, hd, hg, h1, htk, h3, -one]
    refine AC.fix h2 ?_
    simp
    refine AX.pcond rfl (fun hb => ?_) (fun hb => AX.skip ?_)
    · refine AX.sr ?_
      simp [yav.r5]
      refine AX.ret ?_
      simp
      exact (ymd hg hb hx).symm
    simp
    refine AX.reg ?_
    simp [yav.r6, y2j hd hl]
    refine ⟨l.length - (i + 1), by omega, _, _, .refl _ _, i + 1, by omega, rfl, ?_, rfl, by simp⟩
    rw [List.take_add_one, hg, List.find?_append, hx]
    simp [hb]
  simp at hd
  rw [List.take_of_length_le hd] at hx
  simp
  refine AX.sr ?_
  simp [yav.r7]
  refine AX.ret ?_
  simp [ybs hx]
def yke.r0 : List AStep := [⟨some 4, none, .op (.mov (.c (.b false)))⟩]
def yke.r1 (ix : Go.FuncId) : List AStep := [ab 5 0,ab 6 1,⟨some 7, none, .call ix [.t 5, .t 6]⟩,a1e 8 7 0,ab 4 8]
def yke (ix : Go.FuncId) : AFunc := ⟨9, [.t 4], .seq (.post [0, 1] (.region yke.r0)) (.seq (.post [4] (.region (yke.r1 ix))) (.ret))⟩
theorem idxP_any (p : α → Bool) (l : List α) : decide (0 ≤ yhs p l) = l.any p := by
  cases hf : l.find? p with
  | none =>
    rw [ybs hf]
    have : l.any p = false := by rw [List.any_eq_false]; intro x hx; exact List.find?_eq_none.1 hf x hx
    rw [this]; rfl
  | some x =>
    obtain ⟨i, h1, h2, h3⟩ := ymm hf
    rw [h3]
    have : l.any p = true := List.any_eq_true.2 ⟨x, List.mem_of_find?_eq_some hf, List.find?_some hf⟩
    rw [this]; simp
theorem yfn {fid ix : Go.FuncId} {fn : Go.Func} (hf : Tryz.prog.funcs[fid]? = some fn) (hok : y23 Tryz.prog fn (yke ix) = true) {a g : V} {p : α → Bool} {l : List α} {H : Hp}
    (h : AC Tryz.prog ix [a, g] H (fun v H' => v = .i .i64 (yhs p l) ∧ H' = H)) : AC Tryz.prog fid [a, g] H (fun v H' => v = .b (l.any p) ∧ H' = H) := by
  refine AC.code hf hok ?_
  simp only [yke]
  refine AX.sr ?_
  simp [yke.r0]
  refine AX.sr ?_
  simp [yke.r1]
  refine AC.fix h ?_
  simp
  refine AX.ret ?_
  simp [idxP_any]
end
end Go.Proofs.YtjajpilacdfnbaaGreatDoor
namespace Go.Proofs.YtjajpilacdfnbaaGreatDoor
open Am C
set_option linter.unusedSimpArgs false
set_option linter.unusedVariables false
theorem y9d (l : List Str) : (y3y l).length ≤ l.length := by
  have := ycm l l.length
  rwa [List.take_length] at this
end Go.Proofs.YtjajpilacdfnbaaGreatDoor
namespace Go.Proofs.YtjajpilacdfnbaaGreatDoor
open Am C
set_option linter.unusedSimpArgs false
set_option linter.unusedVariables false
theorem yca : ∀ {a b : List Str}, y52 a → y52 b → (∀ x, x ∈ a ↔ x ∈ b) → a = b
  | [], [], _, _, _ => rfl
  | [], b :: s, _, _, h => absurd ((h b).2 (by simp)) (by simp)
  | a :: r, [], _, _, h => absurd ((h a).1 (by simp)) (by simp)
  | a :: r, b :: s, ha, hb, h => by
    have ha' := List.pairwise_cons.1 ha
    have hb' := List.pairwise_cons.1 hb
    have e : a = b := by
      refine Classical.byContradiction fun hne => ?_
      have h1 : a ∈ s := (List.mem_cons.1 ((h a).1 (by simp))).resolve_left hne
      have h2 : b ∈ r := (List.mem_cons.1 ((h b).2 (by simp))).resolve_left (Ne.symm hne)
      have := ybr (ha'.1 b h2)
      rw [hb'.1 a h1] at this; cases this
    subst e
    have : r = s := yca ha'.2 hb'.2 fun x => ⟨fun hx => ?_, fun hx => ?_⟩
    · rw [this]
    · exact (List.mem_cons.1 ((h x).1 (by simp [hx]))).resolve_left fun e => by have := ha'.1 x hx; rw [e] at this; exact y8u _ this
    · exact (List.mem_cons.1 ((h x).2 (by simp [hx]))).resolve_left fun e => by have := hb'.1 x hx; rw [e] at this; exact y8u _ this
end Go.Proofs.YtjajpilacdfnbaaGreatDoor
