/- Part 31 of the proof of the laws of the queries: QSrtL, QSrt, Rsv, Rsv2. -/
import Derived.Shelf.Sort.Plain
import Derived.Shelf.Slices.In.SortNone
import Derived.Lib.RowBridge
import Derived.Test.YtjajpilacdfnbaaGreatDoorX19
import Derived.Test.YtjajpilacdfnbaaGreatDoorX23
import Derived.Test.YtjajpilacdfnbaaGreatDoorX26
import Derived.Test.YtjajpilacdfnbaaGreatDoorX28
import Derived.Test.YtjajpilacdfnbaaGreatDoorX29
import Derived.Test.YtjajpilacdfnbaaGreatDoorX30
namespace Go.Proofs
open Go.Shelf Go.RowKit Go.Sort Go.Lib
def Tryz.lays190_ren : Go.Shelf.Ren := ⟨fun | 190 => 16 | 125 => 42 | 258 => 41 | 128 => 80 | 129 => 81 | 302 => 71 | 303 => 72 | 304 => 73 | 305 => 74 | 306 => 75 | 307 => 76 | 308 => 77 | 309 => 78 | 310 => 79 | 333 => 110 | 329 => 111 | 330 => 112 | 334 => 113 | 335 => 114 | 336 => 115 | 344 => 144 | n => n, fun | 31 => 31 | 9 => 9 | 3 => 3 | 46 => 80 | 0 => 0 | 51 => 123 | 53 => 125 | 4 => 4 | 183 => 115 | 182 => 114 | 131 => 120 | 5 => 5 | 218 => 153 | 222 => 157 | 228 => 192 | 229 => 193 | n => n, fun | n => n⟩
theorem Tryz.lays190 : Go.Proofs.Lays.n190 Tryz.prog Tryz.lays190_ren := {
  mixed := by kernel_rfl
  f125 := Tryz.func42.trans (congrArg some (by kernel_rfl))
  f128 := Tryz.func80.trans (congrArg some (by kernel_rfl))
  f129 := Tryz.func81.trans (congrArg some (by kernel_rfl))
  f190 := Tryz.func16.trans (congrArg some (by kernel_rfl))
  f258 := Tryz.func41.trans (congrArg some (by kernel_rfl))
  f302 := Tryz.func71.trans (congrArg some (by kernel_rfl))
  f303 := Tryz.func72.trans (congrArg some (by kernel_rfl))
  f304 := Tryz.func73.trans (congrArg some (by kernel_rfl))
  f305 := Tryz.func74.trans (congrArg some (by kernel_rfl))
  f306 := Tryz.func75.trans (congrArg some (by kernel_rfl))
  f307 := Tryz.func76.trans (congrArg some (by kernel_rfl))
  f308 := Tryz.func77.trans (congrArg some (by kernel_rfl))
  f309 := Tryz.func78.trans (congrArg some (by kernel_rfl))
  f310 := Tryz.func79.trans (congrArg some (by kernel_rfl))
  f329 := Tryz.func111.trans (congrArg some (by kernel_rfl))
  f330 := Tryz.func112.trans (congrArg some (by kernel_rfl))
  f333 := Tryz.func110.trans (congrArg some (by kernel_rfl))
  f334 := Tryz.func113.trans (congrArg some (by kernel_rfl))
  f335 := Tryz.func114.trans (congrArg some (by kernel_rfl))
  f336 := Tryz.func115.trans (congrArg some (by kernel_rfl))
  f344 := Tryz.func144.trans (congrArg some (by kernel_rfl))
  t0 := Tryz.underlying0
  a0 := Tryz.isAgg0
  z0 := Tryz.sizeOf0
  v0 := Tryz.zeroValue0
  t3 := Tryz.underlying3
  a3 := Tryz.isAgg3
  z3 := Tryz.sizeOf3
  v3 := Tryz.zeroValue3
  t4 := Tryz.underlying4
  a4 := Tryz.isAgg4
  z4 := Tryz.sizeOf4
  v4 := Tryz.zeroValue4
  t5 := Tryz.underlying5
  a5 := Tryz.isAgg5
  z5 := Tryz.sizeOf5
  v5 := Tryz.zeroValue5
  t9 := Tryz.underlying9
  a9 := Tryz.isAgg9
  z9 := Tryz.sizeOf9
  v9 := Tryz.zeroValue9
  t31 := Tryz.underlying31
  a31 := Tryz.isAgg31
  z31 := Tryz.sizeOf31
  v31 := Tryz.zeroValue31
  t46 := Tryz.underlying80
  a46 := Tryz.isAgg80
  z46 := Tryz.sizeOf80
  v46 := Tryz.zeroValue80
  t51 := Tryz.underlying123
  a51 := Tryz.isAgg123
  z51 := Tryz.sizeOf123
  v51 := Tryz.zeroValue123
  t53 := Tryz.underlying125
  a53 := Tryz.isAgg125
  z53 := Tryz.sizeOf125
  v53 := Tryz.zeroValue125
  t131 := Tryz.underlying120
  a131 := Tryz.isAgg120
  z131 := Tryz.sizeOf120
  v131 := Tryz.zeroValue120
  t182 := Tryz.underlying114
  a182 := Tryz.isAgg114
  z182 := Tryz.sizeOf114
  v182 := Tryz.zeroValue114
  t183 := Tryz.underlying115
  a183 := Tryz.isAgg115
  z183 := Tryz.sizeOf115
  v183 := Tryz.zeroValue115
  t218 := Tryz.underlying153
  a218 := Tryz.isAgg153
  z218 := Tryz.sizeOf153
  v218 := Tryz.zeroValue153
  t222 := Tryz.underlying157
  a222 := Tryz.isAgg157
  z222 := Tryz.sizeOf157
  v222 := Tryz.zeroValue157
  t228 := Tryz.underlying192
  a228 := Tryz.isAgg192
  z228 := Tryz.sizeOf192
  v228 := Tryz.zeroValue192
  t229 := Tryz.underlying193
  a229 := Tryz.isAgg193
  z229 := Tryz.sizeOf193
  v229 := Tryz.zeroValue193 }
open Go.RowKit in
theorem Tryz.slices_Sort_string (blk off cap : Nat) (ss : List (List UInt8)) (w : World) (hH : Holds encStr w blk off ss.toArray) (hblk : blk < w.heap.size) (hsz : ss.length < 4611686018427387904) :
    Calls Tryz.prog 16 #[.slice (some ⟨blk, off, none⟩) ss.length cap] w fun e w' =>
      e = .returned (.tuple #[]) ∧ ∃ n os, w' = grow (putRow encStr (Sort.ahead w n) blk off (ss.mergeSort fun x y => decide (x ≤ y)).toArray) os := Any.slices_Sort_string Tryz.lays190 blk off cap ss w hH hblk hsz
open Go.RowKit in
theorem Tryz.slices_Sort_string_none (p : Option Addr) (cap : Nat) (w : World) :
    Calls Tryz.prog 16 #[.slice p 0 cap] w fun e w' => e = .returned (.tuple #[]) ∧ w' = w := Any.slices_Sort_string_none Tryz.lays190 p cap w
end Go.Proofs
namespace Go.Proofs.YtjajpilacdfnbaaGreatDoor
open Am C
set_option linter.unusedSimpArgs false
set_option linter.unusedVariables false
def ye6 (l : List Str) : List Str := l.mergeSort fun x y => decide (x ≤ y)
theorem yiz (x y : Str) : decide (x ≤ y) = !ltB y x := by
  unfold ltB
  rw [Go.Proofs.bytesLess_eq]
  by_cases h : y < x
  · have : ¬ x ≤ y := fun k => k h
    simp [h, this]
  · have : x ≤ y := h
    simp [h, this]
theorem yjq {l : List Str} (h : l.Nodup) : ye6 l = y3y l := by
  have hp := List.mergeSort_perm l fun x y => decide (x ≤ y)
  have hs : (ye6 l).Pairwise fun a b => decide (a ≤ b) = true := List.pairwise_mergeSort (fun a b c h1 h2 => by
      rw [yiz] at h1 h2 ⊢
      cases hh : ltB c a with
      | false => rfl
      | true =>
        rcases ydn a b with k | k | k
        · have := y9i hh k; rw [this] at h2; simp at h2
        · subst k; rw [hh] at h2; simp at h2
        · rw [k] at h1; simp at h1)
    (fun a b => by
      rw [yiz, yiz]
      rcases ydn a b with k | k | k
      · rw [ybr k]; simp
      · subst k
        have : ltB a a = false := by cases hh : ltB a a with | false => rfl | true => exact absurd hh (y8u a)
        rw [this]; simp
      · rw [ybr k]; simp) l
  have hn : (ye6 l).Nodup := hp.nodup_iff.2 h
  have hr : y52 (ye6 l) := (hs.and hn).imp fun {a b} hab => by
    obtain ⟨h1, h2⟩ := hab
    rw [yiz] at h1
    rcases ydn a b with k | k | k
    · exact k
    · exact absurd k h2
    · rw [k] at h1; simp at h1
  exact yca hr (y95 l) fun x => by rw [y7y]; exact hp.mem_iff
namespace Am
open Go Go.RowKit Go.Proofs Go.Sort
theorem SortS_ok (l : List Str) (hl : l.length ≤ 1000000000) (hn : l ≠ []) (id m : Nat) (H : Hp) (hg : H.get id = some (.cells (l.map V.s) m)) :
    AC Tryz.prog y4d [.sl (some (id, 0, l.length)) l.length 1] H (fun v H' => v = .tup [] ∧ H' = H.upd id (.cells ((ye6 l).map V.s) l.length)) := by
  refine ⟨by kernel_rfl, fun κ cs S r => ?_⟩
  obtain ⟨c, rfl, rc⟩ := r.one'
  have hm := S.le id _ m hg
  have hP := S.cells id _ m hg l.length (by simpa using hm) (by simp)
  obtain ⟨⟨arr, t, fr, p1, p2, p3, p4⟩, p5⟩ := hP
  have hlen : (ye6 l).length = l.length := List.length_mergeSort l
  have hpos : 0 < l.length := List.length_pos_iff.2 hn
  cases rc with
  | sl _ _ _ _ _ cap n a ok hsz hcap hext hext2 hn' hroom ha =>
  have ha := ha (by omega)
  subst ha
  have hcell : ∀ j, j < l.length → κ.w.cell? ⟨(κ.pl id l.length).1, (κ.pl id l.length).2 + 0 + j, none⟩ = some (encStr (l.getD j [])) := fun j hj => by
    rw [y9l p1 (by omega)]
    have := p3 j (.s (l.getD j [])) hj (by simp [hj])
    have := VR.inv_s this
    rw [Nat.add_zero, this]
  have hfro : ∀ j, j < l.length → κ.w.frozen? ⟨(κ.pl id l.length).1, (κ.pl id l.length).2 + 0 + j, none⟩ = false := fun j hj => ycf p1 p4 (by omega)
  have hH : Holds encStr κ.w (κ.pl id l.length).1 ((κ.pl id l.length).2 + 0) l.toArray := fun j hj => by
    have hj' : j < l.length := by simpa using hj
    refine ⟨?_, hfro j hj'⟩
    rw [hcell j hj']
    simp [hj']
  refine (Tryz.slices_Sort_string _ _ cap l κ.w hH (lt_of_some p1) (by omega)).mono fun e w' ⟨he, q, os, hw⟩ => ?_
  have hsc := Lib.putRow_eq_setCells encStr κ.w (κ.pl id l.length).1 ((κ.pl id l.length).2 + 0) l.toArray (ye6 l) q hH (by simpa using hlen)
  have hw2 : w' = grow ((κ.w.drewN q).setCells (κ.pl id l.length).1 ((κ.pl id l.length).2 + 0) ((ye6 l).map encStr)) os := by rw [hw, ← hsc]; rfl
  have bd : Below κ.w.heap.size κ.w (κ.w.drewN q) := by have := Lib.below_grow κ.w.heap.size κ.w (Nat.le_refl _) q #[]; simpa using this
  have le1 := K.below_le S bd
  have S1 := S.below bd
  have hvr : VRs { κ with w := κ.w.drewN q } ((ye6 l).map V.s) ((ye6 l).map encStr) := ⟨by simp, fun j v hj => by
    rw [List.getElem?_map, Option.map_eq_some_iff] at hj
    obtain ⟨x, hx, rfl⟩ := hj
    rw [List.getD_eq_getElem?_getD, List.getElem?_map, hx]
    exact .s x⟩
  obtain ⟨κ2, le2, S2, run, pl2, ok2⟩ := Sim.setAll_ok (P := Tryz.prog) ((ye6 l).map V.s) ((ye6 l).map encStr) S1 hg (fun e => by simp at e; rw [e] at hlen; simp at hlen; omega) (off := 0) (i := 0) (by simp [hlen]) (fun v hv => by
    obtain ⟨x, _, rfl⟩ := List.mem_map.1 hv; rfl) hvr
  have run2 := run_storeCells_cells (P := Tryz.prog) (κ.pl id l.length).1 ((κ.pl id l.length).2 + 0) ((ye6 l).map encStr) 0 (κ.w.drewN q)
    (fun j hj => by
      have hj' : j < l.length := by simpa [hlen] using hj
      have := hcell j hj'
      simp only [Nat.add_zero] at this ⊢
      show (κ.w.cell? _).isSome = true
      rw [this]; rfl)
    (fun j hj => by
      have hj' : j < l.length := by simpa [hlen] using hj
      have := hfro j hj'
      simp only [Nat.add_zero] at this ⊢
      exact this)
    (fun v hv => by obtain ⟨x, _, rfl⟩ := List.mem_map.1 hv; rfl)
  have ew : κ2.w = (κ.w.drewN q).setCells (κ.pl id l.length).1 ((κ.pl id l.length).2 + 0) ((ye6 l).map encStr) := by
    have e1 : (List.map V.s l).length = l.length := by simp
    rw [e1] at run
    have := run.symm.trans run2
    injection this with _ h
  have bg : Below κ2.w.heap.size κ2.w w' := by
    rw [hw2, ← ew]
    exact Lib.below_grow κ2.w.heap.size κ2.w (Nat.le_refl _) 0 os
  have le3 := K.below_le S2 bg
  have S3 := S2.below bg
  refine ⟨{ κ2 with w := w' }, .tup [], _, _, he, rfl, le1.trans (le2.trans le3), S3, VR.tup (κ := { κ2 with w := w' }) [] [] rfl (fun j v h => by simp at h), rfl, ?_⟩
  rw [yap _ _ (by simp [hlen])]
  simp
theorem ynl (z : Nat) (H : Hp) : AC Tryz.prog y4d [.sl none 0 z] H (fun v H' => v = .tup [] ∧ H' = H) := by
  refine AC.below (by kernel_rfl) fun κ cs r => ?_
  obtain ⟨c, rfl, rc⟩ := r.one'
  cases rc with
  | sl0 _ a =>
  refine ⟨.tuple #[], fun κ' => VR.tup (κ := κ') [] [] rfl (fun j v h => by simp at h), ?_⟩
  exact (Tryz.slices_Sort_string_none a 0 κ.w).mono fun e w' ⟨he, hw⟩ => ⟨he, by rw [hw]; exact .refl _ _⟩
end Am
end Go.Proofs.YtjajpilacdfnbaaGreatDoor
namespace Go.Proofs.YtjajpilacdfnbaaGreatDoor
open Am C
set_option linter.unusedSimpArgs false
set_option linter.unusedVariables false
theorem idxSu.ok : y23 Tryz.prog Tryz.f40 (yav 7 true) = true := by kernel_rfl
theorem conSu.ok : y23 Tryz.prog Tryz.f13 (yke y3v) = true := by kernel_rfl
theorem conSu_ok (l : List Su) (f : Go.FuncId) (caps : List V) (p : Su → Bool) (hl : l.length ≤ 9223372036854775807) (H : Hp) (hc : ∀ x ∈ l, AC Tryz.prog f (.agg (y3z x) :: caps) H (fun v H' => v = .b (p x) ∧ H' = H)) :
    AC Tryz.prog y3s [.fs (l.map y3z), .fn f caps] H (fun v H' => v = .b (l.any p) ∧ H' = H) :=
  yfn y2d.at conSu.ok (yfb yx.at idxSu.ok l y3z (fun x _ => rfl) (fun h => by cases h) f caps p hl H hc)
theorem rsv1_ok (t s : Su) (id : Nat) (H : Hp) (hb : H.get id = some (.cells (y3z s) 7)) : AC Tryz.prog y5w [.agg (y3z t), .p (some (id, 0, 7))] H (fun v H' => v = .b (decide (t.name = s.name)) ∧ H' = H) := by
  refine AC.code y2q.at y2q.ok ?_
  simp only [y2q]
  refine AX.sr ?_
  simp [y2q.r0, y3z]
  refine AX.sr ?_
  simp [y2q.r1, hb, y3z]
  refine AX.ret ?_
  simp
def esF (es : List (Str × V)) (P : List (Nat × Th)) : List (Str × V) := es.map fun p => (p.1, .fs ((ofN p.1 P).map thV))
def ymb (es : List (Str × V)) (j : Nat) : Str := ((es[j]?).map Prod.fst).getD []
def RsI0 (l : List Su) (H : Hp) (m : Nat) (F : Fr) (X : Hp) : Prop :=
  ∃ i, i ≤ l.length ∧ m = l.length - i ∧ ycs [] l = ycs ((l.take i).map Su.name) (l.drop i) ∧ H.Ext X ∧ (∀ id blk, X.get id = some blk → id < X.next) ∧ F = [(0, .fs (l.map y3z)), (19, .fs (l.map y3z)), (20, .i .i64 l.length), (21, .i .i64 i)]
def RsI1 (l : List Su) (H : Hp) (mid iid : Nat) (es : List (Str × V)) (m : Nat) (F : Fr) (Y : Hp) : Prop :=
  ∃ seen w, seen.Nodup ∧ (∀ j ∈ seen, j < es.length) ∧ m = es.length - seen.length ∧ (seen = [] → w = .sl none 0 0) ∧ Acc H 1 w Y (sc1 (seen.map (ymb es))) ∧ Y.get mid = some (.obj (.map es)) ∧ Y.get iid = some (.obj (.iter mid es.length seen)) ∧
    F = [(0, .fs (l.map y3z)), (8, .mp (some mid)), (9, w), (46, .it iid)]
def RsI2 (l : List Su) (H : Hp) (mid : Nat) (es : List (Str × V)) (ns : List Str) (m : Nat) (F : Fr) (Y : Hp) : Prop :=
  ∃ k w L, k ≤ ns.length ∧ m = ns.length - k ∧ yf0 l ns [] = yf0 l (ns.drop k) L ∧ L.length ≤ k ∧ Acc H 3 w Y (L.map ycn) ∧ Y.get mid = some (.obj (.map es)) ∧
    F = [(0, .fs (l.map y3z)), (8, .mp (some mid)), (11, w), (57, ss ns), (58, .i .i64 ns.length), (59, .i .i64 k)]
theorem mget_esF {es : List (Str × V)} {P : List (Nat × Th)} {k : Str} (h : k ∈ es.map Prod.fst) : yg0 (esF es P) k = some (.fs ((ofN k P).map thV)) := by
  induction es with
  | nil => cases h
  | cons p es ih =>
    simp only [esF, List.map_cons, yg0]
    by_cases e : p.1 = k
    · simp [e]
    · rw [if_neg e]
      exact ih ((List.mem_cons.1 (by simpa using h)).resolve_left (Ne.symm e))
theorem SortAcc {H X : Hp} {w : V} {N : List Str} (A : Acc H 1 w X (sc1 N)) (hN : N.length ≤ 1000000000) (hw0 : N = [] → w = .sl none 0 0) (hlt : ∀ id blk, H.get id = some blk → id < H.next) :
    AC Tryz.prog y4d [w] X (fun v X' => v = .tup [] ∧ Acc H 1 w X' (sc1 (ye6 N)) ∧ ∀ id o, X.get id = some (.obj o) → X'.get id = some (.obj o)) := by
  have hall := A.all
  have hml : (ye6 N).length = N.length := by unfold ye6; simp
  by_cases hN0 : N = []
  · subst hN0
    obtain rfl := hw0 rfl
    refine (ynl 0 X).mono ?_
    rintro _ _ ⟨rfl, rfl⟩
    have : ye6 [] = [] := by simp [ye6]
    rw [this]
    exact ⟨rfl, A, fun id o h => h⟩
  rcases A.sl with ⟨h0, z, rfl⟩ | ⟨k, m, h1, rfl, h2, h3⟩
  · exact absurd (by simpa [sc1] using h0) hN0
  · rw [y93] at h2 h3
    have e1 : (sc1 N).length = N.length := by simp [sc1]
    have e2 : (sc1 N).flatten.length = N.length := by rw [y93]; simp
    rw [e1, e2] at *
    refine (SortS_ok N hN hN0 k m X h2).mono ?_
    rintro _ _ ⟨rfl, rfl⟩
    refine ⟨rfl, ⟨A.ext.upd hlt h1 _, Hp.upd_lt A.lt (A.lt _ _ h2) _, fun e he => ?_, .inr ⟨k, N.length, h1, ?_, ?_, ?_⟩⟩, fun id o h => ?_⟩
    · obtain ⟨x, _, rfl⟩ := List.mem_map.1 he; rfl
    · rw [y93]; simp [sc1, hml]
    · rw [y93]; simp
    · rw [y93]; simp [hml]
    · have : id ≠ k := fun e => by subst e; rw [h2] at h; cases h
      simp [this, h]
theorem chkAll {l : List Su} (h : ycs [] l = none) : ∀ s ∈ l, suE s = 0 := (ybx.1 h).1
end Go.Proofs.YtjajpilacdfnbaaGreatDoor
namespace Go.Proofs.YtjajpilacdfnbaaGreatDoor
open Am C
set_option linter.unusedSimpArgs false
set_option linter.unusedVariables false
def rsV (r : List Sm × Str × Int) : V := .tup [smV r.1, .s r.2.1, .i .i64 r.2.2]
theorem yae {H : Hp} {S : Nat → Prop} {w : V} {L : List Sm} {n : Str} {e : Int} (h : Frz H S w (smV L)) : Frz H S (.tup [w, .s n, .i .i64 e]) (rsV (L, n, e)) :=
  .tup _ _ rfl fun j u v hu hv => by
    match j, hu, hv with
    | 0, hu, hv => simp at hu hv; subst hu; subst hv; exact h
    | 1, hu, hv => simp at hu hv; subst hu; subst hv; exact .refl _
    | 2, hu, hv => simp at hu hv; subst hu; subst hv; exact .refl _
set_option maxHeartbeats 4000000 in
theorem ycj (l : List Su) (hl : l.length ≤ 9223372036854775807) (hs : ∀ s ∈ l, suS s) (H : Hp) : AC Tryz.prog y5u [.fs (l.map y3z)] H (fun v H' => v = rsV (yf1 l) ∧ H' = H) := by
  refine AC.codeP y8.at y8.ok (by simp [rsV]) fun hlt => ?_
  simp only [y8]
  refine AX.sr ?_
  simp [y8.r0]
  refine AX.seq (AX.seq (AX.reg ?_))
  simp [y8.r1]
  refine AX.pcond rfl (fun h8 => ?_) (fun h8 => AX.skip ?_)
  · simp at h8
    refine AX.sr ?_
    simp [y8.r2]
    refine AX.ret ?_
    have : yf1 l = ([], [], 4) := by unfold yf1; rw [if_pos h8]
    simp [this]
    exact ⟨.refl _, yae (.sl0 _)⟩
  simp at h8
  have hrs := ylh (l := l) (by omega)
  simp
  refine AX.seq (AX.seq (AX.reg ?_))
  simp [y8.r3]
  refine AX.pblock (AX.loop (RsI0 l H) l.length ⟨_, _, .refl _ _, 0, by omega, by omega, by simp, .refl _, hlt, rfl⟩ ?_)
  rintro m F X ⟨i, hi, rfl, hbd, hE, hX, rfl⟩
  simp only [y8.l0]
  refine AX.sr ?_
  simp [y8.r4]
  refine AX.seq (AX.pcond rfl (fun hd => AX.skip ?_) (fun hd => AX.exit ?_))
  · simp at hd
    have hg : l[i]? = some l[i] := List.getElem?_eq_getElem hd
    rw [List.drop_eq_getElem_cons hd] at hbd
    have hsu := hs _ (List.getElem_mem hd)
    have htk : (l.take (i + 1)).map Su.name = (l.take i).map Su.name ++ [l[i].name] := by rw [List.take_add_one, hg, List.map_append]; rfl
    generalize l[i] = s at *
    simp only [ycs] at hbd
    simp
    refine AX.seq (AX.pblock (AX.seq (AX.reg ?_)))
    simp [y8.r5, hg, y3z]
    have E1 := hE.trans (y8j hX (.cells [.s [], .sl none 0 0, .sl none 0 0, .sl none 0 0, .sl none 0 0, .sl none 0 0, .sl none 0 0] 7) (.cells [.s s.name, ss s.gives, ss s.wants, ss s.keeps, .fs (s.sys.objs.map y49), .fs (s.sys.fns.map y6i), .fs (s.sys.cons.map y4l)] 7))
    have L1 := lt2 hX (.cells [.s [], .sl none 0 0, .sl none 0 0, .sl none 0 0, .sl none 0 0, .sl none 0 0, .sl none 0 0] 7) (.cells [.s s.name, ss s.gives, ss s.wants, ss s.keeps, .fs (s.sys.objs.map y49), .fs (s.sys.fns.map y6i), .fs (s.sys.cons.map y4l)] 7)
    have G1 : ((X.add (.cells [.s [], .sl none 0 0, .sl none 0 0, .sl none 0 0, .sl none 0 0, .sl none 0 0, .sl none 0 0] 7)).upd X.next (.cells [.s s.name, ss s.gives, ss s.wants, ss s.keeps, .fs (s.sys.objs.map y49), .fs (s.sys.fns.map y6i), .fs (s.sys.cons.map y4l)] 7)).get X.next = some (.cells (y3z s) 7) := by simp [y3z]
    generalize (X.add (.cells [.s [], .sl none 0 0, .sl none 0 0, .sl none 0 0, .sl none 0 0, .sl none 0 0, .sl none 0 0] 7)).upd X.next (.cells [.s s.name, ss s.gives, ss s.wants, ss s.keeps, .fs (s.sys.objs.map y49), .fs (s.sys.fns.map y6i), .fs (s.sys.cons.map y4l)] 7) = Y at *
    generalize X.next = a at *
    have hck := yi5 s hsu Y
    refine AX.sr ?_
    simp [y8.r6, G1, y3z]
    refine AC.fix (by simpa [y3z] using hck) ?_
    simp
    have hcon := conSu_ok (l.take i) y5w [.p (some (a, 0, 7))] (fun t => decide (t.name = s.name)) (by simp; omega) Y fun t _ => rsv1_ok t s a Y G1
    have hany : (l.take i).any (fun t => decide (t.name = s.name)) = decide (s.name ∈ (l.take i).map Su.name) := by
      rw [Bool.eq_iff_iff]; simp only [List.any_eq_true, decide_eq_true_eq, List.mem_map]
    rw [hany, List.map_take] at hcon
    obtain ⟨e, he⟩ : ∃ e : Int, e = (if suE s ≠ 0 then suE s else if s.name ∈ (l.take i).map Su.name then 8 else 0) := ⟨_, rfl⟩
    refine AX.seq (AX.join (F1 := [(0, .fs (l.map y3z)), (6, .p (some (a, 0, 7))), (7, .i .i64 e), (19, .fs (l.map y3z)), (20, .i .i64 l.length), (21, .i .i64 i)]) (H1 := Y) ?_ ?_)
    · by_cases h1 : suE s = 0
      · rw [if_neg (by simpa using h1)] at he
        refine AX.sr ?_
        simp [y8.r7, h1, y3z]
        refine ⟨hi, AC.fix hcon ?_⟩
        by_cases h2 : s.name ∈ (l.take i).map Su.name
        · rw [if_pos h2] at he
          rw [decide_eq_true h2]
          simp
          refine AX.pcond rfl (fun _ => AX.reg ?_) (fun hh => by cases hh)
          simp [y8.r8, he]
        · rw [if_neg h2] at he
          rw [decide_eq_false h2]
          simp
          refine AX.pcond rfl (fun hh => by cases hh) (fun _ => AX.skip ?_)
          simp [he]
      · rw [if_pos h1] at he
        refine AX.sr ?_
        simp [y8.r7, h1, y3z]
        refine AX.pcond rfl (fun hh => by cases hh) (fun _ => AX.skip ?_)
        simp [he]
    refine AX.sr ?_
    simp [y8.r9]
    refine AX.pcond rfl (fun h3 => ?_) (fun h3 => AX.skip ?_)
    · simp at h3
      have hbad : ycs [] l = some (s.name, e) := by
        rw [hbd]
        by_cases h1 : suE s = 0
        · rw [if_neg (fun k => k h1)] at he ⊢
          by_cases h2 : s.name ∈ (l.take i).map Su.name
          · rw [if_pos h2] at he ⊢; rw [he]
          · rw [if_neg h2] at he; exact absurd he h3
        · rw [if_pos h1] at he ⊢; rw [he]
      rw [hbad] at hrs
      refine AX.seq (AX.drw ?_)
      simp [y8.r10, G1, y3z]
      refine AX.ret ?_
      simp [hrs]
      exact ⟨E1, yae (.sl0 _)⟩
    simp at h3
    have hstep : ycs [] l = ycs ((l.take (i + 1)).map Su.name) (l.drop (i + 1)) := by
      rw [hbd, htk]
      by_cases h1 : suE s = 0
      · rw [if_neg (fun k => k h1)] at he ⊢
        by_cases h2 : s.name ∈ (l.take i).map Su.name
        · rw [if_pos h2, h3] at he; cases he
        · rw [if_neg h2]
      · rw [if_pos h1, h3] at he; exact absurd he.symm h1
    simp
    refine AX.reg ?_
    simp [y8.r11, y2o (i := i) (by omega)]
    exact ⟨l.length - (i + 1), by omega, _, _, .refl _ _, i + 1, by omega, rfl, hstep, E1, L1, by simp⟩
  simp at hd
  rw [List.drop_eq_nil_of_le hd] at hbd
  simp only [ycs] at hbd
  rw [hbd] at hrs
  simp only at hrs
  have hok := chkAll hbd
  have hsz : ∀ s ∈ l, s.sys.objs.length ≤ 600 ∧ s.sys.fns.length ≤ 600 := fun s h => by
    have := ydd (yg6 (hok s h)).2.1; exact ⟨this.1, this.2.1⟩
  simp
  refine AX.sr ?_
  simp [y8.r12]
  refine (yl6 l (by omega) hsz X).mono ?_
  rintro v X1 ⟨mid, es, rfl, G⟩
  simp
  have hmid : H.next ≤ mid := Nat.le_trans hE.1 G.hm
  have hZE : H.Ext ((X1.wo fun k => H.next ≤ k ∧ k ≠ mid).upd mid (.obj (.map (esF es (pL 0 l))))) := by
    have hW : H.Ext (X1.wo fun k => H.next ≤ k ∧ k ≠ mid) := ⟨Nat.le_trans hE.1 G.ext.1, fun id blk g => by
      have h1 := hlt _ _ g
      exact Hp.wo_get (G.ext.2 _ _ (hE.2 _ _ g)) fun h => by omega⟩
    exact hW.upd hlt hmid _
  have hZL : ∀ id blk, ((X1.wo fun k => H.next ≤ k ∧ k ≠ mid).upd mid (.obj (.map (esF es (pL 0 l))))).get id = some blk → id < ((X1.wo fun k => H.next ≤ k ∧ k ≠ mid).upd mid (.obj (.map (esF es (pL 0 l))))).next :=
    Hp.upd_lt (Hp.wo_lt G.lt _) (G.lt _ _ G.map) _
  have hZM : ((X1.wo fun k => H.next ≤ k ∧ k ≠ mid).upd mid (.obj (.map (esF es (pL 0 l))))).get mid = some (.obj (.map (esF es (pL 0 l)))) := by simp
  have hwk : Wk [(0, .fs (l.map y3z)), (8, .mp (some mid))] X1 [(0, .fs (l.map y3z)), (8, .mp (some mid))] ((X1.wo fun k => H.next ≤ k ∧ k ≠ mid).upd mid (.obj (.map (esF es (pL 0 l))))) :=
    Wk.frzMap (fun k => H.next ≤ k ∧ k ≠ mid) (fun t => .refl _) (t0 := 8) G.map rfl (fun h => h.2 rfl) (by simp [esF]) fun j k' v' hj => by
      unfold esF at hj
      rw [List.getElem?_map, Option.map_eq_some_iff] at hj
      obtain ⟨⟨k, v⟩, hkv, e⟩ := hj
      injection e with e1 e2
      subst e1; subst e2
      refine ⟨v, hkv, ?_⟩
      obtain ⟨id, m, rfl, q1, q2, q3⟩ := G.row k v (List.mem_of_getElem? hkv)
      have hall : ∀ e ∈ (ofN k (pL 0 l)).map thV, e.length = 4 := fun e he => by obtain ⟨p, _, rfl⟩ := List.mem_map.1 he; exact ya6 p
      refine .sl id 0 _ _ 4 m _ _ ⟨Nat.le_trans hE.1 q3, fun e => by subst e; rw [G.map] at q1; cases q1⟩ q1 q2 (Nat.le_refl _) (by simp) hall (fun i j e v hi hj => ?_) (fun i j e v u hi hj hu => ?_)
      · have := y8f hall hi hj
        have := (List.getElem?_eq_some_iff.1 this).1
        simpa using this
      · have := y8f hall hi hj
        rw [Nat.zero_add, this] at hu; injection hu with hu; subst hu; exact .refl _
  refine AX.wk hwk ?_
  clear hwk
  have hkeys : ∀ k, k ∈ (esF es (pL 0 l)).map Prod.fst ↔ k ∈ yb3 l := fun k => by
    have : (esF es (pL 0 l)).map Prod.fst = es.map Prod.fst := by unfold esF; rw [List.map_map]; rfl
    rw [this, G.keys, ylu]
  have hndk : ((esF es (pL 0 l)).map Prod.fst).Nodup := by
    have : (esF es (pL 0 l)).map Prod.fst = es.map Prod.fst := by unfold esF; rw [List.map_map]; rfl
    rw [this]; exact G.nd
  have hget : ∀ k ∈ yb3 l, yg0 (esF es (pL 0 l)) k = some (.fs ((ofN k (pL 0 l)).map thV)) := fun k hk => mget_esF ((G.keys k).2 (ylu.2 hk))
  have hel : (esF es (pL 0 l)).length ≤ 120000 := by
    have h1 := ygj (m := (pL 0 l).map fun p => thN p.2) hndk fun k hk => by
      obtain ⟨p, hp, e⟩ := ylu.2 ((hkeys k).1 hk)
      exact List.mem_map.2 ⟨p, hp, e⟩
    have h2 := ylt 0 l hsz
    simp only [List.length_map] at h1
    omega
  clear G
  generalize (X1.wo fun k => H.next ≤ k ∧ k ≠ mid).upd mid (.obj (.map (esF es (pL 0 l)))) = Z at *
  generalize esF es (pL 0 l) = es' at *
  refine AX.sr ?_
  simp [y8.r13]
  refine AX.seq (AX.seq (AX.reg ?_))
  simp [y8.r14, hZM]
  have A0 : Acc H 1 (.sl none 0 0) (Z.add (.obj (.iter mid es'.length []))) [] := .nil 1 0 (hZE.trans (Hp.Ext.add hZL _)) (Hp.add_lt hZL _)
  have hM1 : (Z.add (.obj (.iter mid es'.length []))).get mid = some (.obj (.map es')) := (Hp.Ext.add hZL _).2 _ _ hZM
  have hI1 : (Z.add (.obj (.iter mid es'.length []))).get Z.next = some (.obj (.iter mid es'.length [])) := by simp
  have hii : H.next ≤ Z.next := hZE.1
  have hmi : mid ≠ Z.next := by have := hZL _ _ hZM; omega
  generalize Z.add (.obj (.iter mid es'.length [])) = W at *
  generalize Z.next = iid at *
  clear hZE hZL hZM
  refine AX.pblock (AX.loop (RsI1 l H mid iid es') es'.length ⟨_, _, .refl _ _, [], _, List.nodup_nil, by simp, by simp, fun _ => rfl, A0, hM1, hI1, rfl⟩ ?_)
  rintro m F Y ⟨seen, w, hnd, hlt2, rfl, hw0, A, hM, hI, rfl⟩
  have hsl := yf7 es'.length seen hnd hlt2
  simp only [y8.l1]
  refine AX.sr ?_
  simp [y8.r15, hI, hM]
  refine ⟨fun hall => ?_, fun j key x hj hx => ?_⟩
  rotate_left
  · have hjl := (List.getElem?_eq_some_iff.1 hx).1
    refine AX.seq (AX.pcond rfl (fun _ => AX.skip ?_) (fun hh => by cases hh))
    simp
    have A1 : Acc H 1 w (Y.upd iid (.obj (.iter mid es'.length (seen ++ [j])))) (sc1 (seen.map (ymb es'))) := Acc.updOut A hlt hI (Acc.sepObj A hI) hii _
    have hM2 : (Y.upd iid (.obj (.iter mid es'.length (seen ++ [j])))).get mid = some (.obj (.map es')) := by simp [hmi, hM]
    have hI2 : (Y.upd iid (.obj (.iter mid es'.length (seen ++ [j])))).get iid = some (.obj (.iter mid es'.length (seen ++ [j]))) := by simp
    generalize Y.upd iid (.obj (.iter mid es'.length (seen ++ [j]))) = Y2 at *
    have hky : ymb es' j = key := by unfold ymb; rw [hx]; rfl
    obtain ⟨w2, Y3, hA, A2, keep⟩ := A1.appK (bytes := 16) hlt [.s key] rfl (by decide) rfl (by simp [sc1, y86]; omega)
    have k1 := (keep _ _ hM2 (Acc.sepObj A1 hM2)).1
    have k2 := (keep _ _ hI2 (Acc.sepObj A1 hI2)).1
    have hn2 : (seen ++ [j]).Nodup := List.nodup_append.2 ⟨hnd, by simp, fun a ha b hb e => by simp at hb; subst hb; subst e; exact hj ha⟩
    have hl2 : ∀ k ∈ seen ++ [j], k < es'.length := fun k hk => by
      rcases List.mem_append.1 hk with hk | hk
      · exact hlt2 k hk
      · simp at hk; omega
    have hln := yf7 es'.length _ hn2 hl2
    simp at hln
    refine AX.pblock (AX.seq (AX.reg ?_))
    simp [y8.r16, hI2, hM2, hx]
    refine AX.reg ?_
    simp [y8.r17, y8y, hA, -y3m]
    exact ⟨es'.length - (seen ++ [j]).length, by simp; omega, _, _, .refl _ _, seen ++ [j], w2, hn2, hl2, rfl, by simp, by simpa [sc1, hky] using A2, k1, k2, rfl⟩
  refine AX.seq (AX.pcond rfl (fun hh => by cases hh) (fun _ => AX.exit ?_))
  simp
  have hNn : (seen.map (ymb es')).Nodup := by
    refine List.Pairwise.map _ (fun a b h => ?_) (List.Pairwise.and_mem.1 hnd)
    obtain ⟨ha, hb, hab⟩ := h
    intro e
    have h1 := hlt2 a ha
    have h2 := hlt2 b hb
    unfold ymb at e
    rw [List.getElem?_eq_getElem h1, List.getElem?_eq_getElem h2] at e
    simp at e
    have := (List.getElem_inj (i := a) (j := b) (h₀ := by simpa using h1) (h₁ := by simpa using h2) hndk).1 (by simpa using e)
    exact hab this
  have hNm : ∀ k, k ∈ seen.map (ymb es') ↔ k ∈ yb3 l := fun k => by
    rw [← hkeys]
    constructor
    · intro h
      obtain ⟨j, hj, rfl⟩ := List.mem_map.1 h
      have h1 := hlt2 j hj
      unfold ymb
      rw [List.getElem?_eq_getElem h1]
      exact List.mem_map.2 ⟨_, List.getElem_mem h1, rfl⟩
    · intro h
      obtain ⟨p, hp, rfl⟩ := List.mem_map.1 h
      obtain ⟨j, hj, e⟩ := List.mem_iff_getElem.1 hp
      refine List.mem_map.2 ⟨j, hall j hj, ?_⟩
      unfold ymb
      rw [List.getElem?_eq_getElem hj, e]; rfl
  have hsrt : ye6 (seen.map (ymb es')) = y3y (yb3 l) := (yjq hNn).trans (yji hNm)
  have hNl : (seen.map (ymb es')).length ≤ 120000 := by simp; omega
  refine AX.sr ?_
  simp [y8.r18]
  refine (SortAcc A (by omega) (fun h => hw0 (by simpa using h)) hlt).mono ?_
  rintro _ Y2 ⟨rfl, A2, kp⟩
  have hM2 := kp _ _ hM
  rw [hsrt] at A2
  have hnsm : ∀ k ∈ y3y (yb3 l), k ∈ yb3 l := fun k hk => y7y.1 hk
  have hns : (y3y (yb3 l)).length ≤ 120000 := by rw [← hsrt]; unfold ye6; simpa using hNl
  generalize y3y (yb3 l) = ns at *
  clear kp hsrt hNn hNm hall hI A
  simp
  refine AX.wk (Wk.freeze (F' := [(0, .fs (l.map y3z)), (8, .mp (some mid)), (9, ss ns)]) (fun k => ¬ yd7 w k) fun t => ?_) ?_
  · match t with
    | 9 => exact A2.frzS
    | 0 | 1 | 2 | 3 | 4 | 5 | 6 | 7 | 8 => exact .refl _
    | t + 10 => exact .refl _
  have hM3 : (Y2.wo fun k => ¬ yd7 w k).get mid = some (.obj (.map es')) := Hp.wo_get hM2 (fun h => h (Acc.sepObj A2 hM2))
  have hE3 : H.Ext (Y2.wo fun k => ¬ yd7 w k) := ⟨A2.ext.1, fun id blk g => Hp.wo_get (A2.ext.2 _ _ g) fun h => h (A2.sepOld (hlt _ _ g))⟩
  have hL3 := Hp.wo_lt A2.lt (fun k => ¬ yd7 w k)
  clear A2 hM2 hw0
  generalize Y2.wo (fun k => ¬ yd7 w k) = Y3 at *
  clear Y2
  refine AX.sr ?_
  simp [y8.r19]
  refine AX.seq (AX.seq (AX.reg ?_))
  simp [y8.r20, ss]
  refine AX.pblock (AX.loop (RsI2 l H mid es' ns) ns.length ⟨_, _, .refl _ _, 0, .sl none 0 0, [], by omega, by omega, rfl, by simp, .nil 3 0 hE3 hL3, hM3, rfl⟩ ?_)
  rintro m F X ⟨k, w, L, hk, rfl, hrn, hLk, AL, hMX, rfl⟩
  simp only [y8.l2]
  refine AX.sr ?_
  simp [y8.r21]
  refine AX.seq (AX.pcond rfl (fun hd => AX.skip ?_) (fun hd => AX.exit ?_))
  · simp at hd
    have hg : ns[k]? = some ns[k] := List.getElem?_eq_getElem hd
    rw [List.drop_eq_getElem_cons hd, yil] at hrn
    have hmem : ns[k] ∈ yb3 l := hnsm _ (List.getElem_mem hd)
    generalize ns[k] = n at *
    have hgt := hget n hmem
    obtain ⟨hpe, hxe⟩ := symP_eq (l := l) (fun s h => (yg6 (hok s h)).2.1) n
    have hTl : (ofN n (pL 0 l)).length ≤ 1000 := by
      have : (tX l (ofN n (pL 0 l))).length = (y63 l n).length := by rw [hxe]
      have h2 := yd0 l n
      simp [tX] at this
      omega
    simp
    refine AX.seq (AX.pblock (AX.seq (AX.reg ?_)))
    simp [y8.r22, hg, ss]
    have hsy := yl9 l n (ofN n (pL 0 l)) (by omega) hTl (fun q hq => ?_) (fun s h => ?_) (fun q hq => ?_) X
    rotate_left
    · have := (pL_mem (List.mem_filter.1 hq).1).2.1; omega
    · have := (hs s h).2; exact ⟨by omega, by omega⟩
    · obtain ⟨s, hsl, hq2⟩ := (pL_mem (List.mem_filter.1 hq).1).2.2
      rcases List.mem_append.1 hq2 with h | h
      · obtain ⟨o, ho, e⟩ := List.mem_map.1 h
        rw [← e]
        have := (hs s hsl).2.2.2.2.2.2.2.2.1 o ho
        show o.marks.length ≤ _
        have := this.2.2.1
        omega
      · obtain ⟨o, ho, e⟩ := List.mem_map.1 h
        rw [← e]; trivial
    rw [hpe, hxe] at hsy
    refine AX.sr ?_
    simp [y8.r23, hMX, hgt]
    refine AC.fix hsy ?_
    simp [ycn]
    have hEY : X.Ext ((X.add (.cells [.s [], .s [], .sl none 0 0] 3)).upd X.next (.cells [.s n, .s (y9j n (y63 l n)), ss (y9n n (y63 l n))] 3)) := y8j AL.lt _ _
    have hLY := lt2 AL.lt (.cells [.s [], .s [], .sl none 0 0] 3) (.cells [.s n, .s (y9j n (y63 l n)), ss (y9n n (y63 l n))] 3)
    have hG : ((X.add (.cells [.s [], .s [], .sl none 0 0] 3)).upd X.next (.cells [.s n, .s (y9j n (y63 l n)), ss (y9n n (y63 l n))] 3)).get X.next = some (.cells [.s n, .s (y9j n (y63 l n)), ss (y9n n (y63 l n))] 3) := by simp
    have AY := Acc.more AL hEY hLY
    have hMY := hEY.2 _ _ hMX
    generalize (X.add (.cells [.s [], .s [], .sl none 0 0] 3)).upd X.next (.cells [.s n, .s (y9j n (y63 l n)), ss (y9n n (y63 l n))] 3) = Y at *
    generalize X.next = a at *
    clear AL hMX hsy hEY hLY
    refine AX.seq (AX.seq (AX.reg ?_))
    simp [y8.r24]
    refine AX.pcond rfl (fun h3 => ?_) (fun h3 => AX.skip ?_)
    · simp at h3
      rw [if_pos h3] at hrn
      refine AX.sr ?_
      simp [y8.r25]
      refine AX.ret ?_
      rw [hrs, hrn]
      simp
      exact ⟨AY.ext, yae (.sl0 _)⟩
    simp at h3
    rw [if_neg (by simpa using h3)] at hrn
    simp
    refine AX.sr ?_
    simp [y8.r26, hG]
    refine AX.pcond rfl (fun h4 => ?_) (fun h4 => AX.skip ?_)
    · simp at h4
      rw [if_pos h4] at hrn
      obtain ⟨w2, Y5, hA, A5, keep⟩ := AY.appK (bytes := 56) hlt (ycn (yao l n)) rfl (by decide) (by simp [ycn, yao]) (by simp [y86]; omega)
      have k1 := (keep _ _ hMY (Acc.sepObj AY hMY)).1
      have hA' : y3m Y 3 56 w (.fs [[.s n, .s (y9j n (y63 l n)), ss (y9n n (y63 l n))]]) = some (w2, Y5) := hA
      refine AX.reg ?_
      simp [y8.r27, y8y, hG, hA', -y3m]
      refine AX.reg ?_
      simp [y8.r28, y2o (i := k) (by omega)]
      refine ⟨ns.length - (k + 1), by omega, _, _, .refl _ _, k + 1, w2, L ++ [yao l n], by omega, rfl, hrn, by simp; omega, by simpa using A5, k1, ?_⟩
      simp [ss]
    · simp at h4
      rw [if_neg (by simpa using h4)] at hrn
      simp
      refine AX.reg ?_
      simp [y8.r28, y2o (i := k) (by omega)]
      refine ⟨ns.length - (k + 1), by omega, _, _, .refl _ _, k + 1, w, L, by omega, rfl, hrn, by omega, AY, hMY, ?_⟩
      simp [ss]
  simp at hd
  rw [List.drop_eq_nil_of_le hd] at hrn
  simp only [yf0] at hrn
  simp
  refine AX.sr ?_
  simp [y8.r29]
  refine AX.ret ?_
  rw [hrs, hrn]
  simp
  exact ⟨AL.ext, yae AL.frz⟩
end Go.Proofs.YtjajpilacdfnbaaGreatDoor
