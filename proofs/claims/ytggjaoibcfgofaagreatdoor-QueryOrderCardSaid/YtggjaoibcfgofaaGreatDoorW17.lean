/- Part 17 of the proof of the laws of the queries: Q14c, Q14d, QLib, QLib2, QSl, QIns. -/
import Derived.Shelf.Strings.SlTrimAscii
import Derived.Shelf.Strings.Search1
import Derived.Shelf.Strings.Builder1
import Derived.Shelf.Strconv.Atoi
import Derived.Shelf.Strconv.Itoa3
import Derived.Shelf.Small.Strs
import Derived.Shelf.LaysM
import Derived.Lib.LaidTab
import Derived.Lib.AtoiErrMem
import Derived.Lib.AppendIntMem
import Derived.Shelf.Slices.Clone
import Derived.Shelf.Spec.SlicesInsert
import Derived.Shelf.Spec.SlicesInsertGrow
import Derived.Test.YtggjaoibcfgofaaGreatDoorW16
namespace Go.Proofs.YtggjaoibcfgofaaGreatDoor
open Am C
set_option linter.unusedSimpArgs false
set_option linter.unusedVariables false
def copyS (c : Int) : Str := if 0 < c then 126 :: decS c.toNat else []
def bodyS (d : Nd) : Str :=
  if d.kind = 1 then d.fn ++ (copyS d.copy ++ 46 :: d.name)
  else if d.kind = 2 then d.fn ++ (copyS d.copy ++ 36 :: decS d.n.toNat)
  else if d.kind = 3 then d.fn ++ (copyS d.copy ++ 64 :: decS d.n.toNat)
  else if d.kind = 4 then d.fn ++ (copyS d.copy ++ [40, 41])
  else if d.kind = 5 then d.name
  else if d.kind = 6 then d.fn ++ (copyS d.copy ++ 37 :: d.name)
  else d.fn ++ (copyS d.copy ++ 35 :: decS d.n.toNat)
def cellS (c : Int) : Str := if 0 ≤ c then 43 :: decS c.toNat else []
def writeN (d : Nd) : Str := bodyS d ++ cellS d.cell
theorem nameB_len {s : Str} (h : nameB s = true) : s.length ≤ 16 := by
  unfold nameB at h; simp only [Bool.and_eq_true, decide_eq_true_eq] at h; exact h.1.1
structure RightN (d : Nd) : Prop where
  k1 : 1 ≤ d.kind
  k7 : d.kind ≤ 7
  cp : countB d.copy = true
  n : countB d.n = true
  cell : d.cell = -1 ∨ (5 ≤ d.kind ∧ countB d.cell = true)
  fn : (d.kind = 5 ∧ d.fn = [] ∧ d.copy = 0) ∨ (d.kind ≠ 5 ∧ nameB d.fn = true)
  nm : (namedB d.kind = true ∧ nameB d.name = true) ∨ (namedB d.kind = false ∧ d.name = [])
  nn : (numB d.kind = true ∧ (d.kind = 2 ∨ d.n ≠ 0)) ∨ (numB d.kind = false ∧ d.n = 0)
theorem rightN_iff (d : Nd) : rightN d = true ↔ RightN d := by
  unfold rightN bad1 bad2 bad3 bad4
  constructor
  · intro h
    simp only [Bool.and_eq_true, Bool.not_eq_true', Bool.or_eq_false_iff, Bool.and_eq_false_iff, decide_eq_true_eq, decide_eq_false_iff_not, Bool.not_eq_false', bne_eq_false_iff_eq] at h
    obtain ⟨⟨⟨⟨⟨⟨⟨a1, a2⟩, a3⟩, a4⟩, ⟨⟨b1, b2⟩, b3⟩⟩, ⟨c1, c2⟩⟩, ⟨d1, d2⟩⟩, e⟩ := h
    refine ⟨by omega, by omega, a2, a3, ?_, ?_, ?_, ?_⟩
    · rcases a4 with a4 | a4
      · exact .inl (by simpa using a4)
      · rcases e with e | e
        · exact .inr ⟨e, a4⟩
        · exact .inl e
    · by_cases hk : d.kind = 5
      · simp [hk] at b1 b3
        exact .inl ⟨hk, b1, b3⟩
      · simp [hk] at b1
        simp [b1] at b2
        exact .inr ⟨hk, b2⟩
    · cases hn : namedB d.kind with
      | true => rw [hn] at c2; simp at c2; exact .inl ⟨rfl, c2⟩
      | false => rw [hn] at c1; simp at c1; exact .inr ⟨rfl, c1⟩
    · cases hn : numB d.kind with
      | true =>
        refine .inl ⟨rfl, ?_⟩
        simp [numB] at hn
        by_cases h0 : d.n = 0
        · simp [h0] at d2; omega
        · exact .inr h0
      | false => rw [hn] at d1; simp at d1; exact .inr ⟨rfl, d1⟩
  · intro ⟨k1, k7, cp, n, cell, fn, nm, nn⟩
    simp only [Bool.and_eq_true, Bool.not_eq_true', Bool.or_eq_false_iff, Bool.and_eq_false_iff, decide_eq_true_eq, decide_eq_false_iff_not, Bool.not_eq_false', bne_eq_false_iff_eq]
    refine ⟨⟨⟨⟨⟨⟨⟨by omega, cp⟩, n⟩, ?_⟩, ⟨⟨?_, ?_⟩, ?_⟩⟩, ⟨?_, ?_⟩⟩, ⟨?_, ?_⟩⟩, ?_⟩
    · rcases cell with c | c
      · exact .inl (by simpa using c)
      · exact .inr c.2
    · rcases fn with ⟨a, b, c⟩ | ⟨a, b⟩
      · simp [a, b]
      · have : d.fn ≠ [] := fun h => by rw [h] at b; exact absurd b (by decide)
        simp [a, this]
    · rcases fn with ⟨a, b, c⟩ | ⟨a, b⟩
      · exact .inl (by simpa using b)
      · exact .inr b
    · rcases fn with ⟨a, b, c⟩ | ⟨a, b⟩
      · exact .inr (by simpa using c)
      · exact .inl a
    · rcases nm with ⟨a, b⟩ | ⟨a, b⟩
      · have : d.name ≠ [] := fun h => by rw [h] at b; exact absurd b (by decide)
        simp [a, this]
      · simp [a, b]
    · rcases nm with ⟨a, b⟩ | ⟨a, b⟩
      · exact .inr b
      · exact .inl a
    · rcases nn with ⟨a, b⟩ | ⟨a, b⟩
      · exact .inl a
      · exact .inr (by simpa using b)
    · rcases nn with ⟨a, b⟩ | ⟨a, b⟩
      · by_cases h0 : d.n = 0
        · right; rcases b with b | b
          · omega
          · exact absurd h0 b
        · exact .inl h0
      · right; simp [numB] at a; omega
    · rcases cell with c | c
      · exact .inr c
      · exact .inl c.1
end Go.Proofs.YtggjaoibcfgofaaGreatDoor
namespace Go.Proofs.YtggjaoibcfgofaaGreatDoor
open Am C
set_option linter.unusedSimpArgs false
set_option linter.unusedVariables false
def rdV (r : Option Nd) : V := match r with
  | some d => .tup [nv d, .i .i64 0]
  | none => .tup [nv Nd.zero, .i .i64 11]
@[simp] theorem Nd.cs_len (d : Nd) : d.cs.length = 6 := rfl
@[simp] theorem Nd.cs_take (d : Nd) : d.cs.take 6 = d.cs := rfl
@[simp] theorem Nd.cs_take1 (d : Nd) : d.cs.take 1 = [.i .i64 d.kind] := rfl
end Go.Proofs.YtggjaoibcfgofaaGreatDoor
namespace Go.Proofs
open Go.Shelf Go.RowKit Go.Sort Go.Lib
def Tryz.lays169_ren : Go.Shelf.Ren := ⟨fun | 169 => 69 | n => n, fun | 70 => 113 | 9 => 9 | 0 => 0 | 72 => 116 | 37 => 114 | 127 => 137 | 3 => 3 | 5 => 5 | n => n, fun | n => n⟩
theorem Tryz.lays169 : Go.Proofs.Lays.n169 Tryz.prog Tryz.lays169_ren := {
  mixed := by kernel_rfl
  f169 := Tryz.func69.trans (congrArg some (by kernel_rfl))
  t0 := Tryz.underlying0
  a0 := Tryz.isAgg0
  z0 := Tryz.sizeOf0
  v0 := Tryz.zeroValue0
  t3 := Tryz.underlying3
  a3 := Tryz.isAgg3
  z3 := Tryz.sizeOf3
  v3 := Tryz.zeroValue3
  t9 := Tryz.underlying9
  a9 := Tryz.isAgg9
  z9 := Tryz.sizeOf9
  v9 := Tryz.zeroValue9
  t37 := Tryz.underlying114
  a37 := Tryz.isAgg114
  z37 := Tryz.sizeOf114
  v37 := Tryz.zeroValue114
  t70 := Tryz.underlying113
  a70 := Tryz.isAgg113
  z70 := Tryz.sizeOf113
  v70 := Tryz.zeroValue113
  t72 := Tryz.underlying116
  a72 := Tryz.isAgg116
  z72 := Tryz.sizeOf116
  v72 := Tryz.zeroValue116
  t127 := Tryz.underlying137
  a127 := Tryz.isAgg137
  z127 := Tryz.sizeOf137
  v127 := Tryz.zeroValue137 }
theorem Tryz.Builder_Extra_169 : Builder.Extra Tryz.prog Tryz.lays169_ren := {
  sizeBuilder := by kernel_rfl
  liesBuilder := by kernel_rfl
  t5 := Tryz.underlying5
  a5 := Tryz.isAgg5
  z5 := Tryz.sizeOf5
  v5 := Tryz.zeroValue5
  infoByte := by kernel_rfl
  cellsByte := by kernel_rfl
  sizeByte := by kernel_rfl
  neB5 := by decide }
theorem Tryz.Builder_String_any (B b : Nat) (l : List UInt8) (w : World) (h : Lib.IsBuilder 116 5 B b (Lib.byteCells l) w) (hBw : B ≤ w.heap.size) :
    Calls Tryz.prog 69 #[.pointer (some ⟨b, 0, none⟩)] w fun e w' => e = .returned (.string ⟨l.toArray⟩) ∧ Below B w w' := Any.Builder_String_any Tryz.lays169 Tryz.Builder_Extra_169 B b l w h hBw
def Tryz.lays161_ren : Go.Shelf.Ren := ⟨fun | 161 => 86 | 231 => 100 | 227 => 101 | 233 => 102 | 235 => 103 | 228 => 109 | 197 => 110 | 151 => 111 | 260 => 119 | 152 => 120 | 137 => 61 | 119 => 128 | 224 => 129 | 225 => 130 | 217 => 83 | 266 => 98 | n => n, fun | 9 => 9 | 4 => 4 | 3 => 3 | 5 => 5 | 117 => 149 | 116 => 148 | 0 => 0 | 124 => 152 | 105 => 156 | 21 => 21 | 119 => 179 | 46 => 106 | 139 => 182 | 138 => 181 | n => n, fun | 3 => 3 | 4 => 4 | n => n⟩
theorem Tryz.lays161 : Go.Proofs.Lays.n161 Tryz.prog Tryz.lays161_ren := {
  mixed := by kernel_rfl
  f119 := Tryz.func128.trans (congrArg some (by kernel_rfl))
  f137 := Tryz.func61.trans (congrArg some (by kernel_rfl))
  f151 := Tryz.func111.trans (congrArg some (by kernel_rfl))
  f152 := Tryz.func120.trans (congrArg some (by kernel_rfl))
  f161 := Tryz.func86.trans (congrArg some (by kernel_rfl))
  f197 := Tryz.func110.trans (congrArg some (by kernel_rfl))
  f217 := Tryz.func83.trans (congrArg some (by kernel_rfl))
  f224 := Tryz.func129.trans (congrArg some (by kernel_rfl))
  f225 := Tryz.func130.trans (congrArg some (by kernel_rfl))
  f227 := Tryz.func101.trans (congrArg some (by kernel_rfl))
  f228 := Tryz.func109.trans (congrArg some (by kernel_rfl))
  f231 := Tryz.func100.trans (congrArg some (by kernel_rfl))
  f233 := Tryz.func102.trans (congrArg some (by kernel_rfl))
  f235 := Tryz.func103.trans (congrArg some (by kernel_rfl))
  f260 := Tryz.func119.trans (congrArg some (by kernel_rfl))
  f266 := Tryz.func98.trans (congrArg some (by kernel_rfl))
  t0 := Tryz.underlying0
  a0 := Tryz.isAgg0
  z0 := Tryz.sizeOf0
  v0 := Tryz.zeroValue0
  t3 := Tryz.underlying3
  a3 := Tryz.isAgg3
  z3 := Tryz.sizeOf3
  v3 := Tryz.zeroValue3
  t4 := Tryz.underlying4
  a4 := Tryz.isAgg4
  z4 := Tryz.sizeOf4
  v4 := Tryz.zeroValue4
  t5 := Tryz.underlying5
  a5 := Tryz.isAgg5
  z5 := Tryz.sizeOf5
  v5 := Tryz.zeroValue5
  t9 := Tryz.underlying9
  a9 := Tryz.isAgg9
  z9 := Tryz.sizeOf9
  v9 := Tryz.zeroValue9
  t21 := Tryz.underlying21
  a21 := Tryz.isAgg21
  z21 := Tryz.sizeOf21
  v21 := Tryz.zeroValue21
  t46 := Tryz.underlying106
  a46 := Tryz.isAgg106
  z46 := Tryz.sizeOf106
  v46 := Tryz.zeroValue106
  t105 := Tryz.underlying156
  a105 := Tryz.isAgg156
  z105 := Tryz.sizeOf156
  v105 := Tryz.zeroValue156
  t116 := Tryz.underlying148
  a116 := Tryz.isAgg148
  z116 := Tryz.sizeOf148
  t117 := Tryz.underlying149
  a117 := Tryz.isAgg149
  z117 := Tryz.sizeOf149
  v117 := Tryz.zeroValue149
  t119 := Tryz.underlying179
  a119 := Tryz.isAgg179
  z119 := Tryz.sizeOf179
  t124 := Tryz.underlying152
  a124 := Tryz.isAgg152
  z124 := Tryz.sizeOf152
  v124 := Tryz.zeroValue152
  t138 := Tryz.underlying181
  a138 := Tryz.isAgg181
  z138 := Tryz.sizeOf181
  v138 := Tryz.zeroValue181
  t139 := Tryz.underlying182
  a139 := Tryz.isAgg182
  z139 := Tryz.sizeOf182
  v139 := Tryz.zeroValue182
  g3 := by kernel_rfl
  g4 := by kernel_rfl }
def Tryz.lays137_ren : Go.Shelf.Ren := ⟨fun | 137 => 61 | 217 => 83 | 266 => 98 | n => n, fun | 9 => 9 | 5 => 5 | 3 => 3 | n => n, fun | n => n⟩
theorem Tryz.lays137 : Go.Proofs.Lays.n137 Tryz.prog Tryz.lays137_ren := {
  mixed := by kernel_rfl
  f137 := Tryz.func61.trans (congrArg some (by kernel_rfl))
  f217 := Tryz.func83.trans (congrArg some (by kernel_rfl))
  f266 := Tryz.func98.trans (congrArg some (by kernel_rfl))
  t3 := Tryz.underlying3
  a3 := Tryz.isAgg3
  z3 := Tryz.sizeOf3
  v3 := Tryz.zeroValue3
  t5 := Tryz.underlying5
  a5 := Tryz.isAgg5
  z5 := Tryz.sizeOf5
  v5 := Tryz.zeroValue5
  t9 := Tryz.underlying9
  a9 := Tryz.isAgg9
  z9 := Tryz.sizeOf9
  v9 := Tryz.zeroValue9 }
theorem Tryz.strings_IndexByte (s : ByteArray) (c : Int) (w : World) :
    Calls Tryz.prog 61 #[.string s, .int .u8 c] w fun e w' => e = .returned (.int .i64 (Lib.indexByte s.data.toList c.toNat.toUInt8)) ∧ w' = w := Any.strings_IndexByte Tryz.lays137 s c w
def Tryz.lays172_ren : Go.Shelf.Ren := ⟨fun | 172 => 99 | 244 => 107 | 245 => 108 | 247 => 114 | 279 => 115 | 280 => 116 | 281 => 117 | 282 => 118 | 287 => 125 | 316 => 126 | 171 => 88 | 205 => 127 | 321 => 136 | 322 => 137 | 243 => 105 | 246 => 112 | 283 => 121 | 284 => 122 | 285 => 123 | 286 => 124 | 129 => 132 | 317 => 131 | 318 => 133 | 319 => 134 | 320 => 135 | 337 => 138 | 338 => 139 | n => n, fun | 9 => 9 | 3 => 3 | 75 => 118 | 76 => 119 | 4 => 4 | 5 => 5 | 167 => 161 | 37 => 114 | 0 => 0 | 85 => 162 | 2 => 2 | 168 => 164 | 53 => 145 | 175 => 173 | 46 => 106 | 210 => 177 | 127 => 137 | 145 => 193 | 143 => 191 | 21 => 21 | 171 => 168 | 173 => 171 | 212 => 186 | 51 => 187 | 20 => 20 | 213 => 188 | 232 => 195 | 233 => 196 | 80 => 79 | n => n, fun | 15 => 1 | 16 => 2 | 17 => 5 | 18 => 6 | 19 => 7 | n => n⟩
theorem Tryz.lays172 : Go.Proofs.Lays.n172 Tryz.prog Tryz.lays172_ren := {
  mixed := by kernel_rfl
  f129 := Tryz.func132.trans (congrArg some (by kernel_rfl))
  f171 := Tryz.func88.trans (congrArg some (by kernel_rfl))
  f172 := Tryz.func99.trans (congrArg some (by kernel_rfl))
  f205 := Tryz.func127.trans (congrArg some (by kernel_rfl))
  f243 := Tryz.func105.trans (congrArg some (by kernel_rfl))
  f244 := Tryz.func107.trans (congrArg some (by kernel_rfl))
  f245 := Tryz.func108.trans (congrArg some (by kernel_rfl))
  f246 := Tryz.func112.trans (congrArg some (by kernel_rfl))
  f247 := Tryz.func114.trans (congrArg some (by kernel_rfl))
  f279 := Tryz.func115.trans (congrArg some (by kernel_rfl))
  f280 := Tryz.func116.trans (congrArg some (by kernel_rfl))
  f281 := Tryz.func117.trans (congrArg some (by kernel_rfl))
  f282 := Tryz.func118.trans (congrArg some (by kernel_rfl))
  f283 := Tryz.func121.trans (congrArg some (by kernel_rfl))
  f284 := Tryz.func122.trans (congrArg some (by kernel_rfl))
  f285 := Tryz.func123.trans (congrArg some (by kernel_rfl))
  f286 := Tryz.func124.trans (congrArg some (by kernel_rfl))
  f287 := Tryz.func125.trans (congrArg some (by kernel_rfl))
  f316 := Tryz.func126.trans (congrArg some (by kernel_rfl))
  f317 := Tryz.func131.trans (congrArg some (by kernel_rfl))
  f318 := Tryz.func133.trans (congrArg some (by kernel_rfl))
  f319 := Tryz.func134.trans (congrArg some (by kernel_rfl))
  f320 := Tryz.func135.trans (congrArg some (by kernel_rfl))
  f321 := Tryz.func136.trans (congrArg some (by kernel_rfl))
  f322 := Tryz.func137.trans (congrArg some (by kernel_rfl))
  f337 := Tryz.func138.trans (congrArg some (by kernel_rfl))
  f338 := Tryz.func139.trans (congrArg some (by kernel_rfl))
  t0 := Tryz.underlying0
  a0 := Tryz.isAgg0
  z0 := Tryz.sizeOf0
  v0 := Tryz.zeroValue0
  t2 := Tryz.underlying2
  a2 := Tryz.isAgg2
  z2 := Tryz.sizeOf2
  v2 := Tryz.zeroValue2
  t3 := Tryz.underlying3
  a3 := Tryz.isAgg3
  z3 := Tryz.sizeOf3
  v3 := Tryz.zeroValue3
  t4 := Tryz.underlying4
  a4 := Tryz.isAgg4
  z4 := Tryz.sizeOf4
  v4 := Tryz.zeroValue4
  t5 := Tryz.underlying5
  a5 := Tryz.isAgg5
  z5 := Tryz.sizeOf5
  v5 := Tryz.zeroValue5
  t9 := Tryz.underlying9
  a9 := Tryz.isAgg9
  z9 := Tryz.sizeOf9
  v9 := Tryz.zeroValue9
  t20 := Tryz.underlying20
  a20 := Tryz.isAgg20
  z20 := Tryz.sizeOf20
  v20 := Tryz.zeroValue20
  t21 := Tryz.underlying21
  a21 := Tryz.isAgg21
  z21 := Tryz.sizeOf21
  v21 := Tryz.zeroValue21
  t37 := Tryz.underlying114
  a37 := Tryz.isAgg114
  z37 := Tryz.sizeOf114
  v37 := Tryz.zeroValue114
  t46 := Tryz.underlying106
  a46 := Tryz.isAgg106
  z46 := Tryz.sizeOf106
  v46 := Tryz.zeroValue106
  t51 := Tryz.underlying187
  a51 := Tryz.isAgg187
  z51 := Tryz.sizeOf187
  v51 := Tryz.zeroValue187
  t53 := Tryz.underlying145
  a53 := Tryz.isAgg145
  z53 := Tryz.sizeOf145
  v53 := Tryz.zeroValue145
  t75 := Tryz.underlying118
  a75 := Tryz.isAgg118
  z75 := Tryz.sizeOf118
  v75 := Tryz.zeroValue118
  t76 := Tryz.underlying119
  a76 := Tryz.isAgg119
  z76 := Tryz.sizeOf119
  v76 := Tryz.zeroValue119
  t85 := Tryz.underlying162
  a85 := Tryz.isAgg162
  z85 := Tryz.sizeOf162
  v85 := Tryz.zeroValue162
  t127 := Tryz.underlying137
  a127 := Tryz.isAgg137
  z127 := Tryz.sizeOf137
  v127 := Tryz.zeroValue137
  t143 := Tryz.underlying191
  a143 := Tryz.isAgg191
  z143 := Tryz.sizeOf191
  v143 := Tryz.zeroValue191
  t145 := Tryz.underlying193
  a145 := Tryz.isAgg193
  z145 := Tryz.sizeOf193
  v145 := Tryz.zeroValue193
  t167 := Tryz.underlying161
  a167 := Tryz.isAgg161
  z167 := Tryz.sizeOf161
  v167 := Tryz.zeroValue161
  t168 := Tryz.underlying164
  a168 := Tryz.isAgg164
  z168 := Tryz.sizeOf164
  v168 := Tryz.zeroValue164
  t171 := Tryz.underlying168
  a171 := Tryz.isAgg168
  z171 := Tryz.sizeOf168
  v171 := Tryz.zeroValue168
  t173 := Tryz.underlying171
  a173 := Tryz.isAgg171
  z173 := Tryz.sizeOf171
  v173 := Tryz.zeroValue171
  t175 := Tryz.underlying173
  a175 := Tryz.isAgg173
  z175 := Tryz.sizeOf173
  v175 := Tryz.zeroValue173
  t210 := Tryz.underlying177
  a210 := Tryz.isAgg177
  z210 := Tryz.sizeOf177
  v210 := Tryz.zeroValue177
  t212 := Tryz.underlying186
  a212 := Tryz.isAgg186
  z212 := Tryz.sizeOf186
  v212 := Tryz.zeroValue186
  t213 := Tryz.underlying188
  a213 := Tryz.isAgg188
  z213 := Tryz.sizeOf188
  t232 := Tryz.underlying195
  a232 := Tryz.isAgg195
  z232 := Tryz.sizeOf195
  v232 := Tryz.zeroValue195
  t233 := Tryz.underlying196
  a233 := Tryz.isAgg196
  z233 := Tryz.sizeOf196
  v233 := Tryz.zeroValue196
  g15 := by kernel_rfl
  g16 := by kernel_rfl
  g17 := by kernel_rfl
  g18 := by kernel_rfl
  g19 := by kernel_rfl }
theorem Tryz.strconv_Atoi (s : ByteArray) (n : Int) (hl : s.size ≤ 18) (h : Lib.atoi s.data.toList = some n) (w : World) :
    Calls Tryz.prog 99 #[.string s] w fun e w' => e = .returned (.tuple #[.int .i64 n, .nilIface]) ∧ ∃ t, w' = Lib.bytesWorld w 5 t := Any.strconv_Atoi Tryz.lays172 s n hl h w
def Tryz.laysM171_ren : Go.Shelf.Ren := ⟨fun | 171 => 88 | 243 => 105 | 246 => 112 | 283 => 121 | 284 => 122 | 285 => 123 | 286 => 124 | 129 => 132 | 317 => 131 | 318 => 133 | 319 => 134 | 320 => 135 | 337 => 138 | 338 => 139 | n => n, fun | 3 => 3 | 9 => 9 | 2 => 2 | 4 => 4 | 171 => 168 | 0 => 0 | 53 => 145 | 37 => 114 | 5 => 5 | 173 => 171 | 212 => 186 | 51 => 187 | 20 => 20 | 213 => 188 | 46 => 106 | 232 => 195 | 233 => 196 | n => n, fun | 17 => 5 | 18 => 6 | 19 => 7 | n => n⟩
theorem Tryz.laysM171 : Go.Proofs.LaysM.n171 Tryz.prog Tryz.laysM171_ren := {
  mixed := by kernel_rfl
  f129 := Tryz.func132.trans (congrArg some (by kernel_rfl))
  f171 := Tryz.func88.trans (congrArg some (by kernel_rfl))
  f243 := Tryz.func105.trans (congrArg some (by kernel_rfl))
  f246 := Tryz.func112.trans (congrArg some (by kernel_rfl))
  f283 := Tryz.func121.trans (congrArg some (by kernel_rfl))
  f284 := Tryz.func122.trans (congrArg some (by kernel_rfl))
  f285 := Tryz.func123.trans (congrArg some (by kernel_rfl))
  f286 := Tryz.func124.trans (congrArg some (by kernel_rfl))
  f317 := Tryz.func131.trans (congrArg some (by kernel_rfl))
  f318 := Tryz.func133.trans (congrArg some (by kernel_rfl))
  f319 := Tryz.func134.trans (congrArg some (by kernel_rfl))
  f320 := Tryz.func135.trans (congrArg some (by kernel_rfl))
  f337 := Tryz.func138.trans (congrArg some (by kernel_rfl))
  f338 := Tryz.func139.trans (congrArg some (by kernel_rfl))
  t0 := Tryz.underlying0
  a0 := Tryz.isAgg0
  z0 := Tryz.sizeOf0
  v0 := Tryz.zeroValue0
  t2 := Tryz.underlying2
  a2 := Tryz.isAgg2
  z2 := Tryz.sizeOf2
  v2 := Tryz.zeroValue2
  t3 := Tryz.underlying3
  a3 := Tryz.isAgg3
  z3 := Tryz.sizeOf3
  v3 := Tryz.zeroValue3
  t4 := Tryz.underlying4
  a4 := Tryz.isAgg4
  z4 := Tryz.sizeOf4
  v4 := Tryz.zeroValue4
  t5 := Tryz.underlying5
  a5 := Tryz.isAgg5
  z5 := Tryz.sizeOf5
  v5 := Tryz.zeroValue5
  t9 := Tryz.underlying9
  a9 := Tryz.isAgg9
  z9 := Tryz.sizeOf9
  v9 := Tryz.zeroValue9
  t20 := Tryz.underlying20
  a20 := Tryz.isAgg20
  z20 := Tryz.sizeOf20
  v20 := Tryz.zeroValue20
  t37 := Tryz.underlying114
  a37 := Tryz.isAgg114
  z37 := Tryz.sizeOf114
  v37 := Tryz.zeroValue114
  t46 := Tryz.underlying106
  a46 := Tryz.isAgg106
  z46 := Tryz.sizeOf106
  v46 := Tryz.zeroValue106
  t51 := Tryz.underlying187
  a51 := Tryz.isAgg187
  z51 := Tryz.sizeOf187
  v51 := Tryz.zeroValue187
  t53 := Tryz.underlying145
  a53 := Tryz.isAgg145
  z53 := Tryz.sizeOf145
  v53 := Tryz.zeroValue145
  t171 := Tryz.underlying168
  a171 := Tryz.isAgg168
  z171 := Tryz.sizeOf168
  v171 := Tryz.zeroValue168
  t173 := Tryz.underlying171
  a173 := Tryz.isAgg171
  z173 := Tryz.sizeOf171
  v173 := Tryz.zeroValue171
  t212 := Tryz.underlying186
  a212 := Tryz.isAgg186
  z212 := Tryz.sizeOf186
  v212 := Tryz.zeroValue186
  t213 := Tryz.underlying188
  a213 := Tryz.isAgg188
  z213 := Tryz.sizeOf188
  t232 := Tryz.underlying195
  a232 := Tryz.isAgg195
  z232 := Tryz.sizeOf195
  v232 := Tryz.zeroValue195
  t233 := Tryz.underlying196
  a233 := Tryz.isAgg196
  z233 := Tryz.sizeOf196
  v233 := Tryz.zeroValue196
  g17 := by kernel_rfl
  g18 := by kernel_rfl
  g19 := by kernel_rfl
  i0 := by kernel_rfl
  i2 := by kernel_rfl
  i3 := by kernel_rfl
  i4 := by kernel_rfl
  i5 := by kernel_rfl
  i9 := by kernel_rfl
  i20 := by kernel_rfl
  i37 := by kernel_rfl
  i46 := by kernel_rfl
  i51 := by kernel_rfl
  i53 := by kernel_rfl
  i171 := by kernel_rfl
  i173 := by kernel_rfl
  i212 := by kernel_rfl
  i232 := by kernel_rfl
  i233 := by kernel_rfl
  m17 := by kernel_rfl
  m18 := by kernel_rfl
  m19 := by kernel_rfl }
theorem Tryz.strconv_Itoa (n : Int) (h0 : -9223372036854775808 ≤ n) (h1 : n ≤ 9223372036854775807) (w : World) (htab : Lib.TabIs Tryz.prog w "internal/strconv.uint64pow10" .u64 Lib.pow10Tab) :
    Calls Tryz.prog 88 #[.int .i64 n] w fun e w' => e = .returned (.string ⟨(Lib.itoa n).toArray⟩) ∧ ∃ k os, w' = grow (w.drewN k) os := Any.strconv_Itoa Tryz.laysM171 n h0 h1 w htab
def Tryz.laysNm215_ren : Go.Shelf.Ren := ⟨fun | 15 => 73 | n => n, fun | 22 => 68 | 3 => 3 | 4 => 4 | n => n, fun | n => n⟩
theorem Tryz.laysNm215 : Go.Proofs.Lays2.n15 Tryz.prog Tryz.laysNm215_ren := {
  mixed := by kernel_rfl
  f15 := Tryz.func73.trans (congrArg some (by kernel_rfl))
  t3 := Tryz.underlying3
  a3 := Tryz.isAgg3
  z3 := Tryz.sizeOf3
  v3 := Tryz.zeroValue3
  t4 := Tryz.underlying4
  a4 := Tryz.isAgg4
  z4 := Tryz.sizeOf4
  v4 := Tryz.zeroValue4
  t22 := Tryz.underlying68
  a22 := Tryz.isAgg68
  z22 := Tryz.sizeOf68
  v22 := Tryz.zeroValue68
  i3 := by kernel_rfl }
theorem Tryz.slices_Clone_int (b off n c : Nat) (zs : List Int) (w : World) (hz : n ≤ zs.length) (hbig : n * 8 ≤ 140737488355328) (hc : ∀ j, j < zs.length → w.cell? ⟨b, off + j, none⟩ = some (.int .i64 (zs.getD j 0))) :
    Calls Tryz.prog 73 #[.slice (some ⟨b, off, none⟩) n c] w fun e w' => ∃ v', e = .returned v' ∧ w'.ownsRow w.heap.size 3 1 v' n ((zs.take n).map (Value.int .i64)) ∧ v' ≠ .slice none 0 0 ∧ Below w.heap.size w w' := Any.slices_Clone_int Tryz.laysNm215 b off n c zs w hz hbig hc
theorem Tryz.slices_Clone_int_nil (n c : Nat) (w : World) :
    Calls Tryz.prog 73 #[.slice none n c] w fun e w' => e = .returned (.slice none 0 0) ∧ w' = w := Any.slices_Clone_int_nil Tryz.laysNm215 n c w
def Tryz.laysNm216_ren : Go.Shelf.Ren := ⟨fun | 16 => 40 | n => n, fun | 24 => 26 | 9 => 9 | 4 => 4 | n => n, fun | n => n⟩
theorem Tryz.laysNm216 : Go.Proofs.Lays2.n16 Tryz.prog Tryz.laysNm216_ren := {
  mixed := by kernel_rfl
  f16 := Tryz.func40.trans (congrArg some (by kernel_rfl))
  t4 := Tryz.underlying4
  a4 := Tryz.isAgg4
  z4 := Tryz.sizeOf4
  v4 := Tryz.zeroValue4
  t9 := Tryz.underlying9
  a9 := Tryz.isAgg9
  z9 := Tryz.sizeOf9
  v9 := Tryz.zeroValue9
  t24 := Tryz.underlying26
  a24 := Tryz.isAgg26
  z24 := Tryz.sizeOf26
  v24 := Tryz.zeroValue26
  i9 := by kernel_rfl }
theorem Tryz.slices_Clone_string (b off n c : Nat) (zs : List ByteArray) (w : World) (hz : n ≤ zs.length) (hbig : n * 16 ≤ 140737488355328) (hc : ∀ j, j < zs.length → w.cell? ⟨b, off + j, none⟩ = some (.string (zs.getD j ByteArray.empty))) :
    Calls Tryz.prog 40 #[.slice (some ⟨b, off, none⟩) n c] w fun e w' => ∃ v', e = .returned v' ∧ w'.ownsRow w.heap.size 9 1 v' n ((zs.take n).map (Value.string)) ∧ v' ≠ .slice none 0 0 ∧ Below w.heap.size w w' := Any.slices_Clone_string Tryz.laysNm216 b off n c zs w hz hbig hc
theorem Tryz.slices_Clone_string_nil (n c : Nat) (w : World) :
    Calls Tryz.prog 40 #[.slice none n c] w fun e w' => e = .returned (.slice none 0 0) ∧ w' = w := Any.slices_Clone_string_nil Tryz.laysNm216 n c w
theorem Tryz.slices_Clone_int_zero (a : Addr) (c : Nat) (w : World) :
    Calls Tryz.prog 73 #[.slice (some a) 0 c] w fun e w' => ∃ v', e = .returned v' ∧ w'.ownsRow w.heap.size 3 1 v' 0 [] ∧ v' ≠ .slice none 0 0 ∧ Below w.heap.size w w' := Any.slices_Clone_int_zero Tryz.laysNm215 a c w
theorem Tryz.slices_Clone_string_zero (a : Addr) (c : Nat) (w : World) :
    Calls Tryz.prog 40 #[.slice (some a) 0 c] w fun e w' => ∃ v', e = .returned v' ∧ w'.ownsRow w.heap.size 9 1 v' 0 [] ∧ v' ≠ .slice none 0 0 ∧ Below w.heap.size w w' := Any.slices_Clone_string_zero Tryz.laysNm216 a c w
end Go.Proofs
namespace Go.Proofs.YtggjaoibcfgofaaGreatDoor
open Am C
set_option linter.unusedSimpArgs false
set_option linter.unusedVariables false
section
open Go Go.RowKit
theorem Am.AC.belowS {P : Program} {f : FuncId} {args : List V} {H : Hp} {v : V} (hok : okFn P f = true)
    (h : ∀ (κ : K) (cs : List Value), Sim κ H → VRs κ args cs → ∃ cv, (∀ κ' : K, VR κ' v cv) ∧ Calls P f cs.toArray κ.w (fun e w' => e = .returned cv ∧ Below κ.w.heap.size κ.w w')) : AC P f args H (fun r H' => r = v ∧ H' = H) :=
  ⟨hok, fun κ cs S r => by
    obtain ⟨cv, hv, hc⟩ := h κ cs S r
    exact hc.mono fun e w' ⟨he, hb⟩ => ⟨{ κ with w := w' }, v, cv, H, he, rfl, K.below_le S hb, S.below hb, hv _, rfl, rfl⟩⟩
end
theorem vr_s {κ : K} {x : Str} {c : Go.Value} (h : VR κ (.s x) c) : c = .string ⟨x.toArray⟩ := by cases h; rfl
theorem vr_i {κ : K} {k : Go.IntKind} {n : Int} {c : Go.Value} (h : VR κ (.i k n) c) : c = .int k n := by cases h; rfl
theorem IndexByte_ok (s : Str) (c : UInt8) (H : Hp) : AC Tryz.prog 61 [.s s, .i .u8 c.toNat] H (fun v H' => v = .i .i64 (Go.Lib.indexByte s c) ∧ H' = H) := by
  refine AC.below (by kernel_rfl) fun κ cs r => ?_
  obtain ⟨a, b, rfl, ra, rb⟩ := r.two'
  obtain rfl := vr_s ra
  obtain rfl := vr_i rb
  refine ⟨_, fun κ' => .i _ _, ?_⟩
  refine (Tryz.strings_IndexByte ⟨s.toArray⟩ (c.toNat : Int) κ.w).mono fun e w' ⟨he, hw⟩ => ⟨?_, ?_⟩
  · rw [he]; simp
  · rw [hw]; exact .refl _ _
theorem pow10_of {κ : K} {H : Hp} (S : Sim κ H) : Go.Lib.TabIs Tryz.prog κ.w "internal/strconv.uint64pow10" .u64 Go.Lib.pow10Tab := by
  obtain ⟨_, ty, fr, h⟩ := S.tb (TBs[0]'(by decide)) (List.getElem_mem _)
  unfold Go.Lib.TabIs Go.World.var?
  rw [show Tryz.prog.globalNamed "internal/strconv.uint64pow10" = some 5 by kernel_rfl]
  simp only [Option.bind_some]
  have h' : κ.w.heap[5]? = some (Go.Obj.cells (TBs[0]'(by decide)).2.toArray ty fr) := h
  rw [h']
  rfl
theorem TrimLeft_ok (s t : Str) (ht : t.length < 4294967281) (ha : t.all (fun b => decide (b.toNat < 128)) = true) (H : Hp) : AC Tryz.prog 86 [.s s, .s t] H (fun v H' => v = .s (s.dropWhile (t.contains ·)) ∧ H' = H) := by
  refine AC.below (by kernel_rfl) fun κ cs r => ?_
  obtain ⟨a, b, rfl, ra, rb⟩ := r.two'
  obtain rfl := vr_s ra
  obtain rfl := vr_s rb
  refine ⟨_, fun κ' => .s _, ?_⟩
  refine (Go.Proofs.Any.strings_TrimLeft_laid Tryz.lays161 (by kernel_rfl) ⟨s.toArray⟩ ⟨t.toArray⟩ κ.w (show t.toArray.size < 4294967281 by simpa using ht) (by simpa using Go.Proofs.ascii_of_all ha)).mono fun e w' ⟨he, hw⟩ => ⟨?_, hw⟩
  rw [he]; rfl
theorem Atoi_ok (s : Str) (n : Int) (hl : s.length ≤ 18) (h : Go.Lib.atoi s = some n) (H : Hp) : AC Tryz.prog 99 [.s s] H (fun v H' => v = .tup [.i .i64 n, .nifc] ∧ H' = H) := by
  refine AC.below (by kernel_rfl) fun κ cs r => ?_
  obtain ⟨a, rfl, ra⟩ := r.one'
  obtain rfl := vr_s ra
  refine ⟨_, fun κ' => VR.tupOf (.cons' (.i _ _) (.cons' .nifc (.nil' _))), ?_⟩
  refine (Tryz.strconv_Atoi ⟨s.toArray⟩ n (show s.toArray.size ≤ 18 by simpa using hl) (by simpa using h) κ.w).mono fun e w' ⟨he, t, hw⟩ => ⟨?_, ?_⟩
  · rw [he]
  · rw [hw]; exact Go.Lib.bytesWorld_below _ _ _
end Go.Proofs.YtggjaoibcfgofaaGreatDoor
namespace Go.Proofs.YtggjaoibcfgofaaGreatDoor
open Am C
set_option linter.unusedSimpArgs false
set_option linter.unusedVariables false
section
open Go Go.RowKit
theorem Am.AC.row {P : Program} {f : FuncId} {args : List V} {H : Hp} {es : List (List V)} {T sz : Nat} (hok : okFn P f = true) (hes : ∀ e ∈ es, e.length = sz)
    (h : ∀ (κ : K) (cs : List Value), Sim κ H → VRs κ args cs → ∃ cv : Nat → Nat → Value, (∀ (κ' : K) (i j : Nat) e v, es[i]? = some e → e[j]? = some v → VR κ' v (cv i j)) ∧
      Calls P f cs.toArray κ.w (fun e w' => ∃ v' xs, e = .returned v' ∧ w'.ownsRow κ.w.heap.size T sz v' es.length xs ∧ (∀ (i j : Nat) e v, es[i]? = some e → e[j]? = some v → xs[i * sz + j]? = some (cv i j)) ∧ RowKit.Below κ.w.heap.size κ.w w')) :
    AC P f args H (fun r H' => r = .fs es ∧ H' = H) := by
  refine ⟨hok, fun κ cs S r => ?_⟩
  obtain ⟨cv, hv, hc⟩ := h κ cs S r
  refine hc.mono fun e w' ⟨v', xs, he, ho, hx, hb⟩ => ?_
  obtain ⟨hlen, ⟨rfl, h0⟩ | ⟨g, cap, cur, rfl, hg, hgb, hcap, hmax, hsz, htake⟩⟩ := ho
  · have hnil : es = [] := List.length_eq_zero_iff.1 h0
    subst hnil
    exact ⟨{ κ with w := w' }, .fs [], .slice none 0 0, H, he, rfl, K.below_le S hb, S.below hb, .fs (κ := { κ with w := w' }) [] 0 sz 0 0 none (fun _ _ => undef) (Nat.le_refl _) (fun e h => by simp at h) (fun _ => rfl) (fun h => absurd rfl h) (fun i j e v h => by simp at h) (fun i j e v h => by simp at h), rfl, rfl⟩
  · have S' := S.below hb
    have le := K.below_le S hb
    let κ2 : K := { κ with w := w', fz := fun b => κ.fz b ∨ b = g, ic := fun b => κ.ic b ∨ b = g }
    have gl : g < w'.heap.size := lt_of_some hgb
    have le2 : κ.Le κ2 := ⟨le.ok, fun b h => ⟨.inl h, (le.fz b h).2⟩, fun b h => ⟨.inl h, (le.ic b h).2⟩, fun b h => h.elim .inl fun h => .inr (.inl (by rw [h]; exact hg)), le.n, le.size, le.os, le.tape, le.output, le.hole, le.base, le.lps⟩
    have le3 : K.Le { κ with w := w' } κ2 := ⟨fun _ _ h => ⟨h, rfl⟩, fun _ h => ⟨.inl h, rfl⟩, fun _ h => ⟨.inl h, rfl⟩, fun b h => h.elim .inl fun h => .inr (.inr (by subst h; intro hf; have := S.fz _ hf; omega)), fun _ _ h => h, Nat.le_refl _, rfl, rfl, rfl, fun _ h => ⟨h, fun _ o => o⟩, rfl, fun _ r h => ⟨r, h⟩⟩
    have plt : ∀ {id e cs}, Placed κ id e cs → (κ.pl id e).1 < κ.w.heap.size := fun ⟨⟨arr, t, fr, hb, _⟩, _⟩ => lt_of_some hb
    refine ⟨κ2, .fs es, _, H, he, rfl, le2, ⟨S'.ok, S'.hole, S'.lt, fun b h => h.elim (S'.fz b) fun h => by rw [h]; exact gl, fun b h => h.elim (fun h => .inl (S'.ic b h)) .inr, S'.le, fun id cs m hm e h1 h2 => ?_, fun id o ho => ?_, S'.sep, S'.base, S'.sepm, S'.tb.mono le3⟩, ?_, rfl, rfl⟩
    · have P0 := S.cells id cs m hm e h1 h2
      have hlt := plt P0
      obtain ⟨⟨arr, t, fr, hb', hs, hv', hf⟩, hz⟩ := S'.cells id cs m hm e h1 h2
      refine ⟨⟨arr, t, fr, hb', hs, fun j v a b => (hv' j v a b).mono le3, hf⟩, ?_⟩
      rintro (h | h)
      · exact hz h
      · have : (κ.pl id e).1 = g := h
        omega
    · obtain ⟨⟨x0, hb0, _⟩, _⟩ := S.maps id o ho
      obtain ⟨⟨x, hb', ho'⟩, hz⟩ := S'.maps id o ho
      refine ⟨⟨x, hb', ho'.mono le3⟩, ?_⟩
      rintro (h | h)
      · exact hz h
      · have h1 : (κ.pl id 0).1 = g := h
        have := lt_of_some hb0
        omega
    · refine .fs (κ := κ2) es cap sz g 0 (some ⟨g, 0, none⟩) cv hcap hes (fun h => by cases h) (fun _ => ⟨rfl, .inr rfl⟩) (fun i j e v hi hj => ?_) (fun i j e v hi hj => hv κ2 i j e v hi hj)
      have h1 := hx i j e v hi hj
      rw [← htake, List.getElem?_take] at h1
      split at h1
      · show w'.cell? ⟨g, 0 + i * sz + j, none⟩ = some (cv i j)
        simp only [World.cell?, hgb, Nat.zero_add]
        rw [← Array.getElem?_toList]
        exact h1
      · cases h1
end
theorem ss_len (l : List Str) : ∀ e ∈ l.map (fun x => [V.s x]), e.length = 1 := fun e he => by
  obtain ⟨x, _, rfl⟩ := List.mem_map.1 he; rfl
theorem ns_len (l : List Nat) : ∀ e ∈ l.map (fun n => [V.i .i64 (n : Nat)]), e.length = 1 := fun e he => by
  obtain ⟨x, _, rfl⟩ := List.mem_map.1 he; rfl
theorem vr_fs1 {κ : K} {α : Type} {l : List α} {f : α → V} {c : Go.Value} (h : VR κ (.fs (l.map fun x => [f x])) c) :
    ∃ a cap, c = .slice a l.length cap ∧ (a = none → l = []) ∧ (l ≠ [] → ∃ b o, a = some ⟨b, o, none⟩ ∧ ∀ (i : Nat) x, l[i]? = some x → ∃ c, κ.w.cell? ⟨b, o + i, none⟩ = some c ∧ VR κ (f x) c) := by
  cases h with
  | fs _ cap sz b o a cv hcap hsz hn hne hc hv =>
    refine ⟨a, cap, by simp, fun h => ?_, fun h => ?_⟩
    · have := hn h
      have : l.length = 0 := by simpa [this] using hcap
      exact List.length_eq_zero_iff.1 this
    · have hne' := hne (by simpa using h)
      have hs : sz = 1 := by
        obtain ⟨x, r, rfl⟩ := List.exists_cons_of_ne_nil h
        exact (hsz [f x] (by simp)).symm
      subst hs
      refine ⟨b, o, hne'.1, fun i x hi => ?_⟩
      have hi' : (l.map fun x => [f x])[i]? = some [f x] := by simp [hi]
      have h1 := hc i 0 _ _ hi' rfl
      have h2 := hv i 0 _ _ hi' rfl
      exact ⟨_, by simpa using h1, h2⟩
theorem CloneS_ok (l : List Str) (hl : l.length ≤ 8000000000000) (H : Hp) : AC Tryz.prog n_slices_Clone_string_string [ss l] H (fun v H' => v = ss l ∧ H' = H) := by
  refine AC.row (T := 9) (sz := 1) (by kernel_rfl) (ss_len l) fun κ cs S r => ?_
  obtain ⟨c, rfl, rc⟩ := r.one'
  refine ⟨fun i _ => .string ⟨((l[i]?).getD []).toArray⟩, fun κ' i j e v he hv => ?_, ?_⟩
  · simp only [List.getElem?_map, Option.map_eq_some_iff] at he
    obtain ⟨x, hx, rfl⟩ := he
    cases j with
    | zero => simp at hv; subst hv; simp only [hx, Option.getD_some]; exact .s x
    | succ j => simp at hv
  obtain ⟨a, cap, rfl, h0, h1⟩ := vr_fs1 rc
  have hfin : ∀ (xs : List Go.Value), xs = l.map (fun x => Go.Value.string ⟨x.toArray⟩) → ∀ (i j : Nat) e v, (l.map fun x => [V.s x])[i]? = some e → e[j]? = some v → xs[i * 1 + j]? = some (.string ⟨((l[i]?).getD []).toArray⟩) := by
    rintro _ rfl i j e v he hv
    simp only [List.getElem?_map, Option.map_eq_some_iff] at he
    obtain ⟨x, hx, rfl⟩ := he
    cases j with
    | zero => simp [hx]
    | succ j => simp at hv
  by_cases hn : l = []
  · subst hn
    cases a with
    | none => exact (Tryz.slices_Clone_string_nil 0 cap κ.w).mono fun e w' ⟨he, hw⟩ => ⟨_, [], he, by rw [hw]; exact Go.World.ownsRow_nil _ _ _ _, fun i j e v he => by simp at he, by rw [hw]; exact .refl _ _⟩
    | some a => exact (Tryz.slices_Clone_string_zero a cap κ.w).mono fun e w' ⟨v', he, ho, _, hb⟩ => ⟨v', [], he, ho, fun i j e v he => by simp at he, hb⟩
  · obtain ⟨b, o, rfl, hc⟩ := h1 hn
    refine (Tryz.slices_Clone_string b o l.length cap (l.map fun x => ⟨x.toArray⟩) κ.w (by simp) (by omega) fun j hj => ?_).mono fun e w' ⟨v', he, ho, _, hb⟩ => ⟨v', _, he, by simpa using ho, hfin _ ?_, hb⟩
    · simp at hj
      obtain ⟨c, h1, h2⟩ := hc j _ (List.getElem?_eq_getElem hj)
      rw [h1, vr_s h2]
      simp [List.getD_eq_getElem?_getD, hj]
    · rfl
end Go.Proofs.YtggjaoibcfgofaaGreatDoor
namespace Go.Proofs.YtggjaoibcfgofaaGreatDoor
open Am C
set_option linter.unusedSimpArgs false
set_option linter.unusedVariables false
namespace Am
open Go Go.RowKit
theorem Sim.adopt {κ : K} {H : Hp} (S : Sim κ H) {b o : Nat} {ds : List V} {arr : Array Value} {t : TypeId} {fr : Nat × Nat} (hb : κ.w.heap[b]? = some (.cells arr t fr)) (hsz : o + ds.length ≤ arr.size)
    (hv : ∀ (j : Nat) v, ds[j]? = some v → VR κ v (arr.getD (o + j) undef)) (hfr : fr.2 ≤ fr.1 ∨ arr.size < 0) (hz : ¬ κ.fz b)
    (hno : ∀ id cs m e, H.get id = some (.cells cs m) → m ≤ e → e ≤ cs.length → (κ.pl id e).1 ≠ b) :
    ∃ κ' : K, κ'.w = κ.w ∧ κ.Le κ' ∧ Sim κ' (H.add (.cells ds ds.length)) ∧ κ'.pl H.next ds.length = (b, o) ∧ κ'.ok H.next ds.length := by
  let κ2 : K := { κ with pl := fun k e => if k = H.next then (b, o) else κ.pl k e, ok := fun k e => κ.ok k e ∨ (k = H.next ∧ e ≤ ds.length) }
  have plo : ∀ {k e}, k ≠ H.next → κ2.pl k e = κ.pl k e := fun h => if_neg h
  have pln : ∀ {e}, κ2.pl H.next e = (b, o) := if_pos rfl
  have le : κ.Le κ2 := ⟨fun k e h => ⟨.inl h, plo (by have := (S.ok k e h).1; omega)⟩, fun b h => ⟨h, rfl⟩, fun b h => ⟨h, rfl⟩, fun b h => .inl h, fun b n h => h, Nat.le_refl _, rfl, rfl, rfl,
    fun k h => ⟨h, fun e o => o.elim id fun x => by have := (S.hole k h).1; omega⟩, rfl, fun b r h => ⟨r, h⟩⟩
  have gne : ∀ {k}, k ≠ H.next → (H.add (.cells ds ds.length)).get k = H.get k := fun h => by simp [h]
  have geq : (H.add (.cells ds ds.length)).get H.next = some (.cells ds ds.length) := by simp
  refine ⟨κ2, rfl, le, ⟨fun k e h => ?_, fun k h => ?_, Hp.add_lt S.lt _, S.fz, S.ic, fun k cs m h => ?_, fun k cs m h e h1 h2 => ?_, fun k o' h => ?_, fun k k' e e' cs1 m1 cs2 m2 g1 g2 a1 a2 b1 b2 hp => ?_, fun k cs' m' e e' h a1 a2 b1 b2 hp => ?_, fun k k' es es' g1 g2 hp => ?_, S.tb.mono le⟩, pln, .inr ⟨rfl, Nat.le_refl _⟩⟩
  · rcases h with h | ⟨rfl, h⟩
    · obtain ⟨h1, h2⟩ := S.ok k e h
      exact ⟨by simp; omega, fun cs m hg => h2 cs m (by rw [gne (by omega)] at hg; exact hg)⟩
    · refine ⟨by simp, fun cs m hg => ?_⟩
      rw [geq] at hg; injection hg with hg; injection hg with x y; subst x; exact h
  · obtain ⟨h1, h2⟩ := S.hole k h
    exact ⟨by simp; omega, by rw [gne (by omega)]; exact h2⟩
  · by_cases hk : k = H.next
    · subst hk; rw [geq] at h; injection h with h; injection h with x y; subst x; subst y; exact Nat.le_refl _
    · rw [gne hk] at h; exact S.le k cs m h
  · by_cases hk : k = H.next
    · subst hk; rw [geq] at h; injection h with h; injection h with x y; subst x; subst y
      have : e = ds.length := by omega
      subst this
      exact ⟨⟨arr, t, fr, by rw [pln]; exact hb, by rw [pln]; exact hsz, fun j v _ hj => by rw [pln]; exact (hv j v hj).mono le, hfr⟩, by rw [pln]; exact hz⟩
    · rw [gne hk] at h
      obtain ⟨⟨arr0, t0, fr0, q1, q2, q3, q4⟩, q5⟩ := S.cells k cs m h e h1 h2
      exact ⟨⟨arr0, t0, fr0, by rw [plo hk]; exact q1, by rw [plo hk]; exact q2, fun j v hj hv => by rw [plo hk]; exact (q3 j v hj hv).mono le, q4⟩, by rw [plo hk]; exact q5⟩
  · by_cases hk : k = H.next
    · subst hk; rw [geq] at h; injection h with h; cases h
    · rw [gne hk] at h
      obtain ⟨⟨x, q1, q2⟩, q3⟩ := S.maps k o' h
      exact ⟨⟨x, by rw [plo hk]; exact q1, q2.mono le⟩, by rw [plo hk]; exact q3⟩
  · by_cases hk : k = H.next <;> by_cases hk' : k' = H.next
    · rw [hk, hk']
    · rw [gne hk'] at g2
      rw [plo hk'] at hp; subst hk; rw [pln] at hp
      exact absurd hp.symm (hno k' cs2 m2 e' g2 b1 b2)
    · rw [gne hk] at g1
      rw [plo hk] at hp; subst hk'; rw [pln] at hp
      exact absurd hp (hno k cs1 m1 e g1 a1 a2)
    · rw [gne hk] at g1; rw [gne hk'] at g2
      rw [plo hk, plo hk'] at hp
      exact S.sep k k' e e' cs1 m1 cs2 m2 g1 g2 a1 a2 b1 b2 hp
  · by_cases hk : k = H.next
    · subst hk; rw [pln, pln]
    · rw [gne hk] at h
      rw [plo hk, plo hk] at hp ⊢
      exact S.base k cs' m' e e' h a1 a2 b1 b2 hp
  · by_cases hk : k = H.next
    · subst hk; rw [geq] at g1; injection g1 with g1; cases g1
    · by_cases hk' : k' = H.next
      · subst hk'; rw [geq] at g2; injection g2 with g2; cases g2
      · rw [gne hk] at g1; rw [gne hk'] at g2
        rw [plo hk, plo hk'] at hp
        exact S.sepm k k' es es' g1 g2 hp
theorem Sim.other {κ : K} {H : Hp} (S : Sim κ H) {b : Nat} {w' : World} {arr : Array Value} {t : TypeId} {fr : Nat × Nat} (hb : κ.w.heap[b]? = some (.cells arr t fr))
    (hk : ∀ k, k ≠ b → k < κ.w.heap.size → w'.heap[k]? = κ.w.heap[k]?) (hn : ∀ k n, nCells κ.w k = some n → nCells w' k = some n) (hsz : κ.w.heap.size ≤ w'.heap.size)
    (hos : w'.os = κ.w.os) (hta : w'.tape = κ.w.tape) (hou : w'.output = κ.w.output) (hz : ¬ κ.fz b)
    (hno : ∀ id cs m e, H.get id = some (.cells cs m) → m ≤ e → e ≤ cs.length → (κ.pl id e).1 ≠ b) :
    κ.Le { κ with w := w' } ∧ Sim { κ with w := w' } H := by
  have le : κ.Le { κ with w := w' } := ⟨fun _ _ h => ⟨h, rfl⟩, fun k h => ⟨h, hk k (fun e => hz (e ▸ h)) (S.fz k h)⟩, fun k h => ⟨h, hk k (fun e => hz (e ▸ S.ic k h)) (S.fz k (S.ic k h))⟩, fun _ h => .inl h, hn, hsz, hos, hta, hou, fun _ h => ⟨h, fun _ o => o⟩, rfl,
    fun k r h => ⟨r, (hk k (fun e => by subst e; rw [hb] at h; cases h) (lt_of_some h)).trans h⟩⟩
  refine ⟨le, ⟨S.ok, S.hole, S.lt, fun k h => Nat.lt_of_lt_of_le (S.fz k h) hsz, S.ic, S.le, fun id cs m hg e h1 h2 => ?_, fun id o hg => ?_, S.sep, S.base, S.sepm, S.tb.mono le⟩⟩
  · obtain ⟨⟨arr0, t0, fr0, q1, q2, q3, q4⟩, q5⟩ := S.cells id cs m hg e h1 h2
    exact ⟨⟨arr0, t0, fr0, (hk _ (hno id cs m e hg h1 h2) (lt_of_some q1)).trans q1, q2, fun j v a b => (q3 j v a b).mono le, q4⟩, q5⟩
  · obtain ⟨⟨x, q1, q2⟩, q3⟩ := S.maps id o hg
    exact ⟨⟨x, (hk _ (fun e => by rw [e, hb] at q1; injection q1 with q1; subst q1; exact q2.not_cells) (lt_of_some q1)).trans q1, q2.mono le⟩, q3⟩
end Am
end Go.Proofs.YtggjaoibcfgofaaGreatDoor
