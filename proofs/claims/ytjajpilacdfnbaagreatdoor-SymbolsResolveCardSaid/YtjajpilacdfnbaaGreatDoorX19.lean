/- Part 19 of the proof of the laws of the queries: QLib, QLib2, QSl, Q17, QAl. -/
import Derived.Shelf.Strings.SlTrimAscii
import Derived.Shelf.Strings.Search1
import Derived.Shelf.Strings.Search2
import Derived.Shelf.Strings.Builder1
import Derived.Shelf.Strconv.Atoi
import Derived.Shelf.Strconv.Itoa3
import Derived.Shelf.Small.Strs
import Derived.Shelf.LaysM
import Derived.Lib.LaidTab
import Derived.Lib.AtoiErrMem
import Derived.Lib.AppendIntMem
import Derived.Shelf.Slices.Clone
import Derived.Test.YtjajpilacdfnbaaGreatDoorX18
namespace Go.Proofs
open Go.Shelf Go.RowKit Go.Sort Go.Lib
def Tryz.lays169_ren : Go.Shelf.Ren := ⟨fun | 169 => 143 | n => n, fun | 70 => 182 | 9 => 9 | 0 => 0 | 72 => 185 | 37 => 183 | 127 => 204 | 3 => 3 | 5 => 5 | n => n, fun | n => n⟩
theorem Tryz.lays169 : Go.Proofs.Lays.n169 Tryz.prog Tryz.lays169_ren := {
  mixed := by kernel_rfl
  f169 := Tryz.func143.trans (congrArg some (by kernel_rfl))
  t0 := Tryz.underlying0
  a0 := Tryz.isAgg0
  z0 := Tryz.sizeOf0
  v0 := Tryz.zeroValue0
  t3 := Tryz.underlying3
  a3 := Tryz.isAgg3
  z3 := Tryz.sizeOf3
  v3 := Tryz.zeroValue3
  t9 := Tryz.underlying9
  a9 := Tryz.isAgg9
  z9 := Tryz.sizeOf9
  v9 := Tryz.zeroValue9
  t37 := Tryz.underlying183
  a37 := Tryz.isAgg183
  z37 := Tryz.sizeOf183
  v37 := Tryz.zeroValue183
  t70 := Tryz.underlying182
  a70 := Tryz.isAgg182
  z70 := Tryz.sizeOf182
  v70 := Tryz.zeroValue182
  t72 := Tryz.underlying185
  a72 := Tryz.isAgg185
  z72 := Tryz.sizeOf185
  v72 := Tryz.zeroValue185
  t127 := Tryz.underlying204
  a127 := Tryz.isAgg204
  z127 := Tryz.sizeOf204
  v127 := Tryz.zeroValue204 }
theorem Tryz.Builder_Extra_169 : Builder.Extra Tryz.prog Tryz.lays169_ren := {
  sizeBuilder := by kernel_rfl
  liesBuilder := by kernel_rfl
  t5 := Tryz.underlying5
  a5 := Tryz.isAgg5
  z5 := Tryz.sizeOf5
  v5 := Tryz.zeroValue5
  infoByte := by kernel_rfl
  cellsByte := by kernel_rfl
  sizeByte := by kernel_rfl
  neB5 := by decide }
open Go.RowKit in
theorem Tryz.Builder_String_any (B b : Nat) (l : List UInt8) (w : World) (h : Lib.IsBuilder 185 5 B b (Lib.byteCells l) w) (hBw : B ≤ w.heap.size) :
    Calls Tryz.prog 143 #[.pointer (some ⟨b, 0, none⟩)] w fun e w' => e = .returned (.string ⟨l.toArray⟩) ∧ Below B w w' := Any.Builder_String_any Tryz.lays169 Tryz.Builder_Extra_169 B b l w h hBw
def Tryz.lays161_ren : Go.Shelf.Ren := ⟨fun | 161 => 97 | 231 => 129 | 227 => 130 | 233 => 131 | 235 => 132 | 228 => 153 | 197 => 154 | 151 => 155 | 260 => 167 | 152 => 168 | 137 => 137 | 119 => 176 | 224 => 177 | 225 => 178 | 217 => 160 | 266 => 171 | n => n, fun | 9 => 9 | 4 => 4 | 3 => 3 | 5 => 5 | 117 => 173 | 116 => 172 | 0 => 0 | 124 => 176 | 105 => 201 | 21 => 21 | 119 => 210 | 46 => 80 | 139 => 213 | 138 => 212 | n => n, fun | 3 => 0 | 4 => 1 | n => n⟩
theorem Tryz.lays161 : Go.Proofs.Lays.n161 Tryz.prog Tryz.lays161_ren := {
  mixed := by kernel_rfl
  f119 := Tryz.func176.trans (congrArg some (by kernel_rfl))
  f137 := Tryz.func137.trans (congrArg some (by kernel_rfl))
  f151 := Tryz.func155.trans (congrArg some (by kernel_rfl))
  f152 := Tryz.func168.trans (congrArg some (by kernel_rfl))
  f161 := Tryz.func97.trans (congrArg some (by kernel_rfl))
  f197 := Tryz.func154.trans (congrArg some (by kernel_rfl))
  f217 := Tryz.func160.trans (congrArg some (by kernel_rfl))
  f224 := Tryz.func177.trans (congrArg some (by kernel_rfl))
  f225 := Tryz.func178.trans (congrArg some (by kernel_rfl))
  f227 := Tryz.func130.trans (congrArg some (by kernel_rfl))
  f228 := Tryz.func153.trans (congrArg some (by kernel_rfl))
  f231 := Tryz.func129.trans (congrArg some (by kernel_rfl))
  f233 := Tryz.func131.trans (congrArg some (by kernel_rfl))
  f235 := Tryz.func132.trans (congrArg some (by kernel_rfl))
  f260 := Tryz.func167.trans (congrArg some (by kernel_rfl))
  f266 := Tryz.func171.trans (congrArg some (by kernel_rfl))
  t0 := Tryz.underlying0
  a0 := Tryz.isAgg0
  z0 := Tryz.sizeOf0
  v0 := Tryz.zeroValue0
  t3 := Tryz.underlying3
  a3 := Tryz.isAgg3
  z3 := Tryz.sizeOf3
  v3 := Tryz.zeroValue3
  t4 := Tryz.underlying4
  a4 := Tryz.isAgg4
  z4 := Tryz.sizeOf4
  v4 := Tryz.zeroValue4
  t5 := Tryz.underlying5
  a5 := Tryz.isAgg5
  z5 := Tryz.sizeOf5
  v5 := Tryz.zeroValue5
  t9 := Tryz.underlying9
  a9 := Tryz.isAgg9
  z9 := Tryz.sizeOf9
  v9 := Tryz.zeroValue9
  t21 := Tryz.underlying21
  a21 := Tryz.isAgg21
  z21 := Tryz.sizeOf21
  v21 := Tryz.zeroValue21
  t46 := Tryz.underlying80
  a46 := Tryz.isAgg80
  z46 := Tryz.sizeOf80
  v46 := Tryz.zeroValue80
  t105 := Tryz.underlying201
  a105 := Tryz.isAgg201
  z105 := Tryz.sizeOf201
  v105 := Tryz.zeroValue201
  t116 := Tryz.underlying172
  a116 := Tryz.isAgg172
  z116 := Tryz.sizeOf172
  t117 := Tryz.underlying173
  a117 := Tryz.isAgg173
  z117 := Tryz.sizeOf173
  v117 := Tryz.zeroValue173
  t119 := Tryz.underlying210
  a119 := Tryz.isAgg210
  z119 := Tryz.sizeOf210
  t124 := Tryz.underlying176
  a124 := Tryz.isAgg176
  z124 := Tryz.sizeOf176
  v124 := Tryz.zeroValue176
  t138 := Tryz.underlying212
  a138 := Tryz.isAgg212
  z138 := Tryz.sizeOf212
  v138 := Tryz.zeroValue212
  t139 := Tryz.underlying213
  a139 := Tryz.isAgg213
  z139 := Tryz.sizeOf213
  v139 := Tryz.zeroValue213
  g3 := by kernel_rfl
  g4 := by kernel_rfl }
def Tryz.lays160_ren : Go.Shelf.Ren := ⟨fun | 160 => 133 | 232 => 156 | 231 => 129 | 227 => 130 | 234 => 157 | 233 => 131 | 236 => 158 | 235 => 132 | 228 => 153 | 271 => 169 | 151 => 155 | 197 => 154 | 120 => 179 | 152 => 168 | 260 => 167 | 137 => 137 | 119 => 176 | 224 => 177 | 225 => 178 | 217 => 160 | 266 => 171 | n => n, fun | 9 => 9 | 4 => 4 | 3 => 3 | 5 => 5 | 117 => 173 | 116 => 172 | 0 => 0 | 124 => 176 | 21 => 21 | 105 => 201 | 46 => 80 | 119 => 210 | 139 => 213 | 138 => 212 | n => n, fun | 3 => 0 | 4 => 1 | n => n⟩
theorem Tryz.lays160 : Go.Proofs.Lays.n160 Tryz.prog Tryz.lays160_ren := {
  mixed := by kernel_rfl
  f119 := Tryz.func176.trans (congrArg some (by kernel_rfl))
  f120 := Tryz.func179.trans (congrArg some (by kernel_rfl))
  f137 := Tryz.func137.trans (congrArg some (by kernel_rfl))
  f151 := Tryz.func155.trans (congrArg some (by kernel_rfl))
  f152 := Tryz.func168.trans (congrArg some (by kernel_rfl))
  f160 := Tryz.func133.trans (congrArg some (by kernel_rfl))
  f197 := Tryz.func154.trans (congrArg some (by kernel_rfl))
  f217 := Tryz.func160.trans (congrArg some (by kernel_rfl))
  f224 := Tryz.func177.trans (congrArg some (by kernel_rfl))
  f225 := Tryz.func178.trans (congrArg some (by kernel_rfl))
  f227 := Tryz.func130.trans (congrArg some (by kernel_rfl))
  f228 := Tryz.func153.trans (congrArg some (by kernel_rfl))
  f231 := Tryz.func129.trans (congrArg some (by kernel_rfl))
  f232 := Tryz.func156.trans (congrArg some (by kernel_rfl))
  f233 := Tryz.func131.trans (congrArg some (by kernel_rfl))
  f234 := Tryz.func157.trans (congrArg some (by kernel_rfl))
  f235 := Tryz.func132.trans (congrArg some (by kernel_rfl))
  f236 := Tryz.func158.trans (congrArg some (by kernel_rfl))
  f260 := Tryz.func167.trans (congrArg some (by kernel_rfl))
  f266 := Tryz.func171.trans (congrArg some (by kernel_rfl))
  f271 := Tryz.func169.trans (congrArg some (by kernel_rfl))
  t0 := Tryz.underlying0
  a0 := Tryz.isAgg0
  z0 := Tryz.sizeOf0
  v0 := Tryz.zeroValue0
  t3 := Tryz.underlying3
  a3 := Tryz.isAgg3
  z3 := Tryz.sizeOf3
  v3 := Tryz.zeroValue3
  t4 := Tryz.underlying4
  a4 := Tryz.isAgg4
  z4 := Tryz.sizeOf4
  v4 := Tryz.zeroValue4
  t5 := Tryz.underlying5
  a5 := Tryz.isAgg5
  z5 := Tryz.sizeOf5
  v5 := Tryz.zeroValue5
  t9 := Tryz.underlying9
  a9 := Tryz.isAgg9
  z9 := Tryz.sizeOf9
  v9 := Tryz.zeroValue9
  t21 := Tryz.underlying21
  a21 := Tryz.isAgg21
  z21 := Tryz.sizeOf21
  v21 := Tryz.zeroValue21
  t46 := Tryz.underlying80
  a46 := Tryz.isAgg80
  z46 := Tryz.sizeOf80
  v46 := Tryz.zeroValue80
  t105 := Tryz.underlying201
  a105 := Tryz.isAgg201
  z105 := Tryz.sizeOf201
  v105 := Tryz.zeroValue201
  t116 := Tryz.underlying172
  a116 := Tryz.isAgg172
  z116 := Tryz.sizeOf172
  t117 := Tryz.underlying173
  a117 := Tryz.isAgg173
  z117 := Tryz.sizeOf173
  v117 := Tryz.zeroValue173
  t119 := Tryz.underlying210
  a119 := Tryz.isAgg210
  z119 := Tryz.sizeOf210
  t124 := Tryz.underlying176
  a124 := Tryz.isAgg176
  z124 := Tryz.sizeOf176
  v124 := Tryz.zeroValue176
  t138 := Tryz.underlying212
  a138 := Tryz.isAgg212
  z138 := Tryz.sizeOf212
  v138 := Tryz.zeroValue212
  t139 := Tryz.underlying213
  a139 := Tryz.isAgg213
  z139 := Tryz.sizeOf213
  v139 := Tryz.zeroValue213
  g3 := by kernel_rfl
  g4 := by kernel_rfl }
def Tryz.lays137_ren : Go.Shelf.Ren := ⟨fun | 137 => 137 | 217 => 160 | 266 => 171 | n => n, fun | 9 => 9 | 5 => 5 | 3 => 3 | n => n, fun | n => n⟩
theorem Tryz.lays137 : Go.Proofs.Lays.n137 Tryz.prog Tryz.lays137_ren := {
  mixed := by kernel_rfl
  f137 := Tryz.func137.trans (congrArg some (by kernel_rfl))
  f217 := Tryz.func160.trans (congrArg some (by kernel_rfl))
  f266 := Tryz.func171.trans (congrArg some (by kernel_rfl))
  t3 := Tryz.underlying3
  a3 := Tryz.isAgg3
  z3 := Tryz.sizeOf3
  v3 := Tryz.zeroValue3
  t5 := Tryz.underlying5
  a5 := Tryz.isAgg5
  z5 := Tryz.sizeOf5
  v5 := Tryz.zeroValue5
  t9 := Tryz.underlying9
  a9 := Tryz.isAgg9
  z9 := Tryz.sizeOf9
  v9 := Tryz.zeroValue9 }
open Go.RowKit in
theorem Tryz.strings_IndexByte (s : ByteArray) (c : Int) (w : World) :
    Calls Tryz.prog 137 #[.string s, .int .u8 c] w fun e w' => e = .returned (.int .i64 (Lib.indexByte s.data.toList c.toNat.toUInt8)) ∧ w' = w := Any.strings_IndexByte Tryz.lays137 s c w
def Tryz.lays172_ren : Go.Shelf.Ren := ⟨fun | 172 => 172 | 244 => 181 | 245 => 182 | 247 => 185 | 279 => 186 | 280 => 187 | 281 => 188 | 282 => 189 | 287 => 194 | 316 => 195 | 171 => 163 | 205 => 196 | 321 => 201 | 322 => 202 | 243 => 174 | 246 => 183 | 283 => 190 | 284 => 191 | 285 => 192 | 286 => 193 | 129 => 81 | 317 => 197 | 318 => 198 | 319 => 199 | 320 => 200 | 337 => 203 | 338 => 204 | n => n, fun | 9 => 9 | 3 => 3 | 75 => 187 | 76 => 188 | 4 => 4 | 5 => 5 | 167 => 220 | 37 => 183 | 0 => 0 | 85 => 221 | 2 => 2 | 168 => 223 | 53 => 125 | 175 => 230 | 46 => 80 | 210 => 234 | 127 => 204 | 145 => 242 | 143 => 240 | 21 => 21 | 171 => 226 | 173 => 228 | 212 => 237 | 51 => 123 | 20 => 20 | 213 => 238 | 232 => 243 | 233 => 244 | 80 => 152 | n => n, fun | 15 => 3 | 16 => 4 | 17 => 5 | 18 => 6 | 19 => 7 | n => n⟩
theorem Tryz.lays172 : Go.Proofs.Lays.n172 Tryz.prog Tryz.lays172_ren := {
  mixed := by kernel_rfl
  f129 := Tryz.func81.trans (congrArg some (by kernel_rfl))
  f171 := Tryz.func163.trans (congrArg some (by kernel_rfl))
  f172 := Tryz.func172.trans (congrArg some (by kernel_rfl))
  f205 := Tryz.func196.trans (congrArg some (by kernel_rfl))
  f243 := Tryz.func174.trans (congrArg some (by kernel_rfl))
  f244 := Tryz.func181.trans (congrArg some (by kernel_rfl))
  f245 := Tryz.func182.trans (congrArg some (by kernel_rfl))
  f246 := Tryz.func183.trans (congrArg some (by kernel_rfl))
  f247 := Tryz.func185.trans (congrArg some (by kernel_rfl))
  f279 := Tryz.func186.trans (congrArg some (by kernel_rfl))
  f280 := Tryz.func187.trans (congrArg some (by kernel_rfl))
  f281 := Tryz.func188.trans (congrArg some (by kernel_rfl))
  f282 := Tryz.func189.trans (congrArg some (by kernel_rfl))
  f283 := Tryz.func190.trans (congrArg some (by kernel_rfl))
  f284 := Tryz.func191.trans (congrArg some (by kernel_rfl))
  f285 := Tryz.func192.trans (congrArg some (by kernel_rfl))
  f286 := Tryz.func193.trans (congrArg some (by kernel_rfl))
  f287 := Tryz.func194.trans (congrArg some (by kernel_rfl))
  f316 := Tryz.func195.trans (congrArg some (by kernel_rfl))
  f317 := Tryz.func197.trans (congrArg some (by kernel_rfl))
  f318 := Tryz.func198.trans (congrArg some (by kernel_rfl))
  f319 := Tryz.func199.trans (congrArg some (by kernel_rfl))
  f320 := Tryz.func200.trans (congrArg some (by kernel_rfl))
  f321 := Tryz.func201.trans (congrArg some (by kernel_rfl))
  f322 := Tryz.func202.trans (congrArg some (by kernel_rfl))
  f337 := Tryz.func203.trans (congrArg some (by kernel_rfl))
  f338 := Tryz.func204.trans (congrArg some (by kernel_rfl))
  t0 := Tryz.underlying0
  a0 := Tryz.isAgg0
  z0 := Tryz.sizeOf0
  v0 := Tryz.zeroValue0
  t2 := Tryz.underlying2
  a2 := Tryz.isAgg2
  z2 := Tryz.sizeOf2
  v2 := Tryz.zeroValue2
  t3 := Tryz.underlying3
  a3 := Tryz.isAgg3
  z3 := Tryz.sizeOf3
  v3 := Tryz.zeroValue3
  t4 := Tryz.underlying4
  a4 := Tryz.isAgg4
  z4 := Tryz.sizeOf4
  v4 := Tryz.zeroValue4
  t5 := Tryz.underlying5
  a5 := Tryz.isAgg5
  z5 := Tryz.sizeOf5
  v5 := Tryz.zeroValue5
  t9 := Tryz.underlying9
  a9 := Tryz.isAgg9
  z9 := Tryz.sizeOf9
  v9 := Tryz.zeroValue9
  t20 := Tryz.underlying20
  a20 := Tryz.isAgg20
  z20 := Tryz.sizeOf20
  v20 := Tryz.zeroValue20
  t21 := Tryz.underlying21
  a21 := Tryz.isAgg21
  z21 := Tryz.sizeOf21
  v21 := Tryz.zeroValue21
  t37 := Tryz.underlying183
  a37 := Tryz.isAgg183
  z37 := Tryz.sizeOf183
  v37 := Tryz.zeroValue183
  t46 := Tryz.underlying80
  a46 := Tryz.isAgg80
  z46 := Tryz.sizeOf80
  v46 := Tryz.zeroValue80
  t51 := Tryz.underlying123
  a51 := Tryz.isAgg123
  z51 := Tryz.sizeOf123
  v51 := Tryz.zeroValue123
  t53 := Tryz.underlying125
  a53 := Tryz.isAgg125
  z53 := Tryz.sizeOf125
  v53 := Tryz.zeroValue125
  t75 := Tryz.underlying187
  a75 := Tryz.isAgg187
  z75 := Tryz.sizeOf187
  v75 := Tryz.zeroValue187
  t76 := Tryz.underlying188
  a76 := Tryz.isAgg188
  z76 := Tryz.sizeOf188
  v76 := Tryz.zeroValue188
  t85 := Tryz.underlying221
  a85 := Tryz.isAgg221
  z85 := Tryz.sizeOf221
  v85 := Tryz.zeroValue221
  t127 := Tryz.underlying204
  a127 := Tryz.isAgg204
  z127 := Tryz.sizeOf204
  v127 := Tryz.zeroValue204
  t143 := Tryz.underlying240
  a143 := Tryz.isAgg240
  z143 := Tryz.sizeOf240
  v143 := Tryz.zeroValue240
  t145 := Tryz.underlying242
  a145 := Tryz.isAgg242
  z145 := Tryz.sizeOf242
  v145 := Tryz.zeroValue242
  t167 := Tryz.underlying220
  a167 := Tryz.isAgg220
  z167 := Tryz.sizeOf220
  v167 := Tryz.zeroValue220
  t168 := Tryz.underlying223
  a168 := Tryz.isAgg223
  z168 := Tryz.sizeOf223
  v168 := Tryz.zeroValue223
  t171 := Tryz.underlying226
  a171 := Tryz.isAgg226
  z171 := Tryz.sizeOf226
  v171 := Tryz.zeroValue226
  t173 := Tryz.underlying228
  a173 := Tryz.isAgg228
  z173 := Tryz.sizeOf228
  v173 := Tryz.zeroValue228
  t175 := Tryz.underlying230
  a175 := Tryz.isAgg230
  z175 := Tryz.sizeOf230
  v175 := Tryz.zeroValue230
  t210 := Tryz.underlying234
  a210 := Tryz.isAgg234
  z210 := Tryz.sizeOf234
  v210 := Tryz.zeroValue234
  t212 := Tryz.underlying237
  a212 := Tryz.isAgg237
  z212 := Tryz.sizeOf237
  v212 := Tryz.zeroValue237
  t213 := Tryz.underlying238
  a213 := Tryz.isAgg238
  z213 := Tryz.sizeOf238
  t232 := Tryz.underlying243
  a232 := Tryz.isAgg243
  z232 := Tryz.sizeOf243
  v232 := Tryz.zeroValue243
  t233 := Tryz.underlying244
  a233 := Tryz.isAgg244
  z233 := Tryz.sizeOf244
  v233 := Tryz.zeroValue244
  g15 := by kernel_rfl
  g16 := by kernel_rfl
  g17 := by kernel_rfl
  g18 := by kernel_rfl
  g19 := by kernel_rfl }
open Go.RowKit in
theorem Tryz.strconv_Atoi (s : ByteArray) (n : Int) (hl : s.size ≤ 18) (h : Lib.atoi s.data.toList = some n) (w : World) :
    Calls Tryz.prog 172 #[.string s] w fun e w' => e = .returned (.tuple #[.int .i64 n, .nilIface]) ∧ ∃ t, w' = Lib.bytesWorld w 5 t := Any.strconv_Atoi Tryz.lays172 s n hl h w
def Tryz.laysM171_ren : Go.Shelf.Ren := ⟨fun | 171 => 163 | 243 => 174 | 246 => 183 | 283 => 190 | 284 => 191 | 285 => 192 | 286 => 193 | 129 => 81 | 317 => 197 | 318 => 198 | 319 => 199 | 320 => 200 | 337 => 203 | 338 => 204 | n => n, fun | 3 => 3 | 9 => 9 | 2 => 2 | 4 => 4 | 171 => 226 | 0 => 0 | 53 => 125 | 37 => 183 | 5 => 5 | 173 => 228 | 212 => 237 | 51 => 123 | 20 => 20 | 213 => 238 | 46 => 80 | 232 => 243 | 233 => 244 | n => n, fun | 17 => 5 | 18 => 6 | 19 => 7 | n => n⟩
theorem Tryz.laysM171 : Go.Proofs.LaysM.n171 Tryz.prog Tryz.laysM171_ren := {
  mixed := by kernel_rfl
  f129 := Tryz.func81.trans (congrArg some (by kernel_rfl))
  f171 := Tryz.func163.trans (congrArg some (by kernel_rfl))
  f243 := Tryz.func174.trans (congrArg some (by kernel_rfl))
  f246 := Tryz.func183.trans (congrArg some (by kernel_rfl))
  f283 := Tryz.func190.trans (congrArg some (by kernel_rfl))
  f284 := Tryz.func191.trans (congrArg some (by kernel_rfl))
  f285 := Tryz.func192.trans (congrArg some (by kernel_rfl))
  f286 := Tryz.func193.trans (congrArg some (by kernel_rfl))
  f317 := Tryz.func197.trans (congrArg some (by kernel_rfl))
  f318 := Tryz.func198.trans (congrArg some (by kernel_rfl))
  f319 := Tryz.func199.trans (congrArg some (by kernel_rfl))
  f320 := Tryz.func200.trans (congrArg some (by kernel_rfl))
  f337 := Tryz.func203.trans (congrArg some (by kernel_rfl))
  f338 := Tryz.func204.trans (congrArg some (by kernel_rfl))
  t0 := Tryz.underlying0
  a0 := Tryz.isAgg0
  z0 := Tryz.sizeOf0
  v0 := Tryz.zeroValue0
  t2 := Tryz.underlying2
  a2 := Tryz.isAgg2
  z2 := Tryz.sizeOf2
  v2 := Tryz.zeroValue2
  t3 := Tryz.underlying3
  a3 := Tryz.isAgg3
  z3 := Tryz.sizeOf3
  v3 := Tryz.zeroValue3
  t4 := Tryz.underlying4
  a4 := Tryz.isAgg4
  z4 := Tryz.sizeOf4
  v4 := Tryz.zeroValue4
  t5 := Tryz.underlying5
  a5 := Tryz.isAgg5
  z5 := Tryz.sizeOf5
  v5 := Tryz.zeroValue5
  t9 := Tryz.underlying9
  a9 := Tryz.isAgg9
  z9 := Tryz.sizeOf9
  v9 := Tryz.zeroValue9
  t20 := Tryz.underlying20
  a20 := Tryz.isAgg20
  z20 := Tryz.sizeOf20
  v20 := Tryz.zeroValue20
  t37 := Tryz.underlying183
  a37 := Tryz.isAgg183
  z37 := Tryz.sizeOf183
  v37 := Tryz.zeroValue183
  t46 := Tryz.underlying80
  a46 := Tryz.isAgg80
  z46 := Tryz.sizeOf80
  v46 := Tryz.zeroValue80
  t51 := Tryz.underlying123
  a51 := Tryz.isAgg123
  z51 := Tryz.sizeOf123
  v51 := Tryz.zeroValue123
  t53 := Tryz.underlying125
  a53 := Tryz.isAgg125
  z53 := Tryz.sizeOf125
  v53 := Tryz.zeroValue125
  t171 := Tryz.underlying226
  a171 := Tryz.isAgg226
  z171 := Tryz.sizeOf226
  v171 := Tryz.zeroValue226
  t173 := Tryz.underlying228
  a173 := Tryz.isAgg228
  z173 := Tryz.sizeOf228
  v173 := Tryz.zeroValue228
  t212 := Tryz.underlying237
  a212 := Tryz.isAgg237
  z212 := Tryz.sizeOf237
  v212 := Tryz.zeroValue237
  t213 := Tryz.underlying238
  a213 := Tryz.isAgg238
  z213 := Tryz.sizeOf238
  t232 := Tryz.underlying243
  a232 := Tryz.isAgg243
  z232 := Tryz.sizeOf243
  v232 := Tryz.zeroValue243
  t233 := Tryz.underlying244
  a233 := Tryz.isAgg244
  z233 := Tryz.sizeOf244
  v233 := Tryz.zeroValue244
  g17 := by kernel_rfl
  g18 := by kernel_rfl
  g19 := by kernel_rfl
  i0 := by kernel_rfl
  i2 := by kernel_rfl
  i3 := by kernel_rfl
  i4 := by kernel_rfl
  i5 := by kernel_rfl
  i9 := by kernel_rfl
  i20 := by kernel_rfl
  i37 := by kernel_rfl
  i46 := by kernel_rfl
  i51 := by kernel_rfl
  i53 := by kernel_rfl
  i171 := by kernel_rfl
  i173 := by kernel_rfl
  i212 := by kernel_rfl
  i232 := by kernel_rfl
  i233 := by kernel_rfl
  m17 := by kernel_rfl
  m18 := by kernel_rfl
  m19 := by kernel_rfl }
open Go.RowKit in
theorem Tryz.strconv_Itoa (n : Int) (h0 : -9223372036854775808 ≤ n) (h1 : n ≤ 9223372036854775807) (w : World) (htab : Lib.TabIs Tryz.prog w "internal/strconv.uint64pow10" .u64 Lib.pow10Tab) :
    Calls Tryz.prog 163 #[.int .i64 n] w fun e w' => e = .returned (.string ⟨(Lib.itoa n).toArray⟩) ∧ ∃ k os, w' = grow (w.drewN k) os := Any.strconv_Itoa Tryz.laysM171 n h0 h1 w htab
def Tryz.lays219_ren : Go.Shelf.Ren := ⟨fun | 219 => 170 | 217 => 160 | 225 => 178 | 224 => 177 | 267 => 180 | 266 => 171 | 314 => 184 | n => n, fun | 9 => 9 | 3 => 3 | 4 => 4 | 5 => 5 | 46 => 80 | 146 => 218 | 51 => 123 | n => n, fun | 1 => 2 | n => n⟩
theorem Tryz.lays219 : Go.Proofs.Lays.n219 Tryz.prog Tryz.lays219_ren := {
  mixed := by kernel_rfl
  f217 := Tryz.func160.trans (congrArg some (by kernel_rfl))
  f219 := Tryz.func170.trans (congrArg some (by kernel_rfl))
  f224 := Tryz.func177.trans (congrArg some (by kernel_rfl))
  f225 := Tryz.func178.trans (congrArg some (by kernel_rfl))
  f266 := Tryz.func171.trans (congrArg some (by kernel_rfl))
  f267 := Tryz.func180.trans (congrArg some (by kernel_rfl))
  f314 := Tryz.func184.trans (congrArg some (by kernel_rfl))
  t3 := Tryz.underlying3
  a3 := Tryz.isAgg3
  z3 := Tryz.sizeOf3
  v3 := Tryz.zeroValue3
  t4 := Tryz.underlying4
  a4 := Tryz.isAgg4
  z4 := Tryz.sizeOf4
  v4 := Tryz.zeroValue4
  t5 := Tryz.underlying5
  a5 := Tryz.isAgg5
  z5 := Tryz.sizeOf5
  v5 := Tryz.zeroValue5
  t9 := Tryz.underlying9
  a9 := Tryz.isAgg9
  z9 := Tryz.sizeOf9
  v9 := Tryz.zeroValue9
  t46 := Tryz.underlying80
  a46 := Tryz.isAgg80
  z46 := Tryz.sizeOf80
  v46 := Tryz.zeroValue80
  t51 := Tryz.underlying123
  a51 := Tryz.isAgg123
  z51 := Tryz.sizeOf123
  v51 := Tryz.zeroValue123
  t146 := Tryz.underlying218
  a146 := Tryz.isAgg218
  z146 := Tryz.sizeOf218
  v146 := Tryz.zeroValue218
  g1 := by kernel_rfl }
open Go.RowKit in
theorem Tryz.stringslite_Index_one (s : ByteArray) (c : UInt8) (w : World) :
    Calls Tryz.prog 170 #[.string s, .string ⟨#[c]⟩] w fun e w' => e = .returned (.int .i64 (Lib.indexByte s.data.toList c)) ∧ w' = w := Any.stringslite_Index_one Tryz.lays219 s c w
def Tryz.laysNm215_ren : Go.Shelf.Ren := ⟨fun | 15 => 119 | n => n, fun | 22 => 127 | 3 => 3 | 4 => 4 | n => n, fun | n => n⟩
theorem Tryz.laysNm215 : Go.Proofs.Lays2.n15 Tryz.prog Tryz.laysNm215_ren := {
  mixed := by kernel_rfl
  f15 := Tryz.func119.trans (congrArg some (by kernel_rfl))
  t3 := Tryz.underlying3
  a3 := Tryz.isAgg3
  z3 := Tryz.sizeOf3
  v3 := Tryz.zeroValue3
  t4 := Tryz.underlying4
  a4 := Tryz.isAgg4
  z4 := Tryz.sizeOf4
  v4 := Tryz.zeroValue4
  t22 := Tryz.underlying127
  a22 := Tryz.isAgg127
  z22 := Tryz.sizeOf127
  v22 := Tryz.zeroValue127
  i3 := by kernel_rfl }
open Go.RowKit in
theorem Tryz.slices_Clone_int (b off n c : Nat) (zs : List Int) (w : World) (hz : n ≤ zs.length) (hbig : n * 8 ≤ 140737488355328) (hc : ∀ j, j < zs.length → w.cell? ⟨b, off + j, none⟩ = some (.int .i64 (zs.getD j 0))) :
    Calls Tryz.prog 119 #[.slice (some ⟨b, off, none⟩) n c] w fun e w' => ∃ v', e = .returned v' ∧ w'.ownsRow w.heap.size 3 1 v' n ((zs.take n).map (Value.int .i64)) ∧ v' ≠ .slice none 0 0 ∧ Below w.heap.size w w' := Any.slices_Clone_int Tryz.laysNm215 b off n c zs w hz hbig hc
open Go.RowKit in
theorem Tryz.slices_Clone_int_nil (n c : Nat) (w : World) :
    Calls Tryz.prog 119 #[.slice none n c] w fun e w' => e = .returned (.slice none 0 0) ∧ w' = w := Any.slices_Clone_int_nil Tryz.laysNm215 n c w
open Go.RowKit in
theorem Tryz.slices_Clone_int_zero (a : Addr) (c : Nat) (w : World) :
    Calls Tryz.prog 119 #[.slice (some a) 0 c] w fun e w' => ∃ v', e = .returned v' ∧ w'.ownsRow w.heap.size 3 1 v' 0 [] ∧ v' ≠ .slice none 0 0 ∧ Below w.heap.size w w' := Any.slices_Clone_int_zero Tryz.laysNm215 a c w
end Go.Proofs
namespace Go.Proofs.YtjajpilacdfnbaaGreatDoor
open Am C
set_option linter.unusedSimpArgs false
set_option linter.unusedVariables false
section
open Go Go.RowKit
theorem Am.AC.belowS {P : Program} {f : FuncId} {args : List V} {H : Hp} {v : V} (hok : yly P f = true)
    (h : ∀ (κ : K) (cs : List Value), Sim κ H → VRs κ args cs → ∃ cv, (∀ κ' : K, VR κ' v cv) ∧ Calls P f cs.toArray κ.w (fun e w' => e = .returned cv ∧ Below κ.w.heap.size κ.w w')) : AC P f args H (fun r H' => r = v ∧ H' = H) :=
  ⟨hok, fun κ cs S r => by
    obtain ⟨cv, hv, hc⟩ := h κ cs S r
    exact hc.mono fun e w' ⟨he, hb⟩ => ⟨{ κ with w := w' }, v, cv, H, he, rfl, K.below_le S hb, S.below hb, hv _, rfl, rfl⟩⟩
end
theorem vr_s {κ : K} {x : Str} {c : Go.Value} (h : VR κ (.s x) c) : c = .string ⟨x.toArray⟩ := by cases h; rfl
theorem vr_i {κ : K} {k : Go.IntKind} {n : Int} {c : Go.Value} (h : VR κ (.i k n) c) : c = .int k n := by cases h; rfl
theorem yct (s : Str) (c : UInt8) (H : Hp) : AC Tryz.prog 137 [.s s, .i .u8 c.toNat] H (fun v H' => v = .i .i64 (Go.Lib.indexByte s c) ∧ H' = H) := by
  refine AC.below (by kernel_rfl) fun κ cs r => ?_
  obtain ⟨a, b, rfl, ra, rb⟩ := r.two'
  obtain rfl := vr_s ra
  obtain rfl := vr_i rb
  refine ⟨_, fun κ' => .i _ _, ?_⟩
  refine (Tryz.strings_IndexByte ⟨s.toArray⟩ (c.toNat : Int) κ.w).mono fun e w' ⟨he, hw⟩ => ⟨?_, ?_⟩
  · rw [he]; simp
  · rw [hw]; exact .refl _ _
theorem pow10_of {κ : K} {H : Hp} (S : Sim κ H) : Go.Lib.TabIs Tryz.prog κ.w "internal/strconv.uint64pow10" .u64 Go.Lib.pow10Tab := by
  obtain ⟨_, ty, fr, h⟩ := S.tb (TBs[0]'(by decide)) (List.getElem_mem _)
  unfold Go.Lib.TabIs Go.World.var?
  rw [show Tryz.prog.globalNamed "internal/strconv.uint64pow10" = some 5 by kernel_rfl]
  simp only [Option.bind_some]
  have h' : κ.w.heap[5]? = some (Go.Obj.cells (TBs[0]'(by decide)).2.toArray ty fr) := h
  rw [h']
  rfl
theorem yi3 (s t : Str) (ht : t.length < 4294967281) (ha : t.all (fun b => decide (b.toNat < 128)) = true) (H : Hp) : AC Tryz.prog 97 [.s s, .s t] H (fun v H' => v = .s (s.dropWhile (t.contains ·)) ∧ H' = H) := by
  refine AC.below (by kernel_rfl) fun κ cs r => ?_
  obtain ⟨a, b, rfl, ra, rb⟩ := r.two'
  obtain rfl := vr_s ra
  obtain rfl := vr_s rb
  refine ⟨_, fun κ' => .s _, ?_⟩
  refine (Go.Proofs.Any.strings_TrimLeft_laid Tryz.lays161 (by kernel_rfl) ⟨s.toArray⟩ ⟨t.toArray⟩ κ.w (show t.toArray.size < 4294967281 by simpa using ht) (by simpa using Go.Proofs.ascii_of_all ha)).mono fun e w' ⟨he, hw⟩ => ⟨?_, hw⟩
  rw [he]; rfl
theorem Atoi_ok (s : Str) (n : Int) (hl : s.length ≤ 18) (h : Go.Lib.atoi s = some n) (H : Hp) : AC Tryz.prog 172 [.s s] H (fun v H' => v = .tup [.i .i64 n, .nifc] ∧ H' = H) := by
  refine AC.below (by kernel_rfl) fun κ cs r => ?_
  obtain ⟨a, rfl, ra⟩ := r.one'
  obtain rfl := vr_s ra
  refine ⟨_, fun κ' => VR.tupOf (.cons' (.i _ _) (.cons' .nifc (.nil' _))), ?_⟩
  refine (Tryz.strconv_Atoi ⟨s.toArray⟩ n (show s.toArray.size ≤ 18 by simpa using hl) (by simpa using h) κ.w).mono fun e w' ⟨he, t, hw⟩ => ⟨?_, ?_⟩
  · rw [he]
  · rw [hw]; exact Go.Lib.bytesWorld_below _ _ _
end Go.Proofs.YtjajpilacdfnbaaGreatDoor
namespace Go.Proofs.YtjajpilacdfnbaaGreatDoor
open Am C
set_option linter.unusedSimpArgs false
set_option linter.unusedVariables false
section
open Go Go.RowKit
theorem Am.AC.row {P : Program} {f : FuncId} {args : List V} {H : Hp} {es : List (List V)} {T sz : Nat} (hok : yly P f = true) (hes : ∀ e ∈ es, e.length = sz)
    (h : ∀ (κ : K) (cs : List Value), Sim κ H → VRs κ args cs → ∃ cv : Nat → Nat → Value, (∀ (κ' : K) (i j : Nat) e v, es[i]? = some e → e[j]? = some v → VR κ' v (cv i j)) ∧
      Calls P f cs.toArray κ.w (fun e w' => ∃ v' xs, e = .returned v' ∧ w'.ownsRow κ.w.heap.size T sz v' es.length xs ∧ (∀ (i j : Nat) e v, es[i]? = some e → e[j]? = some v → xs[i * sz + j]? = some (cv i j)) ∧ RowKit.Below κ.w.heap.size κ.w w')) :
    AC P f args H (fun r H' => r = .fs es ∧ H' = H) := by
  refine ⟨hok, fun κ cs S r => ?_⟩
  obtain ⟨cv, hv, hc⟩ := h κ cs S r
  refine hc.mono fun e w' ⟨v', xs, he, ho, hx, hb⟩ => ?_
  obtain ⟨hlen, ⟨rfl, h0⟩ | ⟨g, cap, cur, rfl, hg, hgb, hcap, hmax, hsz, htake⟩⟩ := ho
  · have hnil : es = [] := List.length_eq_zero_iff.1 h0
    subst hnil
    exact ⟨{ κ with w := w' }, .fs [], .slice none 0 0, H, he, rfl, K.below_le S hb, S.below hb, .fs (κ := { κ with w := w' }) [] 0 sz 0 0 none (fun _ _ => undef) (Nat.le_refl _) (fun e h => by simp at h) (fun _ => rfl) (fun h => absurd rfl h) (fun i j e v h => by simp at h) (fun i j e v h => by simp at h), rfl, rfl⟩
  · have S' := S.below hb
    have le := K.below_le S hb
    let κ2 : K := { κ with w := w', fz := fun b => κ.fz b ∨ b = g, ic := fun b => κ.ic b ∨ b = g }
    have gl : g < w'.heap.size := lt_of_some hgb
    have le2 : κ.Le κ2 := ⟨le.ok, fun b h => ⟨.inl h, (le.fz b h).2⟩, fun b h => ⟨.inl h, (le.ic b h).2⟩, fun b h => h.elim .inl fun h => .inr (.inl (by rw [h]; exact hg)), le.n, le.size, le.os, le.tape, le.output, le.hole, le.base, le.lps⟩
    have le3 : K.Le { κ with w := w' } κ2 := ⟨fun _ _ h => ⟨h, rfl⟩, fun _ h => ⟨.inl h, rfl⟩, fun _ h => ⟨.inl h, rfl⟩, fun b h => h.elim .inl fun h => .inr (.inr (by subst h; intro hf; have := S.fz _ hf; omega)), fun _ _ h => h, Nat.le_refl _, rfl, rfl, rfl, fun _ h => ⟨h, fun _ o => o⟩, rfl, fun _ r h => ⟨r, h⟩⟩
    have plt : ∀ {id e cs}, Placed κ id e cs → (κ.pl id e).1 < κ.w.heap.size := fun ⟨⟨arr, t, fr, hb, _⟩, _⟩ => lt_of_some hb
    refine ⟨κ2, .fs es, _, H, he, rfl, le2, ⟨S'.ok, S'.hole, S'.lt, fun b h => h.elim (S'.fz b) fun h => by rw [h]; exact gl, fun b h => h.elim (fun h => .inl (S'.ic b h)) .inr, S'.le, fun id cs m hm e h1 h2 => ?_, fun id o ho => ?_, S'.sep, S'.base, S'.sepm, S'.tb.mono le3⟩, ?_, rfl, rfl⟩
    · have P0 := S.cells id cs m hm e h1 h2
      have hlt := plt P0
      obtain ⟨⟨arr, t, fr, hb', hs, hv', hf⟩, hz⟩ := S'.cells id cs m hm e h1 h2
      refine ⟨⟨arr, t, fr, hb', hs, fun j v a b => (hv' j v a b).mono le3, hf⟩, ?_⟩
      rintro (h | h)
      · exact hz h
      · have : (κ.pl id e).1 = g := h
        omega
    · obtain ⟨⟨x0, hb0, _⟩, _⟩ := S.maps id o ho
      obtain ⟨⟨x, hb', ho'⟩, hz⟩ := S'.maps id o ho
      refine ⟨⟨x, hb', ho'.mono le3⟩, ?_⟩
      rintro (h | h)
      · exact hz h
      · have h1 : (κ.pl id 0).1 = g := h
        have := lt_of_some hb0
        omega
    · refine .fs (κ := κ2) es cap sz g 0 (some ⟨g, 0, none⟩) cv hcap hes (fun h => by cases h) (fun _ => ⟨rfl, .inr rfl⟩) (fun i j e v hi hj => ?_) (fun i j e v hi hj => hv κ2 i j e v hi hj)
      have h1 := hx i j e v hi hj
      rw [← htake, List.getElem?_take] at h1
      split at h1
      · show w'.cell? ⟨g, 0 + i * sz + j, none⟩ = some (cv i j)
        simp only [World.cell?, hgb, Nat.zero_add]
        rw [← Array.getElem?_toList]
        exact h1
      · cases h1
end
theorem ylb (l : List Str) : ∀ e ∈ l.map (fun x => [V.s x]), e.length = 1 := fun e he => by
  obtain ⟨x, _, rfl⟩ := List.mem_map.1 he; rfl
theorem ns_len (l : List Nat) : ∀ e ∈ l.map (fun n => [V.i .i64 (n : Nat)]), e.length = 1 := fun e he => by
  obtain ⟨x, _, rfl⟩ := List.mem_map.1 he; rfl
end Go.Proofs.YtjajpilacdfnbaaGreatDoor
namespace Go.Proofs.YtjajpilacdfnbaaGreatDoor
open Am C
set_option linter.unusedSimpArgs false
set_option linter.unusedVariables false
abbrev Fact := Str × List Str
def fcs (f : Fact) : List V := [.s f.1, ss f.2]
def IdxInv (l : List Str) (x : Str) (H : Hp) (m : Nat) (F : Fr) (H' : Hp) : Prop :=
  ∃ i, i ≤ l.length ∧ m = l.length - i ∧ x ∉ l.take i ∧ H' = H ∧ F = [(0, ss l), (1, .s x), (7, .i .i64 l.length), (8, .i .i64 i)]
theorem Index_ok (l : List Str) (x : Str) (hl : l.length ≤ 9223372036854775807) (H : Hp) : AC Tryz.prog y4t [ss l, .s x] H (fun v H' => v = .i .i64 (ye3 l x) ∧ H' = H) := by
  refine AC.code yv.at yv.ok ?_
  simp only [yv]
  refine AX.sr ?_
  simp [yv.r0]
  refine AX.seq (AX.seq (AX.reg ?_))
  simp [yv.r1, ss]
  refine AX.pblock (AX.loop (IdxInv l x H) l.length ⟨_, _, .refl _ _, 0, by omega, by omega, by simp, rfl, rfl⟩ ?_)
  rintro m F H' ⟨i, hi, rfl, hx, rfl, rfl⟩
  simp only [yv.l0]
  refine AX.sr ?_
  simp [yv.r2]
  refine AX.seq (AX.pcond rfl (fun hc => AX.skip ?_) (fun hc => AX.exit ?_))
  · simp at hc
    simp
    refine AX.seq (AX.pblock (AX.seq (AX.reg ?_)))
    simp [yv.r3]
    refine AX.sr ?_
    simp [yv.r4, ss, hc]
    refine AX.pcond rfl (fun hd => ?_) (fun hd => AX.skip ?_)
    · simp at hd
      refine AX.sr ?_
      simp [yv.r5]
      refine AX.ret ?_
      simp
      exact (yhl (by rw [List.getElem?_eq_getElem hc, hd]) hx).symm
    simp at hd
    simp
    refine AX.reg ?_
    simp [yv.r6, y2j hc hl]
    refine ⟨l.length - (i + 1), by omega, _, _, .refl _ _, i + 1, by omega, rfl, ?_, rfl, by simp [ss]⟩
    rw [List.take_add_one, List.getElem?_eq_getElem hc]
    intro hm
    rcases List.mem_append.1 hm with hm | hm
    · exact hx hm
    · simp at hm; exact hd hm
  simp at hc
  rw [List.take_of_length_le hc] at hx
  have h1 := yar.2 hx
  have h2 := yf6 l x
  simp
  refine AX.sr ?_
  simp [yv.r7]
  refine AX.ret ?_
  simp; omega
theorem numV_in (l : List Str) (x : Str) : (0 ≤ ye3 l x) = (x ∈ l) := by
  have h2 := yf6 l x
  refine propext ⟨fun h => Classical.byContradiction fun hc => by have := yar.2 hc; omega, fun h => ?_⟩
  rcases Int.lt_or_le (ye3 l x) 0 with h3 | h3
  · exact absurd h (yar.1 h3)
  · exact h3
theorem ybd (l : List Str) (x : Str) (hl : l.length ≤ 9223372036854775807) (H : Hp) : AC Tryz.prog y3r [ss l, .s x] H (fun v H' => v = .b (decide (x ∈ l)) ∧ H' = H) := by
  refine AC.code y24.at y24.ok ?_
  simp only [y24]
  refine AX.sr ?_
  simp [y24.r0]
  refine AX.sr ?_
  simp [y24.r1]
  refine AC.fix (Index_ok l x hl _) ?_
  simp [numV_in]
  refine AX.ret ?_
  simp
@[simp] theorem fcs_len (f : Fact) : (fcs f).length = 2 := rfl
@[simp] theorem fcs_take (f : Fact) : (fcs f).take 2 = fcs f := rfl
def yhs {α : Type} (p : α → Bool) : List α → Int
  | [] => -1
  | y :: r => if p y then 0 else if yhs p r < 0 then -1 else yhs p r + 1
theorem ybs {α : Type} {p : α → Bool} {l : List α} (h : l.find? p = none) : yhs p l = -1 := by
  induction l with
  | nil => rfl
  | cons y r ih =>
    simp only [List.find?_cons] at h
    cases hp : p y with
    | true => rw [hp] at h; cases h
    | false => rw [hp] at h; simp [yhs, hp, ih h]
theorem ymd {α : Type} {p : α → Bool} {l : List α} {i : Nat} {x : α} (h : l[i]? = some x) (hp : p x = true) (hn : (l.take i).find? p = none) : yhs p l = i := by
  induction l generalizing i with
  | nil => simp at h
  | cons y r ih =>
    cases i with
    | zero => simp at h; subst h; simp [yhs, hp]
    | succ i =>
      simp only [List.getElem?_cons_succ] at h
      simp only [List.take_succ_cons, List.find?_cons] at hn
      cases hy : p y with
      | true => rw [hy] at hn; cases hn
      | false =>
        rw [hy] at hn
        have := ih h hn
        simp only [yhs, hy, this]
        simp
theorem ymm {α : Type} {p : α → Bool} {l : List α} {x : α} (h : l.find? p = some x) : ∃ i : Nat, i < l.length ∧ l[i]? = some x ∧ yhs p l = i := by
  induction l with
  | nil => cases h
  | cons y r ih =>
    simp only [List.find?_cons] at h
    cases hp : p y with
    | true => rw [hp] at h; injection h with h; subst h; exact ⟨0, by simp, rfl, by simp [yhs, hp]⟩
    | false =>
      rw [hp] at h
      obtain ⟨i, h1, h2, h3⟩ := ih h
      exact ⟨i + 1, by simp; omega, by simpa using h2, by simp only [yhs, hp, h3]; simp⟩
end Go.Proofs.YtjajpilacdfnbaaGreatDoor
namespace Go.Proofs.YtjajpilacdfnbaaGreatDoor
open Am C
set_option linter.unusedSimpArgs false
set_option linter.unusedVariables false
def IdxGInv (l : List Str) (g : V) (p : Str → Bool) (H : Hp) (m : Nat) (F : Fr) (H' : Hp) : Prop :=
  ∃ i, i ≤ l.length ∧ m = l.length - i ∧ (l.take i).find? p = none ∧ H' = H ∧ F = [(0, ss l), (1, g), (7, .i .i64 l.length), (8, .i .i64 i)]
theorem yfz (l : List Str) (f : Go.FuncId) (caps : List V) (p : Str → Bool) (hl : l.length ≤ 9223372036854775807) (H : Hp) (hf : ∀ x ∈ l, AC Tryz.prog f (.s x :: caps) H (fun v H' => v = .b (p x) ∧ H' = H)) :
    AC Tryz.prog y4h [ss l, .fn f caps] H (fun v H' => v = .i .i64 (yhs p l) ∧ H' = H) := by
  refine AC.code yo.at yo.ok ?_
  simp only [yo]
  refine AX.sr ?_
  simp [yo.r0]
  refine AX.seq (AX.seq (AX.reg ?_))
  simp [yo.r1, ss]
  refine AX.pblock (AX.loop (IdxGInv l (.fn f caps) p H) l.length ⟨_, _, .refl _ _, 0, by omega, by omega, by simp, rfl, rfl⟩ ?_)
  rintro m F H' ⟨i, hi, rfl, hx, rfl, rfl⟩
  simp only [yo.l0]
  refine AX.sr ?_
  simp [yo.r2]
  refine AX.seq (AX.pcond rfl (fun hc => AX.skip ?_) (fun hc => AX.exit ?_))
  · simp at hc
    simp
    refine AX.seq (AX.pblock (AX.seq (AX.reg ?_)))
    simp [yo.r3]
    refine AX.sr ?_
    simp [yo.r4, ss, hc]
    refine AC.fix (hf _ (List.getElem_mem hc)) ?_
    simp
    refine AX.pcond rfl (fun hd => ?_) (fun hd => AX.skip ?_)
    · refine AX.sr ?_
      simp [yo.r5]
      refine AX.ret ?_
      simp
      exact (ymd (List.getElem?_eq_getElem hc) hd hx).symm
    simp
    refine AX.reg ?_
    simp [yo.r6, y2j hc hl]
    refine ⟨l.length - (i + 1), by omega, _, _, .refl _ _, i + 1, by omega, rfl, ?_, rfl, by simp [ss]⟩
    rw [List.take_add_one, List.getElem?_eq_getElem hc, List.find?_append, hx]
    simp [hd]
  simp at hc
  rw [List.take_of_length_le hc] at hx
  simp
  refine AX.sr ?_
  simp [yo.r7]
  refine AX.ret ?_
  simp [ybs hx]
theorem y8x (l : List Str) (f : Go.FuncId) (caps : List V) (p : Str → Bool) (hl : l.length ≤ 9223372036854775807) (H : Hp) (hf : ∀ x ∈ l, AC Tryz.prog f (.s x :: caps) H (fun v H' => v = .b (p x) ∧ H' = H)) :
    AC Tryz.prog y3d [ss l, .fn f caps] H (fun v H' => v = .b (l.any p) ∧ H' = H) := by
  refine AC.code y20.at y20.ok ?_
  simp only [y20]
  refine AX.sr ?_
  simp [y20.r0]
  refine AX.sr ?_
  simp [y20.r1]
  refine AC.fix (yfz l f caps p hl _ hf) ?_
  simp
  refine AX.ret ?_
  have e : decide (0 ≤ yhs p l) = l.any p := by
    cases hf : l.find? p with
    | none =>
      rw [ybs hf]
      have : l.any p = false := by rw [List.any_eq_false]; intro x hx; exact List.find?_eq_none.1 hf x hx
      rw [this]; rfl
    | some x =>
      obtain ⟨i, h1, h2, h3⟩ := ymm hf
      rw [h3]
      have : l.any p = true := List.any_eq_true.2 ⟨x, List.mem_of_find?_eq_some hf, List.find?_some hf⟩
      rw [this]; simp
  simp [e]
end Go.Proofs.YtjajpilacdfnbaaGreatDoor
