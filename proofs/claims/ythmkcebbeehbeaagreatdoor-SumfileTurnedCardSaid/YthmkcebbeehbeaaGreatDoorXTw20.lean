/- Part 20 of the proof of the laws of the queries: QLib, QLib2, QBld. -/
import Derived.Shelf.Strings.SlTrimAscii
import Derived.Shelf.Strings.Search1
import Derived.Shelf.Strings.Search2
import Derived.Shelf.Strings.Builder1
import Derived.Shelf.Strconv.Atoi
import Derived.Shelf.Strconv.Itoa3
import Derived.Shelf.Small.Strs
import Derived.Shelf.LaysM
import Derived.Lib.LaidTab
import Derived.Lib.AtoiErrMem
import Derived.Lib.AppendIntMem
import Derived.Shelf.Slices.Clone
import Derived.WalkKit
import Derived.BigCall
import Derived.Test.YthmkcebbeehbeaaGreatDoorXTw19
set_option linter.unusedSimpArgs false
set_option linter.unusedVariables false
namespace Go.Proofs
open Go.Shelf Go.RowKit Go.Sort Go.Lib
def Tryz.lays169_ren:Go.Shelf.Ren:=⟨fun | 169=>80 | n=>n,fun | 70=>54 | 9=>9 | 0=>0 | 72=>56 | 37=>41 | 127=>190 | 3=>3 | 5=>5 | n=>n,fun | n=>n⟩
theorem Tryz.lays169:Go.Proofs.Lays.n169 Tryz.prog Tryz.lays169_ren:={
  mixed:=by kernel_rfl
  f169:=Tryz.func80.trans (congrArg some (by kernel_rfl))
  t0:=Tryz.underlying0
  a0:=Tryz.isAgg0
  z0:=Tryz.sizeOf0
  v0:=Tryz.zeroValue0
  t3:=Tryz.underlying3
  a3:=Tryz.isAgg3
  z3:=Tryz.sizeOf3
  v3:=Tryz.zeroValue3
  t9:=Tryz.underlying9
  a9:=Tryz.isAgg9
  z9:=Tryz.sizeOf9
  v9:=Tryz.zeroValue9
  t37:=Tryz.underlying41
  a37:=Tryz.isAgg41
  z37:=Tryz.sizeOf41
  v37:=Tryz.zeroValue41
  t70:=Tryz.underlying54
  a70:=Tryz.isAgg54
  z70:=Tryz.sizeOf54
  v70:=Tryz.zeroValue54
  t72:=Tryz.underlying56
  a72:=Tryz.isAgg56
  z72:=Tryz.sizeOf56
  v72:=Tryz.zeroValue56
  t127:=Tryz.underlying190
  a127:=Tryz.isAgg190
  z127:=Tryz.sizeOf190
  v127:=Tryz.zeroValue190 }
theorem Tryz.Builder_Extra_169:Builder.Extra Tryz.prog Tryz.lays169_ren:={
  sizeBuilder:=by kernel_rfl
  liesBuilder:=by kernel_rfl
  t5:=Tryz.underlying5
  a5:=Tryz.isAgg5
  z5:=Tryz.sizeOf5
  v5:=Tryz.zeroValue5
  infoByte:=by kernel_rfl
  cellsByte:=by kernel_rfl
  sizeByte:=by kernel_rfl
  neB5:=by decide }
open Go.RowKit in
theorem Tryz.Builder_String_any (B b:Nat) (l:List UInt8) (w:World) (h:Lib.IsBuilder 56 5 B b (Lib.byteCells l) w) (hBw:B≤w.heap.size):
    Calls Tryz.prog 80 #[.pointer (some ⟨b,0,none⟩)] w fun e w'=>e=.returned (.string ⟨l.toArray⟩)∧Below B w w':=Any.Builder_String_any Tryz.lays169 Tryz.Builder_Extra_169 B b l w h hBw
def Tryz.lays161_ren:Go.Shelf.Ren:=⟨fun | 161=>167 | 231=>192 | 227=>193 | 233=>194 | 235=>195 | 228=>212 | 197=>213 | 151=>214 | 260=>225 | 152=>226 | 137=>201 | 119=>233 | 224=>234 | 225=>235 | 217=>219 | 266=>229 | n=>n,fun | 9=>9 | 4=>4 | 3=>3 | 5=>5 | 117=>228 | 116=>227 | 0=>0 | 124=>231 | 105=>242 | 21=>21 | 119=>247 | 46=>124 | 139=>250 | 138=>249 | n=>n,fun | 3=>0 | 4=>1 | n=>n⟩
theorem Tryz.lays161:Go.Proofs.Lays.n161 Tryz.prog Tryz.lays161_ren:={
  mixed:=by kernel_rfl
  f119:=Tryz.func233.trans (congrArg some (by kernel_rfl))
  f137:=Tryz.func201.trans (congrArg some (by kernel_rfl))
  f151:=Tryz.func214.trans (congrArg some (by kernel_rfl))
  f152:=Tryz.func226.trans (congrArg some (by kernel_rfl))
  f161:=Tryz.func167.trans (congrArg some (by kernel_rfl))
  f197:=Tryz.func213.trans (congrArg some (by kernel_rfl))
  f217:=Tryz.func219.trans (congrArg some (by kernel_rfl))
  f224:=Tryz.func234.trans (congrArg some (by kernel_rfl))
  f225:=Tryz.func235.trans (congrArg some (by kernel_rfl))
  f227:=Tryz.func193.trans (congrArg some (by kernel_rfl))
  f228:=Tryz.func212.trans (congrArg some (by kernel_rfl))
  f231:=Tryz.func192.trans (congrArg some (by kernel_rfl))
  f233:=Tryz.func194.trans (congrArg some (by kernel_rfl))
  f235:=Tryz.func195.trans (congrArg some (by kernel_rfl))
  f260:=Tryz.func225.trans (congrArg some (by kernel_rfl))
  f266:=Tryz.func229.trans (congrArg some (by kernel_rfl))
  t0:=Tryz.underlying0
  a0:=Tryz.isAgg0
  z0:=Tryz.sizeOf0
  v0:=Tryz.zeroValue0
  t3:=Tryz.underlying3
  a3:=Tryz.isAgg3
  z3:=Tryz.sizeOf3
  v3:=Tryz.zeroValue3
  t4:=Tryz.underlying4
  a4:=Tryz.isAgg4
  z4:=Tryz.sizeOf4
  v4:=Tryz.zeroValue4
  t5:=Tryz.underlying5
  a5:=Tryz.isAgg5
  z5:=Tryz.sizeOf5
  v5:=Tryz.zeroValue5
  t9:=Tryz.underlying9
  a9:=Tryz.isAgg9
  z9:=Tryz.sizeOf9
  v9:=Tryz.zeroValue9
  t21:=Tryz.underlying21
  a21:=Tryz.isAgg21
  z21:=Tryz.sizeOf21
  v21:=Tryz.zeroValue21
  t46:=Tryz.underlying124
  a46:=Tryz.isAgg124
  z46:=Tryz.sizeOf124
  v46:=Tryz.zeroValue124
  t105:=Tryz.underlying242
  a105:=Tryz.isAgg242
  z105:=Tryz.sizeOf242
  v105:=Tryz.zeroValue242
  t116:=Tryz.underlying227
  a116:=Tryz.isAgg227
  z116:=Tryz.sizeOf227
  t117:=Tryz.underlying228
  a117:=Tryz.isAgg228
  z117:=Tryz.sizeOf228
  v117:=Tryz.zeroValue228
  t119:=Tryz.underlying247
  a119:=Tryz.isAgg247
  z119:=Tryz.sizeOf247
  t124:=Tryz.underlying231
  a124:=Tryz.isAgg231
  z124:=Tryz.sizeOf231
  v124:=Tryz.zeroValue231
  t138:=Tryz.underlying249
  a138:=Tryz.isAgg249
  z138:=Tryz.sizeOf249
  v138:=Tryz.zeroValue249
  t139:=Tryz.underlying250
  a139:=Tryz.isAgg250
  z139:=Tryz.sizeOf250
  v139:=Tryz.zeroValue250
  g3:=by kernel_rfl
  g4:=by kernel_rfl }
def Tryz.lays160_ren:Go.Shelf.Ren:=⟨fun | 160=>196 | 232=>215 | 231=>192 | 227=>193 | 234=>216 | 233=>194 | 236=>217 | 235=>195 | 228=>212 | 271=>227 | 151=>214 | 197=>213 | 120=>236 | 152=>226 | 260=>225 | 137=>201 | 119=>233 | 224=>234 | 225=>235 | 217=>219 | 266=>229 | n=>n,fun | 9=>9 | 4=>4 | 3=>3 | 5=>5 | 117=>228 | 116=>227 | 0=>0 | 124=>231 | 21=>21 | 105=>242 | 46=>124 | 119=>247 | 139=>250 | 138=>249 | n=>n,fun | 3=>0 | 4=>1 | n=>n⟩
theorem Tryz.lays160:Go.Proofs.Lays.n160 Tryz.prog Tryz.lays160_ren:={
  mixed:=by kernel_rfl
  f119:=Tryz.func233.trans (congrArg some (by kernel_rfl))
  f120:=Tryz.func236.trans (congrArg some (by kernel_rfl))
  f137:=Tryz.func201.trans (congrArg some (by kernel_rfl))
  f151:=Tryz.func214.trans (congrArg some (by kernel_rfl))
  f152:=Tryz.func226.trans (congrArg some (by kernel_rfl))
  f160:=Tryz.func196.trans (congrArg some (by kernel_rfl))
  f197:=Tryz.func213.trans (congrArg some (by kernel_rfl))
  f217:=Tryz.func219.trans (congrArg some (by kernel_rfl))
  f224:=Tryz.func234.trans (congrArg some (by kernel_rfl))
  f225:=Tryz.func235.trans (congrArg some (by kernel_rfl))
  f227:=Tryz.func193.trans (congrArg some (by kernel_rfl))
  f228:=Tryz.func212.trans (congrArg some (by kernel_rfl))
  f231:=Tryz.func192.trans (congrArg some (by kernel_rfl))
  f232:=Tryz.func215.trans (congrArg some (by kernel_rfl))
  f233:=Tryz.func194.trans (congrArg some (by kernel_rfl))
  f234:=Tryz.func216.trans (congrArg some (by kernel_rfl))
  f235:=Tryz.func195.trans (congrArg some (by kernel_rfl))
  f236:=Tryz.func217.trans (congrArg some (by kernel_rfl))
  f260:=Tryz.func225.trans (congrArg some (by kernel_rfl))
  f266:=Tryz.func229.trans (congrArg some (by kernel_rfl))
  f271:=Tryz.func227.trans (congrArg some (by kernel_rfl))
  t0:=Tryz.underlying0
  a0:=Tryz.isAgg0
  z0:=Tryz.sizeOf0
  v0:=Tryz.zeroValue0
  t3:=Tryz.underlying3
  a3:=Tryz.isAgg3
  z3:=Tryz.sizeOf3
  v3:=Tryz.zeroValue3
  t4:=Tryz.underlying4
  a4:=Tryz.isAgg4
  z4:=Tryz.sizeOf4
  v4:=Tryz.zeroValue4
  t5:=Tryz.underlying5
  a5:=Tryz.isAgg5
  z5:=Tryz.sizeOf5
  v5:=Tryz.zeroValue5
  t9:=Tryz.underlying9
  a9:=Tryz.isAgg9
  z9:=Tryz.sizeOf9
  v9:=Tryz.zeroValue9
  t21:=Tryz.underlying21
  a21:=Tryz.isAgg21
  z21:=Tryz.sizeOf21
  v21:=Tryz.zeroValue21
  t46:=Tryz.underlying124
  a46:=Tryz.isAgg124
  z46:=Tryz.sizeOf124
  v46:=Tryz.zeroValue124
  t105:=Tryz.underlying242
  a105:=Tryz.isAgg242
  z105:=Tryz.sizeOf242
  v105:=Tryz.zeroValue242
  t116:=Tryz.underlying227
  a116:=Tryz.isAgg227
  z116:=Tryz.sizeOf227
  t117:=Tryz.underlying228
  a117:=Tryz.isAgg228
  z117:=Tryz.sizeOf228
  v117:=Tryz.zeroValue228
  t119:=Tryz.underlying247
  a119:=Tryz.isAgg247
  z119:=Tryz.sizeOf247
  t124:=Tryz.underlying231
  a124:=Tryz.isAgg231
  z124:=Tryz.sizeOf231
  v124:=Tryz.zeroValue231
  t138:=Tryz.underlying249
  a138:=Tryz.isAgg249
  z138:=Tryz.sizeOf249
  v138:=Tryz.zeroValue249
  t139:=Tryz.underlying250
  a139:=Tryz.isAgg250
  z139:=Tryz.sizeOf250
  v139:=Tryz.zeroValue250
  g3:=by kernel_rfl
  g4:=by kernel_rfl }
def Tryz.lays137_ren:Go.Shelf.Ren:=⟨fun | 137=>201 | 217=>219 | 266=>229 | n=>n,fun | 9=>9 | 5=>5 | 3=>3 | n=>n,fun | n=>n⟩
theorem Tryz.lays137:Go.Proofs.Lays.n137 Tryz.prog Tryz.lays137_ren:={
  mixed:=by kernel_rfl
  f137:=Tryz.func201.trans (congrArg some (by kernel_rfl))
  f217:=Tryz.func219.trans (congrArg some (by kernel_rfl))
  f266:=Tryz.func229.trans (congrArg some (by kernel_rfl))
  t3:=Tryz.underlying3
  a3:=Tryz.isAgg3
  z3:=Tryz.sizeOf3
  v3:=Tryz.zeroValue3
  t5:=Tryz.underlying5
  a5:=Tryz.isAgg5
  z5:=Tryz.sizeOf5
  v5:=Tryz.zeroValue5
  t9:=Tryz.underlying9
  a9:=Tryz.isAgg9
  z9:=Tryz.sizeOf9
  v9:=Tryz.zeroValue9 }
open Go.RowKit in
theorem Tryz.strings_IndexByte (s:ByteArray) (c:Int) (w:World):
    Calls Tryz.prog 201 #[.string s,.int .u8 c] w fun e w'=>e=.returned (.int .i64 (Lib.indexByte s.data.toList c.toNat.toUInt8))∧w'=w:=Any.strings_IndexByte Tryz.lays137 s c w
def Tryz.lays172_ren:Go.Shelf.Ren:=⟨fun | 172=>230 | 244=>238 | 245=>239 | 247=>242 | 279=>243 | 280=>244 | 281=>245 | 282=>246 | 287=>251 | 316=>252 | 171=>221 | 205=>253 | 321=>259 | 322=>260 | 243=>231 | 246=>240 | 283=>247 | 284=>248 | 285=>249 | 286=>250 | 129=>255 | 317=>254 | 318=>256 | 319=>257 | 320=>258 | 337=>261 | 338=>262 | n=>n,fun | 9=>9 | 3=>3 | 75=>117 | 76=>121 | 4=>4 | 5=>5 | 167=>256 | 37=>41 | 0=>0 | 85=>257 | 2=>2 | 168=>259 | 53=>42 | 175=>267 | 46=>124 | 210=>270 | 127=>190 | 145=>279 | 143=>277 | 21=>21 | 171=>262 | 173=>265 | 212=>273 | 51=>40 | 20=>20 | 213=>274 | 232=>281 | 233=>282 | 80=>84 | n=>n,fun | 15=>3 | 16=>4 | 17=>5 | 18=>6 | 19=>7 | n=>n⟩
theorem Tryz.lays172:Go.Proofs.Lays.n172 Tryz.prog Tryz.lays172_ren:={
  mixed:=by kernel_rfl
  f129:=Tryz.func255.trans (congrArg some (by kernel_rfl))
  f171:=Tryz.func221.trans (congrArg some (by kernel_rfl))
  f172:=Tryz.func230.trans (congrArg some (by kernel_rfl))
  f205:=Tryz.func253.trans (congrArg some (by kernel_rfl))
  f243:=Tryz.func231.trans (congrArg some (by kernel_rfl))
  f244:=Tryz.func238.trans (congrArg some (by kernel_rfl))
  f245:=Tryz.func239.trans (congrArg some (by kernel_rfl))
  f246:=Tryz.func240.trans (congrArg some (by kernel_rfl))
  f247:=Tryz.func242.trans (congrArg some (by kernel_rfl))
  f279:=Tryz.func243.trans (congrArg some (by kernel_rfl))
  f280:=Tryz.func244.trans (congrArg some (by kernel_rfl))
  f281:=Tryz.func245.trans (congrArg some (by kernel_rfl))
  f282:=Tryz.func246.trans (congrArg some (by kernel_rfl))
  f283:=Tryz.func247.trans (congrArg some (by kernel_rfl))
  f284:=Tryz.func248.trans (congrArg some (by kernel_rfl))
  f285:=Tryz.func249.trans (congrArg some (by kernel_rfl))
  f286:=Tryz.func250.trans (congrArg some (by kernel_rfl))
  f287:=Tryz.func251.trans (congrArg some (by kernel_rfl))
  f316:=Tryz.func252.trans (congrArg some (by kernel_rfl))
  f317:=Tryz.func254.trans (congrArg some (by kernel_rfl))
  f318:=Tryz.func256.trans (congrArg some (by kernel_rfl))
  f319:=Tryz.func257.trans (congrArg some (by kernel_rfl))
  f320:=Tryz.func258.trans (congrArg some (by kernel_rfl))
  f321:=Tryz.func259.trans (congrArg some (by kernel_rfl))
  f322:=Tryz.func260.trans (congrArg some (by kernel_rfl))
  f337:=Tryz.func261.trans (congrArg some (by kernel_rfl))
  f338:=Tryz.func262.trans (congrArg some (by kernel_rfl))
  t0:=Tryz.underlying0
  a0:=Tryz.isAgg0
  z0:=Tryz.sizeOf0
  v0:=Tryz.zeroValue0
  t2:=Tryz.underlying2
  a2:=Tryz.isAgg2
  z2:=Tryz.sizeOf2
  v2:=Tryz.zeroValue2
  t3:=Tryz.underlying3
  a3:=Tryz.isAgg3
  z3:=Tryz.sizeOf3
  v3:=Tryz.zeroValue3
  t4:=Tryz.underlying4
  a4:=Tryz.isAgg4
  z4:=Tryz.sizeOf4
  v4:=Tryz.zeroValue4
  t5:=Tryz.underlying5
  a5:=Tryz.isAgg5
  z5:=Tryz.sizeOf5
  v5:=Tryz.zeroValue5
  t9:=Tryz.underlying9
  a9:=Tryz.isAgg9
  z9:=Tryz.sizeOf9
  v9:=Tryz.zeroValue9
  t20:=Tryz.underlying20
  a20:=Tryz.isAgg20
  z20:=Tryz.sizeOf20
  v20:=Tryz.zeroValue20
  t21:=Tryz.underlying21
  a21:=Tryz.isAgg21
  z21:=Tryz.sizeOf21
  v21:=Tryz.zeroValue21
  t37:=Tryz.underlying41
  a37:=Tryz.isAgg41
  z37:=Tryz.sizeOf41
  v37:=Tryz.zeroValue41
  t46:=Tryz.underlying124
  a46:=Tryz.isAgg124
  z46:=Tryz.sizeOf124
  v46:=Tryz.zeroValue124
  t51:=Tryz.underlying40
  a51:=Tryz.isAgg40
  z51:=Tryz.sizeOf40
  v51:=Tryz.zeroValue40
  t53:=Tryz.underlying42
  a53:=Tryz.isAgg42
  z53:=Tryz.sizeOf42
  v53:=Tryz.zeroValue42
  t75:=Tryz.underlying117
  a75:=Tryz.isAgg117
  z75:=Tryz.sizeOf117
  v75:=Tryz.zeroValue117
  t76:=Tryz.underlying121
  a76:=Tryz.isAgg121
  z76:=Tryz.sizeOf121
  v76:=Tryz.zeroValue121
  t85:=Tryz.underlying257
  a85:=Tryz.isAgg257
  z85:=Tryz.sizeOf257
  v85:=Tryz.zeroValue257
  t127:=Tryz.underlying190
  a127:=Tryz.isAgg190
  z127:=Tryz.sizeOf190
  v127:=Tryz.zeroValue190
  t143:=Tryz.underlying277
  a143:=Tryz.isAgg277
  z143:=Tryz.sizeOf277
  v143:=Tryz.zeroValue277
  t145:=Tryz.underlying279
  a145:=Tryz.isAgg279
  z145:=Tryz.sizeOf279
  v145:=Tryz.zeroValue279
  t167:=Tryz.underlying256
  a167:=Tryz.isAgg256
  z167:=Tryz.sizeOf256
  v167:=Tryz.zeroValue256
  t168:=Tryz.underlying259
  a168:=Tryz.isAgg259
  z168:=Tryz.sizeOf259
  v168:=Tryz.zeroValue259
  t171:=Tryz.underlying262
  a171:=Tryz.isAgg262
  z171:=Tryz.sizeOf262
  v171:=Tryz.zeroValue262
  t173:=Tryz.underlying265
  a173:=Tryz.isAgg265
  z173:=Tryz.sizeOf265
  v173:=Tryz.zeroValue265
  t175:=Tryz.underlying267
  a175:=Tryz.isAgg267
  z175:=Tryz.sizeOf267
  v175:=Tryz.zeroValue267
  t210:=Tryz.underlying270
  a210:=Tryz.isAgg270
  z210:=Tryz.sizeOf270
  v210:=Tryz.zeroValue270
  t212:=Tryz.underlying273
  a212:=Tryz.isAgg273
  z212:=Tryz.sizeOf273
  v212:=Tryz.zeroValue273
  t213:=Tryz.underlying274
  a213:=Tryz.isAgg274
  z213:=Tryz.sizeOf274
  t232:=Tryz.underlying281
  a232:=Tryz.isAgg281
  z232:=Tryz.sizeOf281
  v232:=Tryz.zeroValue281
  t233:=Tryz.underlying282
  a233:=Tryz.isAgg282
  z233:=Tryz.sizeOf282
  v233:=Tryz.zeroValue282
  g15:=by kernel_rfl
  g16:=by kernel_rfl
  g17:=by kernel_rfl
  g18:=by kernel_rfl
  g19:=by kernel_rfl }
open Go.RowKit in
theorem Tryz.strconv_Atoi (s:ByteArray) (n:Int) (hl:s.size≤18) (h:Lib.atoi s.data.toList=some n) (w:World):
    Calls Tryz.prog 230 #[.string s] w fun e w'=>e=.returned (.tuple #[.int .i64 n,.nilIface])∧∃t,w'=Lib.bytesWorld w 5 t:=Any.strconv_Atoi Tryz.lays172 s n hl h w
def Tryz.laysM171_ren:Go.Shelf.Ren:=⟨fun | 171=>221 | 243=>231 | 246=>240 | 283=>247 | 284=>248 | 285=>249 | 286=>250 | 129=>255 | 317=>254 | 318=>256 | 319=>257 | 320=>258 | 337=>261 | 338=>262 | n=>n,fun | 3=>3 | 9=>9 | 2=>2 | 4=>4 | 171=>262 | 0=>0 | 53=>42 | 37=>41 | 5=>5 | 173=>265 | 212=>273 | 51=>40 | 20=>20 | 213=>274 | 46=>124 | 232=>281 | 233=>282 | n=>n,fun | 17=>5 | 18=>6 | 19=>7 | n=>n⟩
theorem Tryz.laysM171:Go.Proofs.LaysM.n171 Tryz.prog Tryz.laysM171_ren:={
  mixed:=by kernel_rfl
  f129:=Tryz.func255.trans (congrArg some (by kernel_rfl))
  f171:=Tryz.func221.trans (congrArg some (by kernel_rfl))
  f243:=Tryz.func231.trans (congrArg some (by kernel_rfl))
  f246:=Tryz.func240.trans (congrArg some (by kernel_rfl))
  f283:=Tryz.func247.trans (congrArg some (by kernel_rfl))
  f284:=Tryz.func248.trans (congrArg some (by kernel_rfl))
  f285:=Tryz.func249.trans (congrArg some (by kernel_rfl))
  f286:=Tryz.func250.trans (congrArg some (by kernel_rfl))
  f317:=Tryz.func254.trans (congrArg some (by kernel_rfl))
  f318:=Tryz.func256.trans (congrArg some (by kernel_rfl))
  f319:=Tryz.func257.trans (congrArg some (by kernel_rfl))
  f320:=Tryz.func258.trans (congrArg some (by kernel_rfl))
  f337:=Tryz.func261.trans (congrArg some (by kernel_rfl))
  f338:=Tryz.func262.trans (congrArg some (by kernel_rfl))
  t0:=Tryz.underlying0
  a0:=Tryz.isAgg0
  z0:=Tryz.sizeOf0
  v0:=Tryz.zeroValue0
  t2:=Tryz.underlying2
  a2:=Tryz.isAgg2
  z2:=Tryz.sizeOf2
  v2:=Tryz.zeroValue2
  t3:=Tryz.underlying3
  a3:=Tryz.isAgg3
  z3:=Tryz.sizeOf3
  v3:=Tryz.zeroValue3
  t4:=Tryz.underlying4
  a4:=Tryz.isAgg4
  z4:=Tryz.sizeOf4
  v4:=Tryz.zeroValue4
  t5:=Tryz.underlying5
  a5:=Tryz.isAgg5
  z5:=Tryz.sizeOf5
  v5:=Tryz.zeroValue5
  t9:=Tryz.underlying9
  a9:=Tryz.isAgg9
  z9:=Tryz.sizeOf9
  v9:=Tryz.zeroValue9
  t20:=Tryz.underlying20
  a20:=Tryz.isAgg20
  z20:=Tryz.sizeOf20
  v20:=Tryz.zeroValue20
  t37:=Tryz.underlying41
  a37:=Tryz.isAgg41
  z37:=Tryz.sizeOf41
  v37:=Tryz.zeroValue41
  t46:=Tryz.underlying124
  a46:=Tryz.isAgg124
  z46:=Tryz.sizeOf124
  v46:=Tryz.zeroValue124
  t51:=Tryz.underlying40
  a51:=Tryz.isAgg40
  z51:=Tryz.sizeOf40
  v51:=Tryz.zeroValue40
  t53:=Tryz.underlying42
  a53:=Tryz.isAgg42
  z53:=Tryz.sizeOf42
  v53:=Tryz.zeroValue42
  t171:=Tryz.underlying262
  a171:=Tryz.isAgg262
  z171:=Tryz.sizeOf262
  v171:=Tryz.zeroValue262
  t173:=Tryz.underlying265
  a173:=Tryz.isAgg265
  z173:=Tryz.sizeOf265
  v173:=Tryz.zeroValue265
  t212:=Tryz.underlying273
  a212:=Tryz.isAgg273
  z212:=Tryz.sizeOf273
  v212:=Tryz.zeroValue273
  t213:=Tryz.underlying274
  a213:=Tryz.isAgg274
  z213:=Tryz.sizeOf274
  t232:=Tryz.underlying281
  a232:=Tryz.isAgg281
  z232:=Tryz.sizeOf281
  v232:=Tryz.zeroValue281
  t233:=Tryz.underlying282
  a233:=Tryz.isAgg282
  z233:=Tryz.sizeOf282
  v233:=Tryz.zeroValue282
  g17:=by kernel_rfl
  g18:=by kernel_rfl
  g19:=by kernel_rfl
  i0:=by kernel_rfl
  i2:=by kernel_rfl
  i3:=by kernel_rfl
  i4:=by kernel_rfl
  i5:=by kernel_rfl
  i9:=by kernel_rfl
  i20:=by kernel_rfl
  i37:=by kernel_rfl
  i46:=by kernel_rfl
  i51:=by kernel_rfl
  i53:=by kernel_rfl
  i171:=by kernel_rfl
  i173:=by kernel_rfl
  i212:=by kernel_rfl
  i232:=by kernel_rfl
  i233:=by kernel_rfl
  m17:=by kernel_rfl
  m18:=by kernel_rfl
  m19:=by kernel_rfl }
open Go.RowKit in
theorem Tryz.strconv_Itoa (n:Int) (h0:-9223372036854775808≤n) (h1:n≤9223372036854775807) (w:World) (htab:Lib.TabIs Tryz.prog w "internal/strconv.uint64pow10" .u64 Lib.pow10Tab):
    Calls Tryz.prog 221 #[.int .i64 n] w fun e w'=>e=.returned (.string ⟨(Lib.itoa n).toArray⟩)∧∃k os,w'=grow (w.drewN k) os:=Any.strconv_Itoa Tryz.laysM171 n h0 h1 w htab
def Tryz.lays219_ren:Go.Shelf.Ren:=⟨fun | 219=>228 | 217=>219 | 225=>235 | 224=>234 | 267=>237 | 266=>229 | 314=>241 | n=>n,fun | 9=>9 | 3=>3 | 4=>4 | 5=>5 | 46=>124 | 146=>254 | 51=>40 | n=>n,fun | 1=>2 | n=>n⟩
theorem Tryz.lays219:Go.Proofs.Lays.n219 Tryz.prog Tryz.lays219_ren:={
  mixed:=by kernel_rfl
  f217:=Tryz.func219.trans (congrArg some (by kernel_rfl))
  f219:=Tryz.func228.trans (congrArg some (by kernel_rfl))
  f224:=Tryz.func234.trans (congrArg some (by kernel_rfl))
  f225:=Tryz.func235.trans (congrArg some (by kernel_rfl))
  f266:=Tryz.func229.trans (congrArg some (by kernel_rfl))
  f267:=Tryz.func237.trans (congrArg some (by kernel_rfl))
  f314:=Tryz.func241.trans (congrArg some (by kernel_rfl))
  t3:=Tryz.underlying3
  a3:=Tryz.isAgg3
  z3:=Tryz.sizeOf3
  v3:=Tryz.zeroValue3
  t4:=Tryz.underlying4
  a4:=Tryz.isAgg4
  z4:=Tryz.sizeOf4
  v4:=Tryz.zeroValue4
  t5:=Tryz.underlying5
  a5:=Tryz.isAgg5
  z5:=Tryz.sizeOf5
  v5:=Tryz.zeroValue5
  t9:=Tryz.underlying9
  a9:=Tryz.isAgg9
  z9:=Tryz.sizeOf9
  v9:=Tryz.zeroValue9
  t46:=Tryz.underlying124
  a46:=Tryz.isAgg124
  z46:=Tryz.sizeOf124
  v46:=Tryz.zeroValue124
  t51:=Tryz.underlying40
  a51:=Tryz.isAgg40
  z51:=Tryz.sizeOf40
  v51:=Tryz.zeroValue40
  t146:=Tryz.underlying254
  a146:=Tryz.isAgg254
  z146:=Tryz.sizeOf254
  v146:=Tryz.zeroValue254
  g1:=by kernel_rfl }
open Go.RowKit in
theorem Tryz.stringslite_Index_one (s:ByteArray) (c:UInt8) (w:World):
    Calls Tryz.prog 228 #[.string s,.string ⟨#[c]⟩] w fun e w'=>e=.returned (.int .i64 (Lib.indexByte s.data.toList c))∧w'=w:=Any.stringslite_Index_one Tryz.lays219 s c w
def Tryz.laysNm215_ren:Go.Shelf.Ren:=⟨fun | 15=>185 | n=>n,fun | 22=>185 | 3=>3 | 4=>4 | n=>n,fun | n=>n⟩
theorem Tryz.laysNm215:Go.Proofs.Lays2.n15 Tryz.prog Tryz.laysNm215_ren:={
  mixed:=by kernel_rfl
  f15:=Tryz.func185.trans (congrArg some (by kernel_rfl))
  t3:=Tryz.underlying3
  a3:=Tryz.isAgg3
  z3:=Tryz.sizeOf3
  v3:=Tryz.zeroValue3
  t4:=Tryz.underlying4
  a4:=Tryz.isAgg4
  z4:=Tryz.sizeOf4
  v4:=Tryz.zeroValue4
  t22:=Tryz.underlying185
  a22:=Tryz.isAgg185
  z22:=Tryz.sizeOf185
  v22:=Tryz.zeroValue185
  i3:=by kernel_rfl }
open Go.RowKit in
theorem Tryz.slices_Clone_int (b off n c:Nat) (zs:List Int) (w:World) (hz:n≤zs.length) (hbig:n*8≤140737488355328) (hc:∀j,j<zs.length→w.cell? ⟨b,off+j,none⟩=some (.int .i64 (zs.getD j 0))):
    Calls Tryz.prog 185 #[.slice (some ⟨b,off,none⟩) n c] w fun e w'=>∃v',e=.returned v'∧w'.ownsRow w.heap.size 3 1 v' n ((zs.take n).map (Value.int .i64))∧v'≠.slice none 0 0∧Below w.heap.size w w':=Any.slices_Clone_int Tryz.laysNm215 b off n c zs w hz hbig hc
open Go.RowKit in
theorem Tryz.slices_Clone_int_nil (n c:Nat) (w:World):
    Calls Tryz.prog 185 #[.slice none n c] w fun e w'=>e=.returned (.slice none 0 0)∧w'=w:=Any.slices_Clone_int_nil Tryz.laysNm215 n c w
open Go.RowKit in
theorem Tryz.slices_Clone_int_zero (a:Addr) (c:Nat) (w:World):
    Calls Tryz.prog 185 #[.slice (some a) 0 c] w fun e w'=>∃v',e=.returned v'∧w'.ownsRow w.heap.size 3 1 v' 0 []∧v'≠.slice none 0 0∧Below w.heap.size w w':=Any.slices_Clone_int_zero Tryz.laysNm215 a c w
end Go.Proofs
namespace Go.Proofs.YthmkcebbeehbeaaGreatDoor
open Am C
section
open Go Go.RowKit
theorem Am.AC.belowS {P:Program} {f:FuncId} {args:List V} {H:Hp} {v:V} (hok:okFn P f=true)
    (h:∀(κ:K) (cs:List Value),Sim κ H→VRs κ args cs→∃cv,(∀κ':K,VR κ' v cv)∧Calls P f cs.toArray κ.w (fun e w'=>e=.returned cv∧Below κ.w.heap.size κ.w w')):AC P f args H (fun r H'=>r=v∧H'=H):=
  ⟨hok,fun κ cs S r=>by
    obtain ⟨cv,hv,hc⟩:=h κ cs S r
    exact hc.mono fun e w' ⟨he,hb⟩=>⟨{ κ with w:=w' },v,cv,H,he,rfl,K.below_le S hb,S.below hb,hv _,rfl,rfl⟩⟩
end
theorem vr_s {κ:K} {x:Str} {c:Go.Value} (h:VR κ (.s x) c):c=.string ⟨x.toArray⟩:=by cases h;rfl
theorem vr_i {κ:K} {k:Go.IntKind} {n:Int} {c:Go.Value} (h:VR κ (.i k n) c):c=.int k n:=by cases h;rfl
theorem yeu (s:Str) (c:UInt8) (H:Hp):AC Tryz.prog 201 [.s s,.i .u8 c.toNat] H (fun v H'=>v=.i .i64 (Go.Lib.indexByte s c)∧H'=H):=by
  refine AC.below (by kernel_rfl) fun κ cs r=>?_
  obtain ⟨a,b,rfl,ra,rb⟩:=r.two'
  obtain rfl:=vr_s ra
  obtain rfl:=vr_i rb
  refine ⟨_,fun κ'=>.i _ _,?_⟩
  refine (Tryz.strings_IndexByte ⟨s.toArray⟩ (c.toNat:Int) κ.w).mono fun e w' ⟨he,hw⟩=>⟨?_,?_⟩
  · rw [he];simp
  · rw [hw];exact .refl _ _
theorem pow10_of {κ:K} {H:Hp} (S:Sim κ H):Go.Lib.TabIs Tryz.prog κ.w "internal/strconv.uint64pow10" .u64 Go.Lib.pow10Tab:=by
  obtain ⟨_,ty,fr,h⟩:=S.tb (TBs[0]'(by decide)) (List.getElem_mem _)
  unfold Go.Lib.TabIs Go.World.var?
  rw [show Tryz.prog.globalNamed "internal/strconv.uint64pow10"=some 5 by kernel_rfl]
  simp only [Option.bind_some]
  have h':κ.w.heap[5]?=some (Go.Obj.cells (TBs[0]'(by decide)).2.toArray ty fr):=h
  rw [h']
  rfl
theorem ylj (s t:Str) (ht:t.length<4294967281) (ha:t.all (fun b=>decide (b.toNat<128))=true) (H:Hp):AC Tryz.prog 167 [.s s,.s t] H (fun v H'=>v=.s (s.dropWhile (t.contains ·))∧H'=H):=by
  refine AC.below (by kernel_rfl) fun κ cs r=>?_
  obtain ⟨a,b,rfl,ra,rb⟩:=r.two'
  obtain rfl:=vr_s ra
  obtain rfl:=vr_s rb
  refine ⟨_,fun κ'=>.s _,?_⟩
  refine (Go.Proofs.Any.strings_TrimLeft_laid Tryz.lays161 (by kernel_rfl) ⟨s.toArray⟩ ⟨t.toArray⟩ κ.w (show t.toArray.size<4294967281 by simpa using ht) (by simpa using Go.Proofs.ascii_of_all ha)).mono fun e w' ⟨he,hw⟩=>⟨?_,hw⟩
  rw [he];rfl
theorem Atoi_ok (s:Str) (n:Int) (hl:s.length≤18) (h:Go.Lib.atoi s=some n) (H:Hp):AC Tryz.prog 230 [.s s] H (fun v H'=>v=.tup [.i .i64 n,.nifc]∧H'=H):=by
  refine AC.below (by kernel_rfl) fun κ cs r=>?_
  obtain ⟨a,rfl,ra⟩:=r.one'
  obtain rfl:=vr_s ra
  refine ⟨_,fun κ'=>VR.tupOf (.cons' (.i _ _) (.cons' .nifc (.nil' _))),?_⟩
  refine (Tryz.strconv_Atoi ⟨s.toArray⟩ n (show s.toArray.size≤18 by simpa using hl) (by simpa using h) κ.w).mono fun e w' ⟨he,t,hw⟩=>⟨?_,?_⟩
  · rw [he]
  · rw [hw];exact Go.Lib.bytesWorld_below _ _ _
open Go Go.RowKit Go.Shelf
set_option maxHeartbeats 1000000 in
set_option maxRecDepth 100000 in
theorem yju (B b:Nat) (bs:List Value) (w:World) (h:Lib.IsBuilder 56 5 B b bs w):
    Calls Tryz.prog 143 #[.pointer (some ⟨b,0,none⟩)] w fun e w'=>e=.returned (.tuple #[])∧(Lib.BuilderAt 56 5 B b (.pointer (some ⟨b,0,none⟩)) bs w'∧RowKit.Below B w w'):=by
  obtain ⟨j,hj,hjs⟩:=Option.map_eq_some_iff.1 (show (Tryz.prog.info? 56).map (·.size)=some 2 by kernel_rfl)
  rcases h with h | h
  · have h0:=h.cell0
    have hsh:=h.shape
    have hfz:=h.frozen0
    have key:Calls Tryz.prog 143 #[.pointer (some ⟨b,0,none⟩)] w fun e w'=>e=.returned (.tuple #[])∧w'=w.setCell ⟨b,0,none⟩ (.pointer (some ⟨b,0,none⟩)):=by
      go_enter Tryz.func143,Tryz.ntmps143
      go_wp2
      rw [Lib.run_to_unsafe w ⟨b,0,none⟩ Tryz.underlying54 Tryz.underlying218 hj (by rw [hjs];decide) hsh (Nat.zero_lt_succ 1)]
      simp only [Result.andThen]
      rw [Oper.upon_value]
      go_wp2
      rw [run_callFunc_extern Tryz.func186 (by kernel_rfl) (by kernel_rfl) (by kernel_rfl) (e:=Extern.AbiNoEscape.same) (by kernel_rfl)]
      rw [Lib.run_noEscape]
      simp only [Result.andThen]
      rw [Oper.upon_value]
      go_wp2
      rw [Lib.run_from_unsafe w ⟨b,0,none⟩ Tryz.underlying218 Tryz.underlying54 hj hsh (by kernel_rfl)]
      simp only [Result.andThen]
      rw [Oper.upon_value]
      go_wp2
      go_end0
      exact ⟨rfl,rfl⟩
    refine key.mono ?_
    rintro e w' ⟨rfl,rfl⟩
    exact ⟨rfl,h.used _,(Below.refl B w).setCell (p:=⟨b,0,none⟩) h.1 _⟩
  · have h0:=h.cell0
    have key:Calls Tryz.prog 143 #[.pointer (some ⟨b,0,none⟩)] w fun e w'=>e=.returned (.tuple #[])∧w'=w:=by
      go_enter Tryz.func143,Tryz.ntmps143
      go_wp2
      rw [Lib.run_neq_ptr_same w _ Tryz.underlying54 hj]
      go_wp2
      go_end0
      exact ⟨rfl,rfl⟩
    refine key.mono ?_
    rintro e w' ⟨rfl,rfl⟩
    exact ⟨rfl,h,Below.refl B _⟩
set_option maxHeartbeats 2000000 in
set_option maxRecDepth 100000 in
theorem bld_byte (B b:Nat) (bs:List Value) (c:Int) (w:World) (h:Lib.IsBuilder 56 5 B b bs w) (hlen:bs.length+1≤140737488355328) (hBw:B≤w.heap.size):
    Calls Tryz.prog 76 #[.pointer (some ⟨b,0,none⟩),.int .u8 c] w fun e w'=>e=.returned .nilIface∧(Lib.BuilderAt 56 5 B b (.pointer (some ⟨b,0,none⟩)) (bs++[.int .u8 c]) w'∧RowKit.Below B w w'):=by
  obtain ⟨i0,hi,hz0,hz1,hz2⟩:=info_parts (show (Tryz.prog.info? 5).map (fun i=>(i.zero,i.size,i.bytes))=some (some (.int .u8 0),1,1) by kernel_rfl)
  have ecc:∀args w,(callFunc 143 args).run Tryz.prog w=.ok (.enter 143 args) w:=enters_of Tryz.func143 (by kernel_rfl) rfl
  go_enter Tryz.func76,Tryz.ntmps76
  go_wp2_with (go_at_fn 143;refine (yju B b bs _ h).mono ?_)
  rintro e w1 ⟨rfl,h1,hb1⟩
  obtain ⟨hB,v,hbk,hown,hne⟩:=h1
  have c0:w1.cell? ⟨b,0,none⟩=some (.pointer (some ⟨b,0,none⟩)):=by rw [Lib.cell_of_heap hbk];rfl
  have c1:w1.cell? ⟨b,1,none⟩=some v:=by rw [Lib.cell_of_heap hbk];rfl
  go_wp2_with (at_builtin;refine wpList_append_own _ rfl _ _ 41 rfl B 5 i0 (.int .u8 0) 1 1 Tryz.underlying41 hi hz0 hz1 hz2 rfl (by decide) _ _ _ rfl (hown.alloc _) ⟨w1.heap.size,0,none⟩ 1 1 [.int .u8 c] rfl rfl ?c1 ?c2 ?c3 ?c4 ?c5 ?_)
  case c1=>
    intro j u hj
    match j,hj with
    | 0,hj=>simp at hj;subst hj;simp [Addr.add]
  case c2=>intro u hu;simp at hu;subst hu;rfl
  case c3=>unfold maxLen;omega
  case c4=>omega
  case c5=>have:=hb1.size;simp;omega
  intro v' w2 hown' hgrow _
  have hlt:b<w1.heap.size:=by
    rcases Nat.lt_or_ge b w1.heap.size with h' | h'
    · exact h'
    · simp [Array.getElem?_eq_none h'] at hbk
  have hb2:w2.heap[b]?=some (.cells #[.pointer (some ⟨b,0,none⟩),v] 56 (0,0)):=by
    rw [hgrow.block b (by simp;omega) (fun e=>hne e.symm),Lib.alloc_old w1 _ b hlt]
    exact hbk
  have d0:w2.cell? ⟨b,0,none⟩=some (.pointer (some ⟨b,0,none⟩)):=by rw [Lib.cell_of_heap hb2];rfl
  have d1:w2.cell? ⟨b,1,none⟩=some v:=by rw [Lib.cell_of_heap hb2];rfl
  have f1:w2.frozen? ⟨b,1,none⟩=false:=Lib.frozen_of_heap hb2 1
  obtain ⟨g,cap,rfl⟩:∃g cap,v'=.slice (some ⟨g,0,none⟩) (bs.length+1) cap:=by
    rcases hown'.2 with ⟨_,h0⟩ | ⟨g,cap,cur,hv,_⟩
    · omega
    · exact ⟨g,cap,hv⟩
  go_wp2
  go_ret
  refine ⟨rfl,?_,?_⟩
  · exact Lib.BuilderAt.put (T:=56) (e:=5) hB hb2 (bs':=bs++[.int .u8 c]) (by simpa using hown') (by decide)
  · exact ((hb1.alloc (by have:=hb1.size;omega) _).grown hgrow (by have:=hb1.size;simp;omega) (fun k hk=>(hown.lt k hk).1)).setCell (p:=⟨b,1,none⟩) hB _
set_option maxHeartbeats 2000000 in
set_option maxRecDepth 100000 in
theorem bld_str (B b:Nat) (bs:List Value) (s:ByteArray) (w:World) (h:Lib.IsBuilder 56 5 B b bs w) (hlen:bs.length+s.size≤140737488355328) (hBw:B≤w.heap.size):
    Calls Tryz.prog 79 #[.pointer (some ⟨b,0,none⟩),.string s] w fun e w'=>e=.returned (.tuple #[.int .i64 s.size,.nilIface])∧(Lib.BuilderAt 56 5 B b (.pointer (some ⟨b,0,none⟩)) (bs++Lib.strCells s) w'∧RowKit.Below B w w'):=by
  obtain ⟨i0,hi,hz0,hz1,hz2⟩:=info_parts (show (Tryz.prog.info? 5).map (fun i=>(i.zero,i.size,i.bytes))=some (some (.int .u8 0),1,1) by kernel_rfl)
  have ecc:∀args w,(callFunc 143 args).run Tryz.prog w=.ok (.enter 143 args) w:=enters_of Tryz.func143 (by kernel_rfl) rfl
  go_enter Tryz.func79,Tryz.ntmps79
  go_wp2_with (go_at_fn 143;refine (yju B b bs _ h).mono ?_)
  rintro e w1 ⟨rfl,h1,hb1⟩
  obtain ⟨hB,v,hbk,hown,hne⟩:=h1
  have c0:w1.cell? ⟨b,0,none⟩=some (.pointer (some ⟨b,0,none⟩)):=by rw [Lib.cell_of_heap hbk];rfl
  have c1:w1.cell? ⟨b,1,none⟩=some v:=by rw [Lib.cell_of_heap hbk];rfl
  go_wp2_with (at_builtin;refine Lib.wpList_append_own_string _ rfl _ _ 41 9 rfl B 5 i0 Tryz.underlying41 Tryz.underlying9 hi hz0 hz1 hz2 _ _ _ rfl hown s rfl ?c3 ?c4 ?c5 ?_)
  case c3=>unfold maxLen;omega
  case c4=>omega
  case c5=>have:=hb1.size;omega
  intro v' w2 hown' hgrow _
  have hlt:b<w1.heap.size:=by
    rcases Nat.lt_or_ge b w1.heap.size with h' | h'
    · exact h'
    · simp [Array.getElem?_eq_none h'] at hbk
  have hb2:w2.heap[b]?=some (.cells #[.pointer (some ⟨b,0,none⟩),v] 56 (0,0)):=by
    rw [hgrow.block b hlt (fun e=>hne e.symm)]
    exact hbk
  have d0:w2.cell? ⟨b,0,none⟩=some (.pointer (some ⟨b,0,none⟩)):=by rw [Lib.cell_of_heap hb2];rfl
  have d1:w2.cell? ⟨b,1,none⟩=some v:=by rw [Lib.cell_of_heap hb2];rfl
  have f1:w2.frozen? ⟨b,1,none⟩=false:=Lib.frozen_of_heap hb2 1
  obtain ⟨ao,n',cap,rfl⟩:∃ao n' cap,v'=.slice ao n' cap:=by
    rcases hown'.2 with ⟨hv,_⟩ | ⟨g,cap,cur,hv,_⟩
    · exact ⟨_,_,_,hv⟩
    · exact ⟨_,_,_,hv⟩
  go_wp2
  go_ret2
  refine ⟨rfl,?_,?_⟩
  · exact Lib.BuilderAt.put (T:=56) (e:=5) hB hb2 (bs':=bs++Lib.strCells s) (by simpa [Lib.strCells_length] using hown') (by decide)
  · exact (hb1.grown hgrow (by have:=hb1.size;omega) (fun k hk=>(hown.lt k hk).1)).setCell (p:=⟨b,1,none⟩) hB _
end Go.Proofs.YthmkcebbeehbeaaGreatDoor
