/- The library's contracts at this program: laid by the kit (lay-shelf.mjs, lay-plain.mjs), written by the tool for this seat. No condition but those that the statements name. -/
import Derived.Shelf.Strings.Builder1
import Derived.Shelf.Small.Utf8
import Derived.Shelf.Small.Bits
import Derived.Shelf.Small.Strs
import Derived.Shelf.Small.Wraps
import Derived.Shelf.Utf8.RuneCount
import Derived.Shelf.Strconv.Itoa0
import Derived.Shelf.Strconv.Itoa1
import Derived.Shelf.LaysM
import Derived.Shelf.Strconv.Itoa2
import Derived.Shelf.Strconv.Itoa3
import Derived.Shelf.Strings.Search1
import Derived.Shelf.Strings.Search2
import Derived.Shelf.Strings.Search3
import Derived.Shelf.Strings.Count
import Derived.Shelf.Strings.Shaped
import Derived.Shelf.Sort.Plain
import Derived.Shelf.Strings.Prefix
import Derived.Shelf.Strings.Split
import Derived.Shelf.Strings.Runes
import Derived.Shelf.Strings.RuneCount
import Derived.Shelf.Bits.Mul64
import Derived.Ground.Names2Prog
import Derived.Shelf.Slices.Clone
import Derived.Shelf.Slices.CompactS
import Derived.Shelf.Slices.SearchI
import Derived.Shelf.Slices.Cells
import Derived.Shelf.Slices.In.SortNone
import Derived.Ground.SlgnProg
import Derived.Shelf.SlicesE.Clone
import Derived.Test.YtmofknmeljdodaaGreatDoorProg
import Derived.Test.YtmofknmeljdodaaGreatDoorZS01
set_option maxHeartbeats 100000000
set_option maxRecDepth 100000
set_option linter.unusedVariables false
set_option linter.unusedSimpArgs false
namespace Go.Proofs
open Go.Shelf
def Tryz.lays122_ren:Go.Shelf.Ren:=⟨fun|122=>132|215=>204|n=>n,fun|3=>3|4=>4|n=>n,fun|n=>n⟩
theorem Tryz.lays122:Go.Proofs.Lays.n122 Tryz.prog Tryz.lays122_ren:={
 mixed:=by kernel_rfl
 f122:=Tryz.func132.trans (congrArg some (by kernel_rfl))
 f215:=Tryz.func204.trans (congrArg some (by kernel_rfl))
 t3:=Tryz.underlying3
 a3:=Tryz.isAgg3
 z3:=Tryz.sizeOf3
 v3:=Tryz.zeroValue3
 t4:=Tryz.underlying4
 a4:=Tryz.isAgg4
 z4:=Tryz.sizeOf4
 v4:=Tryz.zeroValue4}
open Go.RowKit in
theorem Tryz.cmp_Compare_int (x y:Int) (w:World):
 Calls Tryz.prog 132 #[.int .i64 x, .int .i64 y] w fun e w'=>e= .returned (.int .i64 (Lib.compareInt x y))∧w'=w:=Any.cmp_Compare_int Tryz.lays122 x y w
def Tryz.lays129_ren:Go.Shelf.Ren:=⟨fun|129=>268|n=>n,fun|53=>215|3=>3|4=>4|46=>284|5=>5|9=>9|n=>n,fun|n=>n⟩
theorem Tryz.lays129:Go.Proofs.Lays.n129 Tryz.prog Tryz.lays129_ren:={
 mixed:=by kernel_rfl
 f129:=Tryz.func268.trans (congrArg some (by kernel_rfl))
 t3:=Tryz.underlying3
 a3:=Tryz.isAgg3
 z3:=Tryz.sizeOf3
 v3:=Tryz.zeroValue3
 t4:=Tryz.underlying4
 a4:=Tryz.isAgg4
 z4:=Tryz.sizeOf4
 v4:=Tryz.zeroValue4
 t5:=Tryz.underlying5
 a5:=Tryz.isAgg5
 z5:=Tryz.sizeOf5
 v5:=Tryz.zeroValue5
 t9:=Tryz.underlying9
 a9:=Tryz.isAgg9
 z9:=Tryz.sizeOf9
 v9:=Tryz.zeroValue9
 t46:=Tryz.underlying284
 a46:=Tryz.isAgg284
 z46:=Tryz.sizeOf284
 v46:=Tryz.zeroValue284
 t53:=Tryz.underlying215
 a53:=Tryz.isAgg215
 z53:=Tryz.sizeOf215
 v53:=Tryz.zeroValue215}
theorem Tryz.bits_Len64 (x:Int) (w:World) (h0:0≤x) (h1:x≤18446744073709551615):
 Calls Tryz.prog 268 #[.int .u64 x] w fun e w'=>e= .returned (.int .i64 (Lib.bitLen x.toNat))∧w'=w:=Any.bits_Len64 Tryz.lays129 x w h0 h1
def Tryz.laysM171_ren:Go.Shelf.Ren:=⟨fun|171=>306|243=>336|246=>353|283=>363|284=>364|285=>365|286=>366|129=>268|317=>370|318=>371|319=>372|320=>373|337=>376|338=>377|n=>n,fun|3=>3|9=>9|2=>2|4=>4|171=>459|0=>0|53=>215|37=>170|5=>5|173=>461|212=>464|51=>393|20=>20|213=>465|46=>284|232=>468|233=>469|n=>n,fun|17=>6|18=>7|19=>8|n=>n⟩
theorem Tryz.laysM171:Go.Proofs.LaysM.n171 Tryz.prog Tryz.laysM171_ren:={
 mixed:=by kernel_rfl
 f129:=Tryz.func268.trans (congrArg some (by kernel_rfl))
 f171:=Tryz.func306.trans (congrArg some (by kernel_rfl))
 f243:=Tryz.func336.trans (congrArg some (by kernel_rfl))
 f246:=Tryz.func353.trans (congrArg some (by kernel_rfl))
 f283:=Tryz.func363.trans (congrArg some (by kernel_rfl))
 f284:=Tryz.func364.trans (congrArg some (by kernel_rfl))
 f285:=Tryz.func365.trans (congrArg some (by kernel_rfl))
 f286:=Tryz.func366.trans (congrArg some (by kernel_rfl))
 f317:=Tryz.func370.trans (congrArg some (by kernel_rfl))
 f318:=Tryz.func371.trans (congrArg some (by kernel_rfl))
 f319:=Tryz.func372.trans (congrArg some (by kernel_rfl))
 f320:=Tryz.func373.trans (congrArg some (by kernel_rfl))
 f337:=Tryz.func376.trans (congrArg some (by kernel_rfl))
 f338:=Tryz.func377.trans (congrArg some (by kernel_rfl))
 t0:=Tryz.underlying0
 a0:=Tryz.isAgg0
 z0:=Tryz.sizeOf0
 v0:=Tryz.zeroValue0
 t2:=Tryz.underlying2
 a2:=Tryz.isAgg2
 z2:=Tryz.sizeOf2
 v2:=Tryz.zeroValue2
 t3:=Tryz.underlying3
 a3:=Tryz.isAgg3
 z3:=Tryz.sizeOf3
 v3:=Tryz.zeroValue3
 t4:=Tryz.underlying4
 a4:=Tryz.isAgg4
 z4:=Tryz.sizeOf4
 v4:=Tryz.zeroValue4
 t5:=Tryz.underlying5
 a5:=Tryz.isAgg5
 z5:=Tryz.sizeOf5
 v5:=Tryz.zeroValue5
 t9:=Tryz.underlying9
 a9:=Tryz.isAgg9
 z9:=Tryz.sizeOf9
 v9:=Tryz.zeroValue9
 t20:=Tryz.underlying20
 a20:=Tryz.isAgg20
 z20:=Tryz.sizeOf20
 v20:=Tryz.zeroValue20
 t37:=Tryz.underlying170
 a37:=Tryz.isAgg170
 z37:=Tryz.sizeOf170
 v37:=Tryz.zeroValue170
 t46:=Tryz.underlying284
 a46:=Tryz.isAgg284
 z46:=Tryz.sizeOf284
 v46:=Tryz.zeroValue284
 t51:=Tryz.underlying393
 a51:=Tryz.isAgg393
 z51:=Tryz.sizeOf393
 v51:=Tryz.zeroValue393
 t53:=Tryz.underlying215
 a53:=Tryz.isAgg215
 z53:=Tryz.sizeOf215
 v53:=Tryz.zeroValue215
 t171:=Tryz.underlying459
 a171:=Tryz.isAgg459
 z171:=Tryz.sizeOf459
 v171:=Tryz.zeroValue459
 t173:=Tryz.underlying461
 a173:=Tryz.isAgg461
 z173:=Tryz.sizeOf461
 v173:=Tryz.zeroValue461
 t212:=Tryz.underlying464
 a212:=Tryz.isAgg464
 z212:=Tryz.sizeOf464
 v212:=Tryz.zeroValue464
 t213:=Tryz.underlying465
 a213:=Tryz.isAgg465
 z213:=Tryz.sizeOf465
 t232:=Tryz.underlying468
 a232:=Tryz.isAgg468
 z232:=Tryz.sizeOf468
 v232:=Tryz.zeroValue468
 t233:=Tryz.underlying469
 a233:=Tryz.isAgg469
 z233:=Tryz.sizeOf469
 v233:=Tryz.zeroValue469
 g17:=by kernel_rfl
 g18:=by kernel_rfl
 g19:=by kernel_rfl
 i0:=by kernel_rfl
 i2:=by kernel_rfl
 i3:=by kernel_rfl
 i4:=by kernel_rfl
 i5:=by kernel_rfl
 i9:=by kernel_rfl
 i20:=by kernel_rfl
 i37:=by kernel_rfl
 i46:=by kernel_rfl
 i51:=by kernel_rfl
 i53:=by kernel_rfl
 i171:=by kernel_rfl
 i173:=by kernel_rfl
 i212:=by kernel_rfl
 i232:=by kernel_rfl
 i233:=by kernel_rfl
 m17:=by kernel_rfl
 m18:=by kernel_rfl
 m19:=by kernel_rfl}
open Go.RowKit Go.Sort Go.Lib in
theorem Tryz.strconv_Itoa (n:Int) (h0: -9223372036854775808≤n) (h1:n≤9223372036854775807) (w:World) (htab:Lib.TabIs Tryz.prog w "internal/strconv.uint64pow10" .u64 Lib.pow10Tab):
 Calls Tryz.prog 306 #[.int .i64 n] w fun e w'=>e= .returned (.string ⟨(Lib.itoa n).toArray⟩)∧∃k os,w'=grow (w.drewN k) os:=Any.strconv_Itoa Tryz.laysM171 n h0 h1 w htab
def Tryz.lays144_ren:Go.Shelf.Ren:=⟨fun|144=>289|143=>305|219=>335|217=>272|225=>211|224=>210|267=>352|266=>316|314=>362|n=>n,fun|9=>9|4=>4|3=>3|5=>5|46=>284|146=>457|51=>393|n=>n,fun|1=>3|n=>n⟩
theorem Tryz.lays144:Go.Proofs.Lays.n144 Tryz.prog Tryz.lays144_ren:={
 mixed:=by kernel_rfl
 f143:=Tryz.func305.trans (congrArg some (by kernel_rfl))
 f144:=Tryz.func289.trans (congrArg some (by kernel_rfl))
 f217:=Tryz.func272.trans (congrArg some (by kernel_rfl))
 f219:=Tryz.func335.trans (congrArg some (by kernel_rfl))
 f224:=Tryz.func210.trans (congrArg some (by kernel_rfl))
 f225:=Tryz.func211.trans (congrArg some (by kernel_rfl))
 f266:=Tryz.func316.trans (congrArg some (by kernel_rfl))
 f267:=Tryz.func352.trans (congrArg some (by kernel_rfl))
 f314:=Tryz.func362.trans (congrArg some (by kernel_rfl))
 t3:=Tryz.underlying3
 a3:=Tryz.isAgg3
 z3:=Tryz.sizeOf3
 v3:=Tryz.zeroValue3
 t4:=Tryz.underlying4
 a4:=Tryz.isAgg4
 z4:=Tryz.sizeOf4
 v4:=Tryz.zeroValue4
 t5:=Tryz.underlying5
 a5:=Tryz.isAgg5
 z5:=Tryz.sizeOf5
 v5:=Tryz.zeroValue5
 t9:=Tryz.underlying9
 a9:=Tryz.isAgg9
 z9:=Tryz.sizeOf9
 v9:=Tryz.zeroValue9
 t46:=Tryz.underlying284
 a46:=Tryz.isAgg284
 z46:=Tryz.sizeOf284
 v46:=Tryz.zeroValue284
 t51:=Tryz.underlying393
 a51:=Tryz.isAgg393
 z51:=Tryz.sizeOf393
 v51:=Tryz.zeroValue393
 t146:=Tryz.underlying457
 a146:=Tryz.isAgg457
 z146:=Tryz.sizeOf457
 v146:=Tryz.zeroValue457
 g1:=by kernel_rfl}
open Go.RowKit Go.Lib in
theorem Tryz.strings_Contains_one (s:ByteArray) (c:UInt8) (w:World):
 Calls Tryz.prog 289 #[.string s, .string ⟨#[c]⟩] w fun e w'=>e= .returned (.bool (decide (0≤Lib.indexByte s.data.toList c)))∧w'=w:=Any.strings_Contains_one Tryz.lays144 s c w
def Tryz.lays138_ren:Go.Shelf.Ren:=⟨fun|138=>250|195=>303|218=>304|143=>305|219=>335|217=>272|225=>211|224=>210|267=>352|266=>316|314=>362|n=>n,fun|9=>9|3=>3|4=>4|5=>5|0=>0|46=>284|146=>457|51=>393|n=>n,fun|1=>3|n=>n⟩
theorem Tryz.lays138:Go.Proofs.Lays.n138 Tryz.prog Tryz.lays138_ren:={
 mixed:=by kernel_rfl
 f138:=Tryz.func250.trans (congrArg some (by kernel_rfl))
 f143:=Tryz.func305.trans (congrArg some (by kernel_rfl))
 f195:=Tryz.func303.trans (congrArg some (by kernel_rfl))
 f217:=Tryz.func272.trans (congrArg some (by kernel_rfl))
 f218:=Tryz.func304.trans (congrArg some (by kernel_rfl))
 f219:=Tryz.func335.trans (congrArg some (by kernel_rfl))
 f224:=Tryz.func210.trans (congrArg some (by kernel_rfl))
 f225:=Tryz.func211.trans (congrArg some (by kernel_rfl))
 f266:=Tryz.func316.trans (congrArg some (by kernel_rfl))
 f267:=Tryz.func352.trans (congrArg some (by kernel_rfl))
 f314:=Tryz.func362.trans (congrArg some (by kernel_rfl))
 t0:=Tryz.underlying0
 a0:=Tryz.isAgg0
 z0:=Tryz.sizeOf0
 v0:=Tryz.zeroValue0
 t3:=Tryz.underlying3
 a3:=Tryz.isAgg3
 z3:=Tryz.sizeOf3
 v3:=Tryz.zeroValue3
 t4:=Tryz.underlying4
 a4:=Tryz.isAgg4
 z4:=Tryz.sizeOf4
 v4:=Tryz.zeroValue4
 t5:=Tryz.underlying5
 a5:=Tryz.isAgg5
 z5:=Tryz.sizeOf5
 v5:=Tryz.zeroValue5
 t9:=Tryz.underlying9
 a9:=Tryz.isAgg9
 z9:=Tryz.sizeOf9
 v9:=Tryz.zeroValue9
 t46:=Tryz.underlying284
 a46:=Tryz.isAgg284
 z46:=Tryz.sizeOf284
 v46:=Tryz.zeroValue284
 t51:=Tryz.underlying393
 a51:=Tryz.isAgg393
 z51:=Tryz.sizeOf393
 v51:=Tryz.zeroValue393
 t146:=Tryz.underlying457
 a146:=Tryz.isAgg457
 z146:=Tryz.sizeOf457
 v146:=Tryz.zeroValue457
 g1:=by kernel_rfl}
open Go.RowKit Go.Lib in
theorem Tryz.strings_Count_one (s:ByteArray) (c:UInt8) (w:World):
 Calls Tryz.prog 250 #[.string s, .string ⟨#[c]⟩] w fun e w'=>e= .returned (.int .i64 (Lib.countByte s.data.toList c))∧w'=w:=Any.strings_Count_one Tryz.lays138 s c w
def Tryz.lays190_ren:Go.Shelf.Ren:=⟨fun|190=>124|125=>200|258=>199|128=>267|129=>268|302=>258|303=>259|304=>260|305=>261|306=>262|307=>263|308=>264|309=>265|310=>266|333=>309|329=>310|330=>311|334=>312|335=>313|336=>314|344=>337|n=>n,fun|31=>92|9=>9|3=>3|46=>284|0=>0|51=>393|53=>215|4=>4|183=>387|182=>386|131=>203|5=>5|218=>412|222=>416|228=>432|229=>433|n=>n,fun|n=>n⟩
theorem Tryz.lays190:Go.Proofs.Lays.n190 Tryz.prog Tryz.lays190_ren:={
 mixed:=by kernel_rfl
 f125:=Tryz.func200.trans (congrArg some (by kernel_rfl))
 f128:=Tryz.func267.trans (congrArg some (by kernel_rfl))
 f129:=Tryz.func268.trans (congrArg some (by kernel_rfl))
 f190:=Tryz.func124.trans (congrArg some (by kernel_rfl))
 f258:=Tryz.func199.trans (congrArg some (by kernel_rfl))
 f302:=Tryz.func258.trans (congrArg some (by kernel_rfl))
 f303:=Tryz.func259.trans (congrArg some (by kernel_rfl))
 f304:=Tryz.func260.trans (congrArg some (by kernel_rfl))
 f305:=Tryz.func261.trans (congrArg some (by kernel_rfl))
 f306:=Tryz.func262.trans (congrArg some (by kernel_rfl))
 f307:=Tryz.func263.trans (congrArg some (by kernel_rfl))
 f308:=Tryz.func264.trans (congrArg some (by kernel_rfl))
 f309:=Tryz.func265.trans (congrArg some (by kernel_rfl))
 f310:=Tryz.func266.trans (congrArg some (by kernel_rfl))
 f329:=Tryz.func310.trans (congrArg some (by kernel_rfl))
 f330:=Tryz.func311.trans (congrArg some (by kernel_rfl))
 f333:=Tryz.func309.trans (congrArg some (by kernel_rfl))
 f334:=Tryz.func312.trans (congrArg some (by kernel_rfl))
 f335:=Tryz.func313.trans (congrArg some (by kernel_rfl))
 f336:=Tryz.func314.trans (congrArg some (by kernel_rfl))
 f344:=Tryz.func337.trans (congrArg some (by kernel_rfl))
 t0:=Tryz.underlying0
 a0:=Tryz.isAgg0
 z0:=Tryz.sizeOf0
 v0:=Tryz.zeroValue0
 t3:=Tryz.underlying3
 a3:=Tryz.isAgg3
 z3:=Tryz.sizeOf3
 v3:=Tryz.zeroValue3
 t4:=Tryz.underlying4
 a4:=Tryz.isAgg4
 z4:=Tryz.sizeOf4
 v4:=Tryz.zeroValue4
 t5:=Tryz.underlying5
 a5:=Tryz.isAgg5
 z5:=Tryz.sizeOf5
 v5:=Tryz.zeroValue5
 t9:=Tryz.underlying9
 a9:=Tryz.isAgg9
 z9:=Tryz.sizeOf9
 v9:=Tryz.zeroValue9
 t31:=Tryz.underlying92
 a31:=Tryz.isAgg92
 z31:=Tryz.sizeOf92
 v31:=Tryz.zeroValue92
 t46:=Tryz.underlying284
 a46:=Tryz.isAgg284
 z46:=Tryz.sizeOf284
 v46:=Tryz.zeroValue284
 t51:=Tryz.underlying393
 a51:=Tryz.isAgg393
 z51:=Tryz.sizeOf393
 v51:=Tryz.zeroValue393
 t53:=Tryz.underlying215
 a53:=Tryz.isAgg215
 z53:=Tryz.sizeOf215
 v53:=Tryz.zeroValue215
 t131:=Tryz.underlying203
 a131:=Tryz.isAgg203
 z131:=Tryz.sizeOf203
 v131:=Tryz.zeroValue203
 t182:=Tryz.underlying386
 a182:=Tryz.isAgg386
 z182:=Tryz.sizeOf386
 v182:=Tryz.zeroValue386
 t183:=Tryz.underlying387
 a183:=Tryz.isAgg387
 z183:=Tryz.sizeOf387
 v183:=Tryz.zeroValue387
 t218:=Tryz.underlying412
 a218:=Tryz.isAgg412
 z218:=Tryz.sizeOf412
 v218:=Tryz.zeroValue412
 t222:=Tryz.underlying416
 a222:=Tryz.isAgg416
 z222:=Tryz.sizeOf416
 v222:=Tryz.zeroValue416
 t228:=Tryz.underlying432
 a228:=Tryz.isAgg432
 z228:=Tryz.sizeOf432
 v228:=Tryz.zeroValue432
 t229:=Tryz.underlying433
 a229:=Tryz.isAgg433
 z229:=Tryz.sizeOf433
 v229:=Tryz.zeroValue433}
open Go.Sort Go.RowKit in
theorem Tryz.slices_Sort_string (blk off cap:Nat) (ss:List (List UInt8)) (w:World) (hH:Holds encStr w blk off ss.toArray) (hblk:blk<w.heap.size) (hsz:ss.length<4611686018427387904):
 Calls Tryz.prog 124 #[.slice (some ⟨blk,off,none⟩) ss.length cap] w fun e w'=>
  e= .returned (.tuple #[])∧∃n os,w'=grow (putRow encStr (Sort.ahead w n) blk off (ss.mergeSort fun x y=>decide (x≤y)).toArray) os:=Any.slices_Sort_string Tryz.lays190 blk off cap ss w hH hblk hsz
def Tryz.lays99_ren:Go.Shelf.Ren:=⟨fun|99=>135|206=>207|n=>n,fun|9=>9|4=>4|3=>3|n=>n,fun|n=>n⟩
theorem Tryz.lays99:Go.Proofs.Lays.n99 Tryz.prog Tryz.lays99_ren:={
 mixed:=by kernel_rfl
 f99:=Tryz.func135.trans (congrArg some (by kernel_rfl))
 f206:=Tryz.func207.trans (congrArg some (by kernel_rfl))
 t3:=Tryz.underlying3
 a3:=Tryz.isAgg3
 z3:=Tryz.sizeOf3
 v3:=Tryz.zeroValue3
 t4:=Tryz.underlying4
 a4:=Tryz.isAgg4
 z4:=Tryz.sizeOf4
 v4:=Tryz.zeroValue4
 t9:=Tryz.underlying9
 a9:=Tryz.isAgg9
 z9:=Tryz.sizeOf9
 v9:=Tryz.zeroValue9}
open Go.RowKit Go.Lib in
theorem Tryz.strings_HasPrefix (s p:ByteArray) (w:World):
 Calls Tryz.prog 135 #[.string s, .string p] w fun e w'=>e= .returned (.bool (Lib.hasPrefix s.data.toList p.data.toList))∧w'=w:=Any.strings_HasPrefix Tryz.lays99 s p w
def Tryz.lays151_ren:Go.Shelf.Ren:=⟨fun|151=>206|152=>136|137=>208|119=>209|224=>210|225=>211|217=>272|266=>316|n=>n,fun|9=>9|21=>21|4=>4|3=>3|5=>5|0=>0|46=>284|n=>n,fun|n=>n⟩
theorem Tryz.lays151:Go.Proofs.Lays.n151 Tryz.prog Tryz.lays151_ren:={
 mixed:=by kernel_rfl
 f119:=Tryz.func209.trans (congrArg some (by kernel_rfl))
 f137:=Tryz.func208.trans (congrArg some (by kernel_rfl))
 f151:=Tryz.func206.trans (congrArg some (by kernel_rfl))
 f152:=Tryz.func136.trans (congrArg some (by kernel_rfl))
 f217:=Tryz.func272.trans (congrArg some (by kernel_rfl))
 f224:=Tryz.func210.trans (congrArg some (by kernel_rfl))
 f225:=Tryz.func211.trans (congrArg some (by kernel_rfl))
 f266:=Tryz.func316.trans (congrArg some (by kernel_rfl))
 t0:=Tryz.underlying0
 a0:=Tryz.isAgg0
 z0:=Tryz.sizeOf0
 v0:=Tryz.zeroValue0
 t3:=Tryz.underlying3
 a3:=Tryz.isAgg3
 z3:=Tryz.sizeOf3
 v3:=Tryz.zeroValue3
 t4:=Tryz.underlying4
 a4:=Tryz.isAgg4
 z4:=Tryz.sizeOf4
 v4:=Tryz.zeroValue4
 t5:=Tryz.underlying5
 a5:=Tryz.isAgg5
 z5:=Tryz.sizeOf5
 v5:=Tryz.zeroValue5
 t9:=Tryz.underlying9
 a9:=Tryz.isAgg9
 z9:=Tryz.sizeOf9
 v9:=Tryz.zeroValue9
 t21:=Tryz.underlying21
 a21:=Tryz.isAgg21
 z21:=Tryz.sizeOf21
 v21:=Tryz.zeroValue21
 t46:=Tryz.underlying284
 a46:=Tryz.isAgg284
 z46:=Tryz.sizeOf284
 v46:=Tryz.zeroValue284}
open Go.RowKit Go.Lib in
theorem Tryz.strings_ContainsRune_ascii (s:ByteArray) (r:Int) (w:World) (h0:0≤r) (h1:r<128):
 Calls Tryz.prog 206 #[.string s, .int .i32 r] w fun e w'=>e= .returned (.bool (decide (0≤Lib.indexByte s.data.toList r.toNat.toUInt8)))∧w'=w:=Any.strings_ContainsRune_ascii Tryz.lays151 s r w h0 h1
def Tryz.lays264_ren:Go.Shelf.Ren:=⟨fun|264=>78|n=>n,fun|53=>215|46=>284|n=>n,fun|n=>n⟩
theorem Tryz.lays264:Go.Proofs.Lays.n264 Tryz.prog Tryz.lays264_ren:={
 mixed:=by kernel_rfl
 f264:=Tryz.func78.trans (congrArg some (by kernel_rfl))
 t46:=Tryz.underlying284
 a46:=Tryz.isAgg284
 z46:=Tryz.sizeOf284
 v46:=Tryz.zeroValue284
 t53:=Tryz.underlying215
 a53:=Tryz.isAgg215
 z53:=Tryz.sizeOf215
 v53:=Tryz.zeroValue215}
open Go.RowKit Go.Lib in
theorem Tryz.bits_Mul64 (x y:Nat) (hx:x<18446744073709551616) (hy:y<18446744073709551616) (w:World):
 Calls Tryz.prog 78 #[.int .u64 x, .int .u64 y] w fun e w'=>e= .returned (.tuple #[.int .u64 ((x*y/18446744073709551616:Nat):Int), .int .u64 ((x*y%18446744073709551616:Nat):Int)])∧w'=w:=Any.bits_Mul64 Tryz.lays264 x y hx hy w
def Tryz.laysNm215_ren:Go.Shelf.Ren:=⟨fun|15=>129|n=>n,fun|22=>77|3=>3|4=>4|n=>n,fun|n=>n⟩
theorem Tryz.laysNm215:Go.Proofs.Lays2.n15 Tryz.prog Tryz.laysNm215_ren:={
 mixed:=by kernel_rfl
 f15:=Tryz.func129.trans (congrArg some (by kernel_rfl))
 t3:=Tryz.underlying3
 a3:=Tryz.isAgg3
 z3:=Tryz.sizeOf3
 v3:=Tryz.zeroValue3
 t4:=Tryz.underlying4
 a4:=Tryz.isAgg4
 z4:=Tryz.sizeOf4
 v4:=Tryz.zeroValue4
 t22:=Tryz.underlying77
 a22:=Tryz.isAgg77
 z22:=Tryz.sizeOf77
 v22:=Tryz.zeroValue77
 i3:=by kernel_rfl}
open Go.RowKit Go.Lib in
theorem Tryz.slices_Clone_int (b off n c:Nat) (zs:List Int) (w:World) (hz:n≤zs.length) (hbig:n*8≤140737488355328) (hc:∀j,j<zs.length→w.cell? ⟨b,off+j,none⟩=some (.int .i64 (zs.getD j 0))):
 Calls Tryz.prog 129 #[.slice (some ⟨b,off,none⟩) n c] w fun e w'=>∃v',e= .returned v'∧w'.ownsRow w.heap.size 3 1 v' n ((zs.take n).map (Value.int .i64))∧v'≠ .slice none 0 0∧Below w.heap.size w w':=Any.slices_Clone_int Tryz.laysNm215 b off n c zs w hz hbig hc
open Go.RowKit Go.Lib in
theorem Tryz.slices_Clone_int_nil (n c:Nat) (w:World):
 Calls Tryz.prog 129 #[.slice none n c] w fun e w'=>e= .returned (.slice none 0 0)∧w'=w:=Any.slices_Clone_int_nil Tryz.laysNm215 n c w
open Go.RowKit Go.Lib in
theorem Tryz.slices_Clone_int_zero (a:Addr) (c:Nat) (w:World):
 Calls Tryz.prog 129 #[.slice (some a) 0 c] w fun e w'=>∃v',e= .returned v'∧w'.ownsRow w.heap.size 3 1 v' 0 []∧v'≠ .slice none 0 0∧Below w.heap.size w w':=Any.slices_Clone_int_zero Tryz.laysNm215 a c w
def Tryz.lays194_ren:Go.Shelf.Ren:=⟨fun|194=>125|n=>n,fun|31=>92|9=>9|3=>3|4=>4|0=>0|n=>n,fun|n=>n⟩
theorem Tryz.lays194:Go.Proofs.Lays.n194 Tryz.prog Tryz.lays194_ren:={
 mixed:=by kernel_rfl
 f194:=Tryz.func125.trans (congrArg some (by kernel_rfl))
 t0:=Tryz.underlying0
 a0:=Tryz.isAgg0
 z0:=Tryz.sizeOf0
 v0:=Tryz.zeroValue0
 t3:=Tryz.underlying3
 a3:=Tryz.isAgg3
 z3:=Tryz.sizeOf3
 v3:=Tryz.zeroValue3
 t4:=Tryz.underlying4
 a4:=Tryz.isAgg4
 z4:=Tryz.sizeOf4
 v4:=Tryz.zeroValue4
 t9:=Tryz.underlying9
 a9:=Tryz.isAgg9
 z9:=Tryz.sizeOf9
 v9:=Tryz.zeroValue9
 t31:=Tryz.underlying92
 a31:=Tryz.isAgg92
 z31:=Tryz.sizeOf92
 v31:=Tryz.zeroValue92}
open Go.RowKit Go.Lib Go.Sort in
theorem Tryz.slices_Compact_string (blk off cap:Nat) (zs:List (List UInt8)) (w:World) (hH:Holds encStr w blk off zs.toArray) (hsz:zs.length≤9223372036854775807) (hcap:zs.length≤cap):
 Calls Tryz.prog 125 #[.slice (some ⟨blk,off,none⟩) zs.length cap] w fun e w'=>e= .returned (.slice (some ⟨blk,off,none⟩) (Lib.compact zs).length cap)∧∃q,w'=putRow encStr (Sort.ahead w q) blk off (Lib.compact zs++List.replicate (zs.length-(Lib.compact zs).length) []).toArray:=Any.slices_Compact_string Tryz.lays194 blk off cap zs w hH hsz hcap
open Go.RowKit Go.Lib Go.Sort in
theorem Tryz.slices_Compact_string_empty (a:Option Addr) (cap:Nat) (w:World):
 Calls Tryz.prog 125 #[.slice a 0 cap] w fun e w'=>e= .returned (.slice a 0 cap)∧w'=w:=Any.slices_Compact_string_empty Tryz.lays194 a cap w
open Go.RowKit Go.Sort in
theorem Tryz.slices_Sort_string_none (p:Option Addr) (cap:Nat) (w:World):
 Calls Tryz.prog 124 #[.slice p 0 cap] w fun e w'=>e= .returned (.tuple #[])∧w'=w:=Any.slices_Sort_string_none Tryz.lays190 p cap w
end Go.Proofs
namespace Go.Proofs.YtmofknmeljdodaaGreatDoor
open Go.RowKit
def smallB (c:Int):Bool:=decide (97≤c)&&decide (c≤122)
def digitB (c:Int):Bool:=decide (48≤c)&&decide (c≤57)
def okAt (i:Nat) (c:Int):Bool:=smallB c||(decide (0<i)&&(digitB c||c==45||c==95))
def byteAt (s:ByteArray) (i:Nat):Int:=((s.data.toList.getD i 0).toNat:Int)
def nameB (s:ByteArray):Bool:=(List.range s.size).all (fun i=>okAt i (byteAt s i))&&decide (1≤s.size)&&decide (s.size≤24)
theorem byteAt_eq (s:ByteArray) (p:Nat) (h:p<s.size):byteAt s p=((s[p]'h).toNat:Int):=by
 unfold byteAt
 rw[List.getD_eq_getElem?_getD,List.getElem?_eq_getElem (by simpa using h)]
 simp[ByteArray.getElem_eq_getElem_data]
theorem okAt_high {i:Nat} {c:Int} (h:128≤c):okAt i c=false:=by
 have h1:decide (c≤122)=false:=by simp;omega
 have h2:decide (c≤57)=false:=by simp;omega
 have h3:(c==45)=false:=beq_eq_false_iff_ne.2 (by omega)
 have h4:(c==95)=false:=beq_eq_false_iff_ne.2 (by omega)
 simp[okAt,smallB,digitB,h1,h2,h3,h4]
theorem range_step (p:Nat) (f:Nat→Bool):(List.range (p+1)).all f=((List.range p).all f&&f p):=by
 rw[List.range_succ,List.all_append];simp
theorem nameB_no {s:ByteArray} {p:Nat} (hp:p<s.size) (h:okAt p (byteAt s p)=false):nameB s=false:=by
 have:(List.range s.size).all (fun i=>okAt i (byteAt s i))=false:=by
  rw[List.all_eq_false]
  exact⟨p,List.mem_range.2 hp,by simpa using h⟩
 simp[nameB,this]
theorem small_any (c:Int) (w:World):Calls Tryz.prog 119 #[.int .i32 c] w fun e w'=>e= .returned (.bool (smallB c))∧w=w':=by
 by_cases h1:97≤c
 ·go_enter Tryz.func119,Tryz.ntmps119
  go_wp2
  go_ret
  exact⟨by simp[smallB,h1],rfl⟩
 ·go_enter Tryz.func119,Tryz.ntmps119
  go_wp2
  go_ret
  exact⟨by simp[smallB];omega,rfl⟩
theorem digit_any (c:Int) (w:World):Calls Tryz.prog 120 #[.int .i32 c] w fun e w'=>e= .returned (.bool (digitB c))∧w=w':=by
 by_cases h1:48≤c
 ·go_enter Tryz.func120,Tryz.ntmps120
  go_wp2
  go_ret
  exact⟨by simp[digitB,h1],rfl⟩
 ·go_enter Tryz.func120,Tryz.ntmps120
  go_wp2
  go_ret
  exact⟨by simp[digitB];omega,rfl⟩
theorem decode_asc (s:ByteArray) (p:Nat) (h:p<s.size):(Utf8.decode s p=((s[p]'h).toNat,1)∧(s[p]'h).toNat<128)∨(128≤(Utf8.decode s p).1∧128≤(s[p]'h).toNat):=by
 by_cases ha:(s[p]'h).toNat<128
 ·exact .inl ⟨decode_ascii s p h ha,ha⟩
 ·exact .inr ⟨(decode_high s p h (by omega)).1,by omega⟩
end Go.Proofs.YtmofknmeljdodaaGreatDoor
namespace Go.Proofs.YtmofknmeljdodaaGreatDoor
open Go.RowKit
def letterB (c:Int):Bool:=smallB c||digitB c||(decide (65≤c)&&decide (c≤90))||c==45||c==95||c==46||c==58||c==47
def idB (s:ByteArray):Bool:=s.data.toList.all (fun c=>letterB c.toNat)&&decide (1≤s.size)&&decide (s.size≤64)
theorem letterB_high {c:Int} (h:128≤c):letterB c=false:=by simp[letterB,smallB,digitB];omega
theorem letter_any (c:Int) (w:World):Calls Tryz.prog 118 #[.int .i32 c] w fun e w'=>e= .returned (.bool (letterB c))∧w=w':=by
 go_enter Tryz.func118,Tryz.ntmps118
 go_wp2_with (first|(go_at_call 119;refine(small_any _ _).mono ?_;rintro e w' ⟨rfl,rfl⟩)|(go_at_call 120;refine(digit_any _ _).mono ?_;rintro e w' ⟨rfl,rfl⟩))
 all_goals
  go_ret
  refine⟨retB ?_,rfl⟩
  first
   |(simp[letterB,smallB,digitB, *];done)
   |(simp_all [letterB];done)
   |(have h65:decide (65≤c)=false:=by simp;omega
     simp only[letterB,h65]
     simp_all)
theorem all_take_succ (l:List UInt8) (f:UInt8→Bool) (p:Nat) (h:p<l.length):(l.take (p+1)).all f=((l.take p).all f&&f l[p]):=by
 rw[List.take_succ_eq_append_getElem h,List.all_append];simp
theorem ID_any (s:ByteArray) (w:World) (hs:s.size≤maxLen):Calls Tryz.prog 67 #[.string s] w fun e w'=>e= .returned (.bool (idB s))∧Below w.heap.size w w':=by
 unfold maxLen at hs
 go_enter Tryz.func67,Tryz.ntmps67
 go_wp2
 go_loopw [2] (fun r wr=>∃p:Nat,wr=w.iter s p∧p≤s.size∧r= .bool false∧(s.data.toList.take p).all (fun c=>letterB c.toNat)=true) (fun _ wr=>s.size-wr.iterPos w.heap.size)
 case atStart=>exact⟨0,rfl,Nat.zero_le _,rfl,by simp⟩
 case round=>
  obtain⟨p,rfl,hp,rfl,hall⟩:=hrel
  by_cases hlt:p<s.size
  ·have hnx:=fun ty=>run_next_any (P:=Tryz.prog) w s p ty hlt
   have Hall:=Lib.hid hall;clear hall
   go_wp2_with (go_at_call 118;refine(letter_any _ _).mono ?_;rintro e w' ⟨rfl,rfl⟩)
   ·go_ret
    refine⟨?_,(Below.refl _ _).alloc (Nat.le_refl _) _⟩
    have hno:letterB (s[p]'hlt).toNat=false:=by
     rcases decode_asc s p hlt with ⟨hd,_⟩|⟨hd,hb⟩
     ·have:(!letterB ↑(Utf8.decode s p).fst)=true:=by assumption
      rw[hd]at this;simpa using this
     ·exact letterB_high (by omega)
    have:idB s=false:=by
     have h1:=List.take_append_drop p s.data.toList
     have:s.data.toList.all (fun c=>letterB c.toNat)=false:=by
      rw[List.all_eq_false]
      exact⟨s[p]'hlt,by simp[ByteArray.getElem_eq_getElem_data],by simpa using hno⟩
     simp[idB,this]
    exact retB this.symm
   ·have hyes:letterB (Utf8.decode s p).fst=true:=by
     have:(!letterB ↑(Utf8.decode s p).fst)=false:=by assumption
     simpa using this
    rcases decode_asc s p hlt with ⟨hd,_⟩|⟨hd,hb⟩
    ·rw[hd]at hyes
     go_roundw
     case rel=>
      refine⟨p+1,by rw[hd],by omega,rfl, ?_⟩
      rw[all_take_succ _ _ p (by simpa using hlt),Hall.out]
      simpa[ByteArray.getElem_eq_getElem_data]using hyes
     case measure=>simp[hd];omega
    ·rw[letterB_high (by omega)]at hyes;cases hyes
  ·have hnx:=fun ty=>run_next_end (P:=Tryz.prog) w s p ty hlt
   have Hall:=Lib.hid hall;clear hall
   go_wp2
   all_goals
    go_ret
    refine⟨retB ?_,(Below.refl _ _).alloc (Nat.le_refl _) _⟩
    have h1:=Hall.out
    rw[List.take_of_length_le (by simp;omega)]at h1
    simp only[idB,h1,Bool.true_and]
    rw[Bool.eq_iff_iff]
    simp
    omega
end Go.Proofs.YtmofknmeljdodaaGreatDoor
