import Derived.Shelf.Strings.Builder1
import Derived.Shelf.Strings.Builder2
import Derived.Shelf.Strings.OnBuilder
import Derived.Shelf.Small.Bits
import Derived.Shelf.Small.Strs
import Derived.Shelf.Strings.BuilderF
import Derived.Shelf.Strconv.Itoa0
import Derived.Shelf.Strings.Search1
import Derived.Shelf.Strings.Search2
import Derived.Shelf.Strings.Search3
import Derived.Shelf.LaysM
import Derived.Shelf.Strings.Shaped
import Derived.Shelf.Sort.Plain
import Derived.Shelf.Strings.Prefix
import Derived.Shelf.Slices.In.SortNone
import Derived.Test.YtipljcmmokaokaaGreatProg
namespace Go.Proofs
open Go.Shelf
open Go.RowKit in
open Go.RowKit in
open Go.RowKit in
open Go.RowKit in
open Go.RowKit in
def Tryz.lays156_ren:Go.Shelf.Ren:=⟨fun|156=>95|165=>124|166=>125|169=>126|240=>141|241=>142|276=>153|277=>154|n=>n,fun|31=>93|9=>9|3=>3|4=>4|0=>0|20=>20|72=>187|76=>191|70=>185|37=>40|75=>190|127=>203|164=>210|5=>5|80=>44|n=>n,fun|n=>n⟩
theorem Tryz.lays156:Go.Proofs.Lays.n156 Tryz.prog Tryz.lays156_ren:={
  mixed:=by kernel_rfl
  f156:=Tryz.func95.trans (congrArg some (by kernel_rfl))
  f165:=Tryz.func124.trans (congrArg some (by kernel_rfl))
  f166:=Tryz.func125.trans (congrArg some (by kernel_rfl))
  f169:=Tryz.func126.trans (congrArg some (by kernel_rfl))
  f240:=Tryz.func141.trans (congrArg some (by kernel_rfl))
  f241:=Tryz.func142.trans (congrArg some (by kernel_rfl))
  f276:=Tryz.func153.trans (congrArg some (by kernel_rfl))
  f277:=Tryz.func154.trans (congrArg some (by kernel_rfl))
  t0:=Tryz.underlying0
  a0:=Tryz.isAgg0
  z0:=Tryz.sizeOf0
  v0:=Tryz.zeroValue0
  t3:=Tryz.underlying3
  a3:=Tryz.isAgg3
  z3:=Tryz.sizeOf3
  v3:=Tryz.zeroValue3
  t4:=Tryz.underlying4
  a4:=Tryz.isAgg4
  z4:=Tryz.sizeOf4
  v4:=Tryz.zeroValue4
  t9:=Tryz.underlying9
  a9:=Tryz.isAgg9
  z9:=Tryz.sizeOf9
  v9:=Tryz.zeroValue9
  t20:=Tryz.underlying20
  a20:=Tryz.isAgg20
  z20:=Tryz.sizeOf20
  v20:=Tryz.zeroValue20
  t31:=Tryz.underlying93
  a31:=Tryz.isAgg93
  z31:=Tryz.sizeOf93
  v31:=Tryz.zeroValue93
  t37:=Tryz.underlying40
  a37:=Tryz.isAgg40
  z37:=Tryz.sizeOf40
  v37:=Tryz.zeroValue40
  t70:=Tryz.underlying185
  a70:=Tryz.isAgg185
  z70:=Tryz.sizeOf185
  v70:=Tryz.zeroValue185
  t72:=Tryz.underlying187
  a72:=Tryz.isAgg187
  z72:=Tryz.sizeOf187
  v72:=Tryz.zeroValue187
  t75:=Tryz.underlying190
  a75:=Tryz.isAgg190
  z75:=Tryz.sizeOf190
  v75:=Tryz.zeroValue190
  t76:=Tryz.underlying191
  a76:=Tryz.isAgg191
  z76:=Tryz.sizeOf191
  v76:=Tryz.zeroValue191
  t127:=Tryz.underlying203
  a127:=Tryz.isAgg203
  z127:=Tryz.sizeOf203
  v127:=Tryz.zeroValue203
  t164:=Tryz.underlying210
  a164:=Tryz.isAgg210
  z164:=Tryz.sizeOf210
  v164:=Tryz.zeroValue210}
theorem Tryz.Builder_Extra_156:Builder.Extra Tryz.prog Tryz.lays156_ren:={
  sizeBuilder:=by kernel_rfl
  liesBuilder:=by kernel_rfl
  t5:=Tryz.underlying5
  a5:=Tryz.isAgg5
  z5:=Tryz.sizeOf5
  v5:=Tryz.zeroValue5
  infoByte:=by kernel_rfl
  cellsByte:=by kernel_rfl
  sizeByte:=by kernel_rfl
  neB5:=by decide}
open Go.RowKit in
theorem Tryz.strings_Join_none (a:Option Addr) (c:Nat) (sep:ByteArray) (w:World):
    Calls Tryz.prog 95 #[.slice a 0 c, .string sep] w fun e w'=>e= .returned (.string ⟨#[]⟩)∧w'=w:=Any.strings_Join_none Tryz.lays156 Tryz.Builder_Extra_156 a c sep w
open Go.RowKit in
theorem Tryz.strings_Join (bk o c:Nat) (xs:List ByteArray) (sep:ByteArray) (w:World) (hcells:∀(j:Nat) x,xs[j]? =some x→w.cell? ⟨bk,o+j,none⟩=some (.string x)) (hbk:bk<w.heap.size) (hN:xs.length≤140737488355328) (hcap:xs.length≤c) (hlen:(Lib.join (xs.map (·.data.toList)) sep.data.toList).length≤140737488355328):
    Calls Tryz.prog 95 #[.slice (some ⟨bk,o,none⟩) xs.length c, .string sep] w fun e w'=>e= .returned (.string ⟨(Lib.join (xs.map (·.data.toList)) sep.data.toList).toArray⟩)∧Below w.heap.size w w':=Any.strings_Join Tryz.lays156 Tryz.Builder_Extra_156 bk o c xs sep w hcells hbk hN hcap hlen
open Go.RowKit in
def Tryz.lays106_ren:Go.Shelf.Ren:=⟨fun|106=>65|213=>108|265=>137|n=>n,fun|9=>9|3=>3|n=>n,fun|n=>n⟩
theorem Tryz.lays106:Go.Proofs.Lays.n106 Tryz.prog Tryz.lays106_ren:={
  mixed:=by kernel_rfl
  f106:=Tryz.func65.trans (congrArg some (by kernel_rfl))
  f213:=Tryz.func108.trans (congrArg some (by kernel_rfl))
  f265:=Tryz.func137.trans (congrArg some (by kernel_rfl))
  t3:=Tryz.underlying3
  a3:=Tryz.isAgg3
  z3:=Tryz.sizeOf3
  v3:=Tryz.zeroValue3
  t9:=Tryz.underlying9
  a9:=Tryz.isAgg9
  z9:=Tryz.sizeOf9
  v9:=Tryz.zeroValue9}
open Go.RowKit in
theorem Tryz.strings_Compare (a b:ByteArray) (w:World):
    Calls Tryz.prog 65 #[.string a, .string b] w fun e w'=>e= .returned (.int .i64 (Lib.compareBytes a.data.toList b.data.toList))∧w'=w:=Any.strings_Compare Tryz.lays106 a b w
open Go.RowKit in
open Go.RowKit in
open Go.RowKit in
open Go.RowKit Go.Lib in
open Go.RowKit Go.Lib in
open Go.RowKit Go.Lib in
open Go.RowKit Go.Lib in
open Go.RowKit Go.Lib in
open Go.RowKit Go.Lib in
open Go.RowKit Go.Lib in
open Go.RowKit Go.Lib in
def Tryz.lays144_ren:Go.Shelf.Ren:=⟨fun|144=>84|143=>120|219=>140|217=>149|225=>150|224=>151|267=>152|266=>168|314=>169|n=>n,fun|9=>9|4=>4|3=>3|5=>5|46=>193|146=>223|51=>178|n=>n,fun|1=>0|n=>n⟩
theorem Tryz.lays144:Go.Proofs.Lays.n144 Tryz.prog Tryz.lays144_ren:={
  mixed:=by kernel_rfl
  f143:=Tryz.func120.trans (congrArg some (by kernel_rfl))
  f144:=Tryz.func84.trans (congrArg some (by kernel_rfl))
  f217:=Tryz.func149.trans (congrArg some (by kernel_rfl))
  f219:=Tryz.func140.trans (congrArg some (by kernel_rfl))
  f224:=Tryz.func151.trans (congrArg some (by kernel_rfl))
  f225:=Tryz.func150.trans (congrArg some (by kernel_rfl))
  f266:=Tryz.func168.trans (congrArg some (by kernel_rfl))
  f267:=Tryz.func152.trans (congrArg some (by kernel_rfl))
  f314:=Tryz.func169.trans (congrArg some (by kernel_rfl))
  t3:=Tryz.underlying3
  a3:=Tryz.isAgg3
  z3:=Tryz.sizeOf3
  v3:=Tryz.zeroValue3
  t4:=Tryz.underlying4
  a4:=Tryz.isAgg4
  z4:=Tryz.sizeOf4
  v4:=Tryz.zeroValue4
  t5:=Tryz.underlying5
  a5:=Tryz.isAgg5
  z5:=Tryz.sizeOf5
  v5:=Tryz.zeroValue5
  t9:=Tryz.underlying9
  a9:=Tryz.isAgg9
  z9:=Tryz.sizeOf9
  v9:=Tryz.zeroValue9
  t46:=Tryz.underlying193
  a46:=Tryz.isAgg193
  z46:=Tryz.sizeOf193
  v46:=Tryz.zeroValue193
  t51:=Tryz.underlying178
  a51:=Tryz.isAgg178
  z51:=Tryz.sizeOf178
  v51:=Tryz.zeroValue178
  t146:=Tryz.underlying223
  a146:=Tryz.isAgg223
  z146:=Tryz.sizeOf223
  v146:=Tryz.zeroValue223
  g1:=by kernel_rfl}
open Go.RowKit Go.Lib in
theorem Tryz.strings_Contains_one (s:ByteArray) (c:UInt8) (w:World):
    Calls Tryz.prog 84 #[.string s, .string ⟨#[c]⟩] w fun e w'=>e= .returned (.bool (decide (0≤Lib.indexByte s.data.toList c)))∧w'=w:=Any.strings_Contains_one Tryz.lays144 s c w
open Go.RowKit Go.Lib in
open Go.RowKit Go.Lib in
open Go.RowKit Go.Lib in
open Go.RowKit Go.Lib in
def Tryz.lays190_ren:Go.Shelf.Ren:=⟨fun|190=>134|125=>147|258=>146|128=>166|129=>167|302=>157|303=>158|304=>159|305=>160|306=>161|307=>162|308=>163|309=>164|310=>165|333=>171|329=>172|330=>173|334=>174|335=>175|336=>176|344=>177|n=>n,fun|31=>93|9=>9|3=>3|46=>193|0=>0|51=>178|53=>96|4=>4|183=>215|182=>214|131=>219|5=>5|218=>225|222=>229|228=>231|229=>232|n=>n,fun|n=>n⟩
theorem Tryz.lays190:Go.Proofs.Lays.n190 Tryz.prog Tryz.lays190_ren:={
  mixed:=by kernel_rfl
  f125:=Tryz.func147.trans (congrArg some (by kernel_rfl))
  f128:=Tryz.func166.trans (congrArg some (by kernel_rfl))
  f129:=Tryz.func167.trans (congrArg some (by kernel_rfl))
  f190:=Tryz.func134.trans (congrArg some (by kernel_rfl))
  f258:=Tryz.func146.trans (congrArg some (by kernel_rfl))
  f302:=Tryz.func157.trans (congrArg some (by kernel_rfl))
  f303:=Tryz.func158.trans (congrArg some (by kernel_rfl))
  f304:=Tryz.func159.trans (congrArg some (by kernel_rfl))
  f305:=Tryz.func160.trans (congrArg some (by kernel_rfl))
  f306:=Tryz.func161.trans (congrArg some (by kernel_rfl))
  f307:=Tryz.func162.trans (congrArg some (by kernel_rfl))
  f308:=Tryz.func163.trans (congrArg some (by kernel_rfl))
  f309:=Tryz.func164.trans (congrArg some (by kernel_rfl))
  f310:=Tryz.func165.trans (congrArg some (by kernel_rfl))
  f329:=Tryz.func172.trans (congrArg some (by kernel_rfl))
  f330:=Tryz.func173.trans (congrArg some (by kernel_rfl))
  f333:=Tryz.func171.trans (congrArg some (by kernel_rfl))
  f334:=Tryz.func174.trans (congrArg some (by kernel_rfl))
  f335:=Tryz.func175.trans (congrArg some (by kernel_rfl))
  f336:=Tryz.func176.trans (congrArg some (by kernel_rfl))
  f344:=Tryz.func177.trans (congrArg some (by kernel_rfl))
  t0:=Tryz.underlying0
  a0:=Tryz.isAgg0
  z0:=Tryz.sizeOf0
  v0:=Tryz.zeroValue0
  t3:=Tryz.underlying3
  a3:=Tryz.isAgg3
  z3:=Tryz.sizeOf3
  v3:=Tryz.zeroValue3
  t4:=Tryz.underlying4
  a4:=Tryz.isAgg4
  z4:=Tryz.sizeOf4
  v4:=Tryz.zeroValue4
  t5:=Tryz.underlying5
  a5:=Tryz.isAgg5
  z5:=Tryz.sizeOf5
  v5:=Tryz.zeroValue5
  t9:=Tryz.underlying9
  a9:=Tryz.isAgg9
  z9:=Tryz.sizeOf9
  v9:=Tryz.zeroValue9
  t31:=Tryz.underlying93
  a31:=Tryz.isAgg93
  z31:=Tryz.sizeOf93
  v31:=Tryz.zeroValue93
  t46:=Tryz.underlying193
  a46:=Tryz.isAgg193
  z46:=Tryz.sizeOf193
  v46:=Tryz.zeroValue193
  t51:=Tryz.underlying178
  a51:=Tryz.isAgg178
  z51:=Tryz.sizeOf178
  v51:=Tryz.zeroValue178
  t53:=Tryz.underlying96
  a53:=Tryz.isAgg96
  z53:=Tryz.sizeOf96
  v53:=Tryz.zeroValue96
  t131:=Tryz.underlying219
  a131:=Tryz.isAgg219
  z131:=Tryz.sizeOf219
  v131:=Tryz.zeroValue219
  t182:=Tryz.underlying214
  a182:=Tryz.isAgg214
  z182:=Tryz.sizeOf214
  v182:=Tryz.zeroValue214
  t183:=Tryz.underlying215
  a183:=Tryz.isAgg215
  z183:=Tryz.sizeOf215
  v183:=Tryz.zeroValue215
  t218:=Tryz.underlying225
  a218:=Tryz.isAgg225
  z218:=Tryz.sizeOf225
  v218:=Tryz.zeroValue225
  t222:=Tryz.underlying229
  a222:=Tryz.isAgg229
  z222:=Tryz.sizeOf229
  v222:=Tryz.zeroValue229
  t228:=Tryz.underlying231
  a228:=Tryz.isAgg231
  z228:=Tryz.sizeOf231
  v228:=Tryz.zeroValue231
  t229:=Tryz.underlying232
  a229:=Tryz.isAgg232
  z229:=Tryz.sizeOf232
  v229:=Tryz.zeroValue232}
open Go.Sort Go.RowKit in
theorem Tryz.slices_Sort_string (blk off cap:Nat) (ss:List (List UInt8)) (w:World) (hH:Holds encStr w blk off ss.toArray) (hblk:blk<w.heap.size) (hsz:ss.length<4611686018427387904):
    Calls Tryz.prog 134 #[.slice (some ⟨blk,off,none⟩) ss.length cap] w fun e w'=>
      e= .returned (.tuple #[])∧∃n os,w'=grow (putRow encStr (Sort.ahead w n) blk off (ss.mergeSort fun x y=>decide (x≤y)).toArray) os:=Any.slices_Sort_string Tryz.lays190 blk off cap ss w hH hblk hsz
open Go.RowKit Go.Lib in
def Tryz.lays99_ren:Go.Shelf.Ren:=⟨fun|99=>133|206=>145|n=>n,fun|9=>9|4=>4|3=>3|n=>n,fun|n=>n⟩
theorem Tryz.lays99:Go.Proofs.Lays.n99 Tryz.prog Tryz.lays99_ren:={
  mixed:=by kernel_rfl
  f99:=Tryz.func133.trans (congrArg some (by kernel_rfl))
  f206:=Tryz.func145.trans (congrArg some (by kernel_rfl))
  t3:=Tryz.underlying3
  a3:=Tryz.isAgg3
  z3:=Tryz.sizeOf3
  v3:=Tryz.zeroValue3
  t4:=Tryz.underlying4
  a4:=Tryz.isAgg4
  z4:=Tryz.sizeOf4
  v4:=Tryz.zeroValue4
  t9:=Tryz.underlying9
  a9:=Tryz.isAgg9
  z9:=Tryz.sizeOf9
  v9:=Tryz.zeroValue9}
open Go.RowKit Go.Lib in
theorem Tryz.strings_HasPrefix (s p:ByteArray) (w:World):
    Calls Tryz.prog 133 #[.string s, .string p] w fun e w'=>e= .returned (.bool (Lib.hasPrefix s.data.toList p.data.toList))∧w'=w:=Any.strings_HasPrefix Tryz.lays99 s p w
open Go.RowKit Go.Lib in
def Tryz.lays101_ren:Go.Shelf.Ren:=⟨fun|101=>138|208=>148|206=>145|n=>n,fun|9=>9|4=>4|3=>3|n=>n,fun|n=>n⟩
theorem Tryz.lays101:Go.Proofs.Lays.n101 Tryz.prog Tryz.lays101_ren:={
  mixed:=by kernel_rfl
  f101:=Tryz.func138.trans (congrArg some (by kernel_rfl))
  f206:=Tryz.func145.trans (congrArg some (by kernel_rfl))
  f208:=Tryz.func148.trans (congrArg some (by kernel_rfl))
  t3:=Tryz.underlying3
  a3:=Tryz.isAgg3
  z3:=Tryz.sizeOf3
  v3:=Tryz.zeroValue3
  t4:=Tryz.underlying4
  a4:=Tryz.isAgg4
  z4:=Tryz.sizeOf4
  v4:=Tryz.zeroValue4
  t9:=Tryz.underlying9
  a9:=Tryz.isAgg9
  z9:=Tryz.sizeOf9
  v9:=Tryz.zeroValue9}
open Go.RowKit Go.Lib in
theorem Tryz.strings_TrimPrefix (s p:ByteArray) (w:World):
    Calls Tryz.prog 138 #[.string s, .string p] w fun e w'=>e= .returned (.string ⟨(Lib.trimPrefix s.data.toList p.data.toList).toArray⟩)∧w'=w:=Any.strings_TrimPrefix Tryz.lays101 s p w
open Go.RowKit Go.Sort in
theorem Tryz.slices_Sort_string_none (p:Option Addr) (cap:Nat) (w:World):
    Calls Tryz.prog 134 #[.slice p 0 cap] w fun e w'=>e= .returned (.tuple #[])∧w'=w:=Any.slices_Sort_string_none Tryz.lays190 p cap w
end Go.Proofs
