/- Texts laid into one, without what the claim does not use. Conditions: none. -/
import Derived.Test.YtkookaogdkdegaaGreatDoorMSpF
import Derived.Shelf.Strings.OnBuilder
import Derived.Shelf.Strings.Repeat
import Derived.Shelf.Strings.Split
import Derived.Shelf.Strconv.Itoa3
import Derived.Shelf.Strconv.AtoiAll
import Derived.Shelf.LaysM
import Derived.Shelf.LaysC
import Derived.Test.YtkookaogdkdegaaGreatDoorProg
import Derived.Lib.ItoaLen
set_option linter.unusedVariables false
set_option linter.unusedSimpArgs false
/-! Shf -/
section
namespace Go.Proofs
open Go.Shelf
def Tryz.lays156_ren:Go.Shelf.Ren:=⟨fun|156=>116|165=>73|166=>74|169=>76|240=>136|241=>137|276=>181|277=>182|n=>n,fun|31=>24|9=>9|3=>3|4=>4|0=>0|20=>20|72=>140|76=>141|70=>138|37=>49|75=>36|127=>202|164=>177|5=>5|80=>78|n=>n,fun|n=>n⟩
theorem Tryz.lays156:Go.Proofs.Lays.n156 Tryz.prog Tryz.lays156_ren:={
 mixed:=by kernel_rfl
 f156:=Tryz.func116.trans (congrArg some (by kernel_rfl))
 f165:=Tryz.func73.trans (congrArg some (by kernel_rfl))
 f166:=Tryz.func74.trans (congrArg some (by kernel_rfl))
 f169:=Tryz.func76.trans (congrArg some (by kernel_rfl))
 f240:=Tryz.func136.trans (congrArg some (by kernel_rfl))
 f241:=Tryz.func137.trans (congrArg some (by kernel_rfl))
 f276:=Tryz.func181.trans (congrArg some (by kernel_rfl))
 f277:=Tryz.func182.trans (congrArg some (by kernel_rfl))
 t0:=Tryz.underlying0
 a0:=Tryz.isAgg0
 z0:=Tryz.sizeOf0
 v0:=Tryz.zeroValue0
 t3:=Tryz.underlying3
 a3:=Tryz.isAgg3
 z3:=Tryz.sizeOf3
 v3:=Tryz.zeroValue3
 t4:=Tryz.underlying4
 a4:=Tryz.isAgg4
 z4:=Tryz.sizeOf4
 v4:=Tryz.zeroValue4
 t9:=Tryz.underlying9
 a9:=Tryz.isAgg9
 z9:=Tryz.sizeOf9
 v9:=Tryz.zeroValue9
 t20:=Tryz.underlying20
 a20:=Tryz.isAgg20
 z20:=Tryz.sizeOf20
 v20:=Tryz.zeroValue20
 t31:=Tryz.underlying24
 a31:=Tryz.isAgg24
 z31:=Tryz.sizeOf24
 v31:=Tryz.zeroValue24
 t37:=Tryz.underlying49
 a37:=Tryz.isAgg49
 z37:=Tryz.sizeOf49
 v37:=Tryz.zeroValue49
 t70:=Tryz.underlying138
 a70:=Tryz.isAgg138
 z70:=Tryz.sizeOf138
 v70:=Tryz.zeroValue138
 t72:=Tryz.underlying140
 a72:=Tryz.isAgg140
 z72:=Tryz.sizeOf140
 v72:=Tryz.zeroValue140
 t75:=Tryz.underlying36
 a75:=Tryz.isAgg36
 z75:=Tryz.sizeOf36
 v75:=Tryz.zeroValue36
 t76:=Tryz.underlying141
 a76:=Tryz.isAgg141
 z76:=Tryz.sizeOf141
 v76:=Tryz.zeroValue141
 t127:=Tryz.underlying202
 a127:=Tryz.isAgg202
 z127:=Tryz.sizeOf202
 v127:=Tryz.zeroValue202
 t164:=Tryz.underlying177
 a164:=Tryz.isAgg177
 z164:=Tryz.sizeOf177
 v164:=Tryz.zeroValue177 }
theorem Tryz.Builder_Extra_156:Builder.Extra Tryz.prog Tryz.lays156_ren:={
 sizeBuilder:=by kernel_rfl
 liesBuilder:=by kernel_rfl
 t5:=Tryz.underlying5
 a5:=Tryz.isAgg5
 z5:=Tryz.sizeOf5
 v5:=Tryz.zeroValue5
 infoByte:=by kernel_rfl
 cellsByte:=by kernel_rfl
 sizeByte:=by kernel_rfl
 neB5:=by decide }
open Go.RowKit in
theorem Tryz.strings_Join (bk o c:Nat) (xs:List ByteArray) (sep:ByteArray) (w:World) (hcells : ∀ (j:Nat) x,xs[j]? = some x→w.cell? ⟨bk,o+j,none⟩=some (.string x)) (hbk:bk<w.heap.size) (hN:xs.length≤140737488355328) (hcap:xs.length≤c) (hlen:(Lib.join (xs.map (·.data.toList)) sep.data.toList).length≤140737488355328) :
  Calls Tryz.prog 116 #[.slice (some ⟨bk,o,none⟩) xs.length c,.string sep] w fun e w'=>e = .returned (.string ⟨(Lib.join (xs.map (·.data.toList)) sep.data.toList).toArray⟩)∧Below w.heap.size w w':=Any.strings_Join Tryz.lays156 Tryz.Builder_Extra_156 bk o c xs sep w hcells hbk hN hcap hlen
def Tryz.laysM171_ren:Go.Shelf.Ren:=⟨fun|171=>104|243=>160|246=>202|283=>225|284=>226|285=>227|286=>228|129=>241|317=>240|318=>242|319=>243|320=>244|337=>249|338=>250|n=>n,fun|3=>3|9=>9|2=>2|4=>4|171=>281|0=>0|53=>199|37=>49|5=>5|173=>284|212=>303|51=>196|20=>20|213=>304|46=>134|232=>312|233=>313|n=>n,fun|17=>14|18=>15|19=>16|n=>n⟩
theorem Tryz.laysM171:Go.Proofs.LaysM.n171 Tryz.prog Tryz.laysM171_ren:={
 mixed:=by kernel_rfl
 f129:=Tryz.func241.trans (congrArg some (by kernel_rfl))
 f171:=Tryz.func104.trans (congrArg some (by kernel_rfl))
 f243:=Tryz.func160.trans (congrArg some (by kernel_rfl))
 f246:=Tryz.func202.trans (congrArg some (by kernel_rfl))
 f283:=Tryz.func225.trans (congrArg some (by kernel_rfl))
 f284:=Tryz.func226.trans (congrArg some (by kernel_rfl))
 f285:=Tryz.func227.trans (congrArg some (by kernel_rfl))
 f286:=Tryz.func228.trans (congrArg some (by kernel_rfl))
 f317:=Tryz.func240.trans (congrArg some (by kernel_rfl))
 f318:=Tryz.func242.trans (congrArg some (by kernel_rfl))
 f319:=Tryz.func243.trans (congrArg some (by kernel_rfl))
 f320:=Tryz.func244.trans (congrArg some (by kernel_rfl))
 f337:=Tryz.func249.trans (congrArg some (by kernel_rfl))
 f338:=Tryz.func250.trans (congrArg some (by kernel_rfl))
 t0:=Tryz.underlying0
 a0:=Tryz.isAgg0
 z0:=Tryz.sizeOf0
 v0:=Tryz.zeroValue0
 t2:=Tryz.underlying2
 a2:=Tryz.isAgg2
 z2:=Tryz.sizeOf2
 v2:=Tryz.zeroValue2
 t3:=Tryz.underlying3
 a3:=Tryz.isAgg3
 z3:=Tryz.sizeOf3
 v3:=Tryz.zeroValue3
 t4:=Tryz.underlying4
 a4:=Tryz.isAgg4
 z4:=Tryz.sizeOf4
 v4:=Tryz.zeroValue4
 t5:=Tryz.underlying5
 a5:=Tryz.isAgg5
 z5:=Tryz.sizeOf5
 v5:=Tryz.zeroValue5
 t9:=Tryz.underlying9
 a9:=Tryz.isAgg9
 z9:=Tryz.sizeOf9
 v9:=Tryz.zeroValue9
 t20:=Tryz.underlying20
 a20:=Tryz.isAgg20
 z20:=Tryz.sizeOf20
 v20:=Tryz.zeroValue20
 t37:=Tryz.underlying49
 a37:=Tryz.isAgg49
 z37:=Tryz.sizeOf49
 v37:=Tryz.zeroValue49
 t46:=Tryz.underlying134
 a46:=Tryz.isAgg134
 z46:=Tryz.sizeOf134
 v46:=Tryz.zeroValue134
 t51:=Tryz.underlying196
 a51:=Tryz.isAgg196
 z51:=Tryz.sizeOf196
 v51:=Tryz.zeroValue196
 t53:=Tryz.underlying199
 a53:=Tryz.isAgg199
 z53:=Tryz.sizeOf199
 v53:=Tryz.zeroValue199
 t171:=Tryz.underlying281
 a171:=Tryz.isAgg281
 z171:=Tryz.sizeOf281
 v171:=Tryz.zeroValue281
 t173:=Tryz.underlying284
 a173:=Tryz.isAgg284
 z173:=Tryz.sizeOf284
 v173:=Tryz.zeroValue284
 t212:=Tryz.underlying303
 a212:=Tryz.isAgg303
 z212:=Tryz.sizeOf303
 v212:=Tryz.zeroValue303
 t213:=Tryz.underlying304
 a213:=Tryz.isAgg304
 z213:=Tryz.sizeOf304
 t232:=Tryz.underlying312
 a232:=Tryz.isAgg312
 z232:=Tryz.sizeOf312
 v232:=Tryz.zeroValue312
 t233:=Tryz.underlying313
 a233:=Tryz.isAgg313
 z233:=Tryz.sizeOf313
 v233:=Tryz.zeroValue313
 g17:=by kernel_rfl
 g18:=by kernel_rfl
 g19:=by kernel_rfl
 i0:=by kernel_rfl
 i2:=by kernel_rfl
 i3:=by kernel_rfl
 i4:=by kernel_rfl
 i5:=by kernel_rfl
 i9:=by kernel_rfl
 i20:=by kernel_rfl
 i37:=by kernel_rfl
 i46:=by kernel_rfl
 i51:=by kernel_rfl
 i53:=by kernel_rfl
 i171:=by kernel_rfl
 i173:=by kernel_rfl
 i212:=by kernel_rfl
 i232:=by kernel_rfl
 i233:=by kernel_rfl
 m17:=by kernel_rfl
 m18:=by kernel_rfl
 m19:=by kernel_rfl }
open Go.RowKit Go.Sort Go.Lib in
theorem Tryz.strconv_Itoa (n:Int) (h0 : -9223372036854775808≤n) (h1:n≤9223372036854775807) (w:World) (htab:Lib.TabIs Tryz.prog w "internal/strconv.uint64pow10" .u64 Lib.pow10Tab) :
  Calls Tryz.prog 104 #[.int .i64 n] w fun e w'=>e = .returned (.string ⟨(Lib.itoa n).toArray⟩) ∧ ∃ k os,w'=grow (w.drewN k) os:=Any.strconv_Itoa Tryz.laysM171 n h0 h1 w htab
def Tryz.laysC172_ren:Go.Shelf.Ren:=⟨fun|172=>132|244=>179|245=>180|247=>209|279=>210|280=>211|281=>212|282=>213|287=>231|316=>232|171=>104|205=>233|321=>245|322=>246|243=>160|246=>202|283=>225|284=>226|285=>227|286=>228|129=>241|317=>240|318=>242|319=>243|320=>244|337=>249|338=>250|n=>n,fun|9=>9|3=>3|75=>36|76=>141|4=>4|5=>5|167=>267|37=>49|0=>0|85=>268|2=>2|168=>270|53=>199|175=>291|46=>134|210=>295|127=>202|145=>309|143=>307|21=>21|171=>281|173=>284|212=>303|51=>196|20=>20|213=>304|232=>312|233=>313|80=>78|n=>n,fun|15=>11|16=>12|17=>14|18=>15|19=>16|n=>n⟩
theorem Tryz.laysC172:Go.Proofs.LaysC.n172 Tryz.prog Tryz.laysC172_ren:={
 mixed:=by kernel_rfl
 f129:=Tryz.func241.trans (congrArg some (by kernel_rfl))
 f171:=Tryz.func104.trans (congrArg some (by kernel_rfl))
 f172:=Tryz.func132.trans (congrArg some (by kernel_rfl))
 f205:=Tryz.func233.trans (congrArg some (by kernel_rfl))
 f243:=Tryz.func160.trans (congrArg some (by kernel_rfl))
 f244:=Tryz.func179.trans (congrArg some (by kernel_rfl))
 f245:=Tryz.func180.trans (congrArg some (by kernel_rfl))
 f246:=Tryz.func202.trans (congrArg some (by kernel_rfl))
 f247:=Tryz.func209.trans (congrArg some (by kernel_rfl))
 f279:=Tryz.func210.trans (congrArg some (by kernel_rfl))
 f280:=Tryz.func211.trans (congrArg some (by kernel_rfl))
 f281:=Tryz.func212.trans (congrArg some (by kernel_rfl))
 f282:=Tryz.func213.trans (congrArg some (by kernel_rfl))
 f283:=Tryz.func225.trans (congrArg some (by kernel_rfl))
 f284:=Tryz.func226.trans (congrArg some (by kernel_rfl))
 f285:=Tryz.func227.trans (congrArg some (by kernel_rfl))
 f286:=Tryz.func228.trans (congrArg some (by kernel_rfl))
 f287:=Tryz.func231.trans (congrArg some (by kernel_rfl))
 f316:=Tryz.func232.trans (congrArg some (by kernel_rfl))
 f317:=Tryz.func240.trans (congrArg some (by kernel_rfl))
 f318:=Tryz.func242.trans (congrArg some (by kernel_rfl))
 f319:=Tryz.func243.trans (congrArg some (by kernel_rfl))
 f320:=Tryz.func244.trans (congrArg some (by kernel_rfl))
 f321:=Tryz.func245.trans (congrArg some (by kernel_rfl))
 f322:=Tryz.func246.trans (congrArg some (by kernel_rfl))
 f337:=Tryz.func249.trans (congrArg some (by kernel_rfl))
 f338:=Tryz.func250.trans (congrArg some (by kernel_rfl))
 t0:=Tryz.underlying0
 a0:=Tryz.isAgg0
 z0:=Tryz.sizeOf0
 v0:=Tryz.zeroValue0
 t2:=Tryz.underlying2
 a2:=Tryz.isAgg2
 z2:=Tryz.sizeOf2
 v2:=Tryz.zeroValue2
 t3:=Tryz.underlying3
 a3:=Tryz.isAgg3
 z3:=Tryz.sizeOf3
 v3:=Tryz.zeroValue3
 t4:=Tryz.underlying4
 a4:=Tryz.isAgg4
 z4:=Tryz.sizeOf4
 v4:=Tryz.zeroValue4
 t5:=Tryz.underlying5
 a5:=Tryz.isAgg5
 z5:=Tryz.sizeOf5
 v5:=Tryz.zeroValue5
 t9:=Tryz.underlying9
 a9:=Tryz.isAgg9
 z9:=Tryz.sizeOf9
 v9:=Tryz.zeroValue9
 t20:=Tryz.underlying20
 a20:=Tryz.isAgg20
 z20:=Tryz.sizeOf20
 v20:=Tryz.zeroValue20
 t21:=Tryz.underlying21
 a21:=Tryz.isAgg21
 z21:=Tryz.sizeOf21
 v21:=Tryz.zeroValue21
 t37:=Tryz.underlying49
 a37:=Tryz.isAgg49
 z37:=Tryz.sizeOf49
 v37:=Tryz.zeroValue49
 t46:=Tryz.underlying134
 a46:=Tryz.isAgg134
 z46:=Tryz.sizeOf134
 v46:=Tryz.zeroValue134
 t51:=Tryz.underlying196
 a51:=Tryz.isAgg196
 z51:=Tryz.sizeOf196
 v51:=Tryz.zeroValue196
 t53:=Tryz.underlying199
 a53:=Tryz.isAgg199
 z53:=Tryz.sizeOf199
 v53:=Tryz.zeroValue199
 t75:=Tryz.underlying36
 a75:=Tryz.isAgg36
 z75:=Tryz.sizeOf36
 v75:=Tryz.zeroValue36
 t76:=Tryz.underlying141
 a76:=Tryz.isAgg141
 z76:=Tryz.sizeOf141
 v76:=Tryz.zeroValue141
 t85:=Tryz.underlying268
 a85:=Tryz.isAgg268
 z85:=Tryz.sizeOf268
 v85:=Tryz.zeroValue268
 t127:=Tryz.underlying202
 a127:=Tryz.isAgg202
 z127:=Tryz.sizeOf202
 v127:=Tryz.zeroValue202
 t143:=Tryz.underlying307
 a143:=Tryz.isAgg307
 z143:=Tryz.sizeOf307
 v143:=Tryz.zeroValue307
 t145:=Tryz.underlying309
 a145:=Tryz.isAgg309
 z145:=Tryz.sizeOf309
 v145:=Tryz.zeroValue309
 t167:=Tryz.underlying267
 a167:=Tryz.isAgg267
 z167:=Tryz.sizeOf267
 v167:=Tryz.zeroValue267
 t168:=Tryz.underlying270
 a168:=Tryz.isAgg270
 z168:=Tryz.sizeOf270
 v168:=Tryz.zeroValue270
 t171:=Tryz.underlying281
 a171:=Tryz.isAgg281
 z171:=Tryz.sizeOf281
 v171:=Tryz.zeroValue281
 t173:=Tryz.underlying284
 a173:=Tryz.isAgg284
 z173:=Tryz.sizeOf284
 v173:=Tryz.zeroValue284
 t175:=Tryz.underlying291
 a175:=Tryz.isAgg291
 z175:=Tryz.sizeOf291
 v175:=Tryz.zeroValue291
 t210:=Tryz.underlying295
 a210:=Tryz.isAgg295
 z210:=Tryz.sizeOf295
 v210:=Tryz.zeroValue295
 t212:=Tryz.underlying303
 a212:=Tryz.isAgg303
 z212:=Tryz.sizeOf303
 v212:=Tryz.zeroValue303
 t213:=Tryz.underlying304
 a213:=Tryz.isAgg304
 z213:=Tryz.sizeOf304
 t232:=Tryz.underlying312
 a232:=Tryz.isAgg312
 z232:=Tryz.sizeOf312
 v232:=Tryz.zeroValue312
 t233:=Tryz.underlying313
 a233:=Tryz.isAgg313
 z233:=Tryz.sizeOf313
 v233:=Tryz.zeroValue313
 g15:=by kernel_rfl
 g16:=by kernel_rfl
 g17:=by kernel_rfl
 g18:=by kernel_rfl
 g19:=by kernel_rfl
 t80:=Tryz.underlying78
 a80:=Tryz.isAgg78
 z80:=Tryz.sizeOf78
 v80:=Tryz.zeroValue78
 i0:=by kernel_rfl
 i2:=by kernel_rfl
 i3:=by kernel_rfl
 i4:=by kernel_rfl
 i5:=by kernel_rfl
 i9:=by kernel_rfl
 i20:=by kernel_rfl
 i21:=by kernel_rfl
 i37:=by kernel_rfl
 i46:=by kernel_rfl
 i51:=by kernel_rfl
 i53:=by kernel_rfl
 i75:=by kernel_rfl
 i76:=by kernel_rfl
 i80:=by kernel_rfl
 i85:=by kernel_rfl
 i127:=by kernel_rfl
 i143:=by kernel_rfl
 i145:=by kernel_rfl
 i167:=by kernel_rfl
 i168:=by kernel_rfl
 i171:=by kernel_rfl
 i173:=by kernel_rfl
 i175:=by kernel_rfl
 i210:=by kernel_rfl
 i212:=by kernel_rfl
 i232:=by kernel_rfl
 i233:=by kernel_rfl
 m15:=by kernel_rfl
 m16:=by kernel_rfl
 m17:=by kernel_rfl
 m18:=by kernel_rfl
 m19:=by kernel_rfl
 c0:=by kernel_rfl
 c2:=by kernel_rfl
 c3:=by kernel_rfl
 c4:=by kernel_rfl
 c5:=by kernel_rfl
 c9:=by kernel_rfl
 c20:=by kernel_rfl
 c21:=by kernel_rfl
 c37:=by kernel_rfl
 c46:=by kernel_rfl
 c51:=by kernel_rfl
 c53:=by kernel_rfl
 c75:=by kernel_rfl
 c76:=by kernel_rfl
 c80:=by kernel_rfl
 c85:=by kernel_rfl
 c127:=by kernel_rfl
 c143:=by kernel_rfl
 c145:=by kernel_rfl
 c167:=by kernel_rfl
 c168:=by kernel_rfl
 c171:=by kernel_rfl
 c173:=by kernel_rfl
 c175:=by kernel_rfl
 c210:=by kernel_rfl
 c212:=by kernel_rfl
 c213:=by kernel_rfl
 c232:=by kernel_rfl
 c233:=by kernel_rfl }
def Tryz.lays146_ren:Go.Shelf.Ren:=⟨fun|146=>51|221=>69|268=>129|138=>130|143=>131|195=>175|197=>176|218=>177|219=>178|260=>204|217=>205|225=>206|224=>207|267=>208|266=>229|314=>230|n=>n,fun|9=>9|31=>24|3=>3|4=>4|0=>0|105=>240|21=>21|5=>5|46=>134|119=>286|139=>289|138=>288|146=>197|51=>196|n=>n,fun|1=>8|3=>9|4=>10|n=>n⟩
theorem Tryz.lays146:Go.Proofs.Lays.n146 Tryz.prog Tryz.lays146_ren:={
 mixed:=by kernel_rfl
 f138:=Tryz.func130.trans (congrArg some (by kernel_rfl))
 f143:=Tryz.func131.trans (congrArg some (by kernel_rfl))
 f146:=Tryz.func51.trans (congrArg some (by kernel_rfl))
 f195:=Tryz.func175.trans (congrArg some (by kernel_rfl))
 f197:=Tryz.func176.trans (congrArg some (by kernel_rfl))
 f217:=Tryz.func205.trans (congrArg some (by kernel_rfl))
 f218:=Tryz.func177.trans (congrArg some (by kernel_rfl))
 f219:=Tryz.func178.trans (congrArg some (by kernel_rfl))
 f221:=Tryz.func69.trans (congrArg some (by kernel_rfl))
 f224:=Tryz.func207.trans (congrArg some (by kernel_rfl))
 f225:=Tryz.func206.trans (congrArg some (by kernel_rfl))
 f260:=Tryz.func204.trans (congrArg some (by kernel_rfl))
 f266:=Tryz.func229.trans (congrArg some (by kernel_rfl))
 f267:=Tryz.func208.trans (congrArg some (by kernel_rfl))
 f268:=Tryz.func129.trans (congrArg some (by kernel_rfl))
 f314:=Tryz.func230.trans (congrArg some (by kernel_rfl))
 t0:=Tryz.underlying0
 a0:=Tryz.isAgg0
 z0:=Tryz.sizeOf0
 v0:=Tryz.zeroValue0
 t3:=Tryz.underlying3
 a3:=Tryz.isAgg3
 z3:=Tryz.sizeOf3
 v3:=Tryz.zeroValue3
 t4:=Tryz.underlying4
 a4:=Tryz.isAgg4
 z4:=Tryz.sizeOf4
 v4:=Tryz.zeroValue4
 t5:=Tryz.underlying5
 a5:=Tryz.isAgg5
 z5:=Tryz.sizeOf5
 v5:=Tryz.zeroValue5
 t9:=Tryz.underlying9
 a9:=Tryz.isAgg9
 z9:=Tryz.sizeOf9
 v9:=Tryz.zeroValue9
 t21:=Tryz.underlying21
 a21:=Tryz.isAgg21
 z21:=Tryz.sizeOf21
 v21:=Tryz.zeroValue21
 t31:=Tryz.underlying24
 a31:=Tryz.isAgg24
 z31:=Tryz.sizeOf24
 v31:=Tryz.zeroValue24
 t46:=Tryz.underlying134
 a46:=Tryz.isAgg134
 z46:=Tryz.sizeOf134
 v46:=Tryz.zeroValue134
 t51:=Tryz.underlying196
 a51:=Tryz.isAgg196
 z51:=Tryz.sizeOf196
 v51:=Tryz.zeroValue196
 t105:=Tryz.underlying240
 a105:=Tryz.isAgg240
 z105:=Tryz.sizeOf240
 v105:=Tryz.zeroValue240
 t119:=Tryz.underlying286
 a119:=Tryz.isAgg286
 z119:=Tryz.sizeOf286
 t138:=Tryz.underlying288
 a138:=Tryz.isAgg288
 z138:=Tryz.sizeOf288
 v138:=Tryz.zeroValue288
 t139:=Tryz.underlying289
 a139:=Tryz.isAgg289
 z139:=Tryz.sizeOf289
 v139:=Tryz.zeroValue289
 t146:=Tryz.underlying197
 a146:=Tryz.isAgg197
 z146:=Tryz.sizeOf197
 v146:=Tryz.zeroValue197
 g1:=by kernel_rfl
 g3:=by kernel_rfl
 g4:=by kernel_rfl }
open Go.RowKit Go.Lib in
theorem Tryz.strings_Split (s sep:ByteArray) (m:Int) (w:World) (hs:s.size<4294967281) (hm:w.cell? ⟨8,0,none⟩=some (.int .i64 m)) (h1:1≤sep.size) :
  Calls Tryz.prog 51 #[.string s,.string sep] w fun e w' =>
   e = .returned (.slice (some ⟨w.heap.size,0,none⟩) (Lib.countB s sep+1) (Lib.countB s sep+1))∧w'=w.alloc (.cells ((Lib.splitB sep 0 (Lib.countB s sep) s).map Value.string).toArray 9):=Any.strings_Split Tryz.lays146 (by kernel_rfl) s sep m w hs hm h1
def Tryz.lays105_ren:Go.Shelf.Ren:=⟨fun|105=>53|212=>71|99=>72|165=>73|166=>74|170=>75|169=>76|263=>133|264=>134|206=>135|240=>136|241=>137|276=>181|277=>182|n=>n,fun|9=>9|3=>3|4=>4|20=>20|0=>0|46=>134|109=>135|5=>5|72=>140|76=>141|51=>196|146=>197|53=>199|148=>200|70=>138|37=>49|75=>36|127=>202|164=>177|80=>78|n=>n,fun|n=>n⟩
theorem Tryz.lays105:Go.Proofs.Lays.n105 Tryz.prog Tryz.lays105_ren:={
 mixed:=by kernel_rfl
 f99:=Tryz.func72.trans (congrArg some (by kernel_rfl))
 f105:=Tryz.func53.trans (congrArg some (by kernel_rfl))
 f165:=Tryz.func73.trans (congrArg some (by kernel_rfl))
 f166:=Tryz.func74.trans (congrArg some (by kernel_rfl))
 f169:=Tryz.func76.trans (congrArg some (by kernel_rfl))
 f170:=Tryz.func75.trans (congrArg some (by kernel_rfl))
 f206:=Tryz.func135.trans (congrArg some (by kernel_rfl))
 f212:=Tryz.func71.trans (congrArg some (by kernel_rfl))
 f240:=Tryz.func136.trans (congrArg some (by kernel_rfl))
 f241:=Tryz.func137.trans (congrArg some (by kernel_rfl))
 f263:=Tryz.func133.trans (congrArg some (by kernel_rfl))
 f264:=Tryz.func134.trans (congrArg some (by kernel_rfl))
 f276:=Tryz.func181.trans (congrArg some (by kernel_rfl))
 f277:=Tryz.func182.trans (congrArg some (by kernel_rfl))
 t0:=Tryz.underlying0
 a0:=Tryz.isAgg0
 z0:=Tryz.sizeOf0
 v0:=Tryz.zeroValue0
 t3:=Tryz.underlying3
 a3:=Tryz.isAgg3
 z3:=Tryz.sizeOf3
 v3:=Tryz.zeroValue3
 t4:=Tryz.underlying4
 a4:=Tryz.isAgg4
 z4:=Tryz.sizeOf4
 v4:=Tryz.zeroValue4
 t5:=Tryz.underlying5
 a5:=Tryz.isAgg5
 z5:=Tryz.sizeOf5
 v5:=Tryz.zeroValue5
 t9:=Tryz.underlying9
 a9:=Tryz.isAgg9
 z9:=Tryz.sizeOf9
 v9:=Tryz.zeroValue9
 t20:=Tryz.underlying20
 a20:=Tryz.isAgg20
 z20:=Tryz.sizeOf20
 v20:=Tryz.zeroValue20
 t37:=Tryz.underlying49
 a37:=Tryz.isAgg49
 z37:=Tryz.sizeOf49
 v37:=Tryz.zeroValue49
 t46:=Tryz.underlying134
 a46:=Tryz.isAgg134
 z46:=Tryz.sizeOf134
 v46:=Tryz.zeroValue134
 t51:=Tryz.underlying196
 a51:=Tryz.isAgg196
 z51:=Tryz.sizeOf196
 v51:=Tryz.zeroValue196
 t53:=Tryz.underlying199
 a53:=Tryz.isAgg199
 z53:=Tryz.sizeOf199
 v53:=Tryz.zeroValue199
 t70:=Tryz.underlying138
 a70:=Tryz.isAgg138
 z70:=Tryz.sizeOf138
 v70:=Tryz.zeroValue138
 t72:=Tryz.underlying140
 a72:=Tryz.isAgg140
 z72:=Tryz.sizeOf140
 v72:=Tryz.zeroValue140
 t75:=Tryz.underlying36
 a75:=Tryz.isAgg36
 z75:=Tryz.sizeOf36
 v75:=Tryz.zeroValue36
 t76:=Tryz.underlying141
 a76:=Tryz.isAgg141
 z76:=Tryz.sizeOf141
 v76:=Tryz.zeroValue141
 t109:=Tryz.underlying135
 a109:=Tryz.isAgg135
 z109:=Tryz.sizeOf135
 v109:=Tryz.zeroValue135
 t127:=Tryz.underlying202
 a127:=Tryz.isAgg202
 z127:=Tryz.sizeOf202
 v127:=Tryz.zeroValue202
 t146:=Tryz.underlying197
 a146:=Tryz.isAgg197
 z146:=Tryz.sizeOf197
 v146:=Tryz.zeroValue197
 t148:=Tryz.underlying200
 a148:=Tryz.isAgg200
 z148:=Tryz.sizeOf200
 v148:=Tryz.zeroValue200
 t164:=Tryz.underlying177
 a164:=Tryz.isAgg177
 z164:=Tryz.sizeOf177
 v164:=Tryz.zeroValue177 }
theorem Tryz.Builder_Extra_105:Builder.Extra Tryz.prog Tryz.lays105_ren:={
 sizeBuilder:=by kernel_rfl
 liesBuilder:=by kernel_rfl
 t5:=Tryz.underlying5
 a5:=Tryz.isAgg5
 z5:=Tryz.sizeOf5
 v5:=Tryz.zeroValue5
 infoByte:=by kernel_rfl
 cellsByte:=by kernel_rfl
 sizeByte:=by kernel_rfl
 neB5:=by decide }
open Go.RowKit Go.Lib in
theorem Tryz.strings_Repeat (s:ByteArray) (c:Nat) (w:World) (hc:c≤9223372036854775807) (hlen:s.size*c≤140737488355328) :
  Calls Tryz.prog 53 #[.string s,.int .i64 c] w fun e w'=>e = .returned (.string ⟨(Lib.repeatL s.data.toList c).toArray⟩)∧Below w.heap.size w w':=Any.strings_Repeat Tryz.lays105 Tryz.Builder_Extra_105 s c w hc hlen
end Go.Proofs
end

/-! ScA -/
section
namespace Go.HL
open Go Go.Proofs Go.RowKit
def Zl0 (F:Nat) (fr:Nat × Nat):Obj := .cells ⟨Lib.pow10Tab.map fun z=>Value.int .u64 z⟩ F fr
structure Sz (L:Zb):Prop where
 ml : ∃ m,Gl L 8 (iv m)
 tb : ∃ F fr,Has L 14 (Zl0 F fr)
 es : ∃ t v,Gl L 11 (.iface t v)
 er : ∃ t v,Gl L 12 (.iface t v)
theorem Sz.mono {L L':Zb} (h:Sz L) (hl : ∀ b o,Has L b o→Has L' b o):Sz L':=by
 obtain ⟨⟨m,h1⟩,⟨F,fr,h2⟩,⟨t,v,h3⟩,⟨u,x,h4⟩⟩:=h
 exact ⟨⟨m,h1.mono hl⟩,⟨F,fr,hl _ _ h2⟩,⟨t,v,h3.mono hl⟩,⟨u,x,h4.mono hl⟩⟩
theorem Sz.cons {L:Zb} (h:Sz L) (c:List Zr):Sz (c::L):=h.mono fun _ _ hb=>Zc hb
theorem Zoc {w:World} {L:Zb} (h : ∀ p∈L.flatten,w.heap[p.1]? = some p.2) {g:Nat} {v:Value} (hg:Gl L g v):w.cell? ⟨g,0,none⟩=some v:=by
 obtain ⟨l,E,fr,h1,h2⟩:=hg
 exact Zq1 h h1 h2
theorem Zqd (w:World) (e:TypeId) (s:ByteArray):Below w.heap.size w (Lib.bytesWorld w e s):=Lib.bytesWorld_below w e s
theorem Zqe (w:World) (k:Nat) (os:Array Obj):Below w.heap.size w (Sort.grow (w.drewN k) os):=
 ⟨rfl,rfl,rfl,by show w.heap.size≤(w.heap++os).size;rw [Array.size_append];omega,fun j hj=>by
  show (w.heap++os)[j]? = _
  rw [Array.getElem?_append,if_pos hj]⟩
theorem Uo (n:Int) (h0 : -9223372036854775808≤n) (h1:n≤9223372036854775807) {F:Nat} {fr:Nat × Nat} (L:Zb) (ht:Has L 14 (Zl0 F fr)):HC Tryz.prog 104 [iv n] L (fun v L'=>v=bs (Lib.itoa n)∧L'=L):=by
 refine Zcz (V:=fun v=>v=bs (Lib.itoa n)) (fun _ _=>Tryz.call104 _ _) fun w hw=>?_
 refine (Tryz.strconv_Itoa n h0 h1 w ?_).mono ?_
 ·show World.var? _ _ _=_
  have h9:=hw _ ht
  unfold Zl0 at h9
  simp only at h9
  have hg:Program.globalNamed Tryz.prog "internal/strconv.uint64pow10" = some 14:=by kernel_rfl
  simp [World.var?,hg,h9]
 ·rintro e w' ⟨rfl,k,os,rfl⟩
  exact ⟨_,rfl,rfl,Zqe w k os⟩
theorem Zeu (n:Int) (h0 : -9223372036854775808≤n) (h1:n≤9223372036854775807) (L:Zb) (hS:Sz L):HC Tryz.prog 104 [iv n] L (fun v L'=>v=bs (Lib.itoa n)∧L'=L):=by
 obtain ⟨F,fr,ht⟩:=hS.tb
 exact Uo n h0 h1 L ht
def Zd0 (s:List UInt8):Option Int:=
 match Lib.atoiAll s with
 | .ok v=>if s.length≤5∧0≤v∧Lib.itoa v=s then some v else none
 | _=>none
theorem Ztr (s:List UInt8) (hs:s.length≤1000000) (L:Zb) (hS:Sz L):HC Tryz.prog 132 [bs s] L (fun v L'=>(∃ k e,v = .tuple ⟨[iv k,e]⟩∧((Lib.atoiAll s = .ok k∧e = .nilIface)∨((∀ n,Lib.atoiAll s ≠ .ok n) ∧ ∃ t N,e = .iface t (pt N 0))))∧L'=L):=by
 obtain ⟨t1,v1,h1⟩:=hS.es
 obtain ⟨t2,v2,h2⟩:=hS.er
 have hz:(⟨⟨s⟩⟩:ByteArray).size≤1000000:=by simpa [ByteArray.size] using hs
 refine Zcz (V:=fun v => ∃ k e,v = .tuple ⟨[iv k,e]⟩∧((Lib.atoiAll s = .ok k∧e = .nilIface)∨((∀ n,Lib.atoiAll s ≠ .ok n) ∧ ∃ t N,e = .iface t (pt N 0)))) (fun _ _=>Tryz.call132 _ _) fun w hw=>?_
 cases ha:Lib.atoiAll s with
 | ok k =>
  refine (Any.strconv_Atoi_ok Tryz.laysC172 ⟨⟨s⟩⟩ (by omega) k ha w).mono ?_
  rintro e w' ⟨rfl,hb⟩
  refine ⟨_,rfl,⟨k,_,rfl,.inl ⟨rfl,rfl⟩⟩,?_⟩
  rcases hb with rfl|⟨t,rfl⟩
  ·exact Below.refl _ _
  ·exact Zqd _ _ _
 | range =>
  refine (Any.strconv_Atoi_range Tryz.laysC172 ⟨⟨s⟩⟩ (by omega) ha _ w (Zoc hw h2) (.inr ⟨_,_,rfl⟩)).mono ?_
  rintro e w' ⟨N,rfl,-,-,hb⟩
  exact ⟨_,rfl,⟨_,_,rfl,.inr ⟨fun n h=>(by cases h),_,_,rfl⟩⟩,hb⟩
 | _ =>
  refine (Any.strconv_Atoi_syntax Tryz.laysC172 ⟨⟨s⟩⟩ (by omega) ha _ w (Zoc hw h1) (.inr ⟨_,_,rfl⟩)).mono ?_
  rintro e w' ⟨N,rfl,-,-,hb⟩
  exact ⟨_,rfl,⟨_,_,rfl,.inr ⟨fun n h=>(by cases h),_,_,rfl⟩⟩,hb⟩
def Y4:List UInt8→List (List UInt8)
 | []=>[[]]
 | c::r=>if c=32 then []::Y4 r else match Y4 r with
  | x::q=>(c::x)::q
  | []=>[[c]]
theorem Zhw : ∀ s:List UInt8,Lib.split s [32]=Y4 s
 | []=>by simp [Lib.split,Lib.count_miss (s:=[]) (sub:=[32]) rfl,Lib.splitK,Y4]
 | c :: r=>by
  have ih:=Zhw r
  unfold Lib.split at *
  by_cases h:c=32
  ·subst h
   have hix:Lib.index (32::r) [32]=((0:Nat):Int):=by rw [Lib.index];simp [List.isPrefixOf]
   rw [Lib.count_cons_eq,Nat.add_comm,Lib.splitK,hix]
   simp [Y4,ih]
  ·rw [Lib.count_cons_ne c 32 r h]
   have hp:([32]:List UInt8).isPrefixOf (c::r)=false:=by simp [List.isPrefixOf,Ne.symm h]
   have hix:Lib.index (c::r) [32]=if Lib.index r [32] == -1 then -1 else Lib.index r [32]+1:=by rw [Lib.index,hp];simp
   simp only [Y4,if_neg h]
   rw [← ih]
   cases hk:Lib.count r [32] with
   | zero=>simp [Lib.splitK]
   | succ k =>
    simp only [Lib.splitK,hix]
    have hge:=Lib.index_ge r [32]
    by_cases hm:Lib.index r [32] = -1
    ·simp [hm]
    ·obtain ⟨j,hj⟩ : ∃ j:Nat,Lib.index r [32]=j:=⟨(Lib.index r [32]).toNat,by omega⟩
     have e1:((Lib.index r [32] == -1)=true)=False:=by simp [hm]
     have e2:((j:Int)+1 == -1)=false:=by
      rw [beq_eq_false_iff_ne]
      omega
     have e3:((j:Int)+1).toNat=j+1:=by omega
     have e4:((j:Int) == -1)=false:=by
      rw [beq_eq_false_iff_ne]
      omega
     simp [hj,e2,e3,e4]
theorem Zg1 : ∀ s:List UInt8,(Y4 s).length≤s.length+1 ∧ ∀ x∈Y4 s,x.length≤s.length
 | []=>by simp [Y4]
 | c :: r=>by
  obtain ⟨h1,h2⟩:=Zg1 r
  unfold Y4
  split
  ·refine ⟨by simp only [List.length_cons];omega,fun x hx=>?_⟩
   rcases List.mem_cons.1 hx with rfl|hx
   ·simp
   ·have:=h2 x hx
    simp only [List.length_cons];omega
  ·split
   ·rename_i x q hq
    rw [hq] at h1 h2
    refine ⟨by simp only [List.length_cons] at *;omega,fun y hy=>?_⟩
    rcases List.mem_cons.1 hy with rfl|hy
    ·have:=h2 x (List.mem_cons_self)
     simp only [List.length_cons];omega
    ·have:=h2 y (List.mem_cons_of_mem _ hy)
     simp only [List.length_cons];omega
   ·exact ⟨by simp,fun y hy=>by simp at hy;subst hy;simp⟩
def Zab (s:List UInt8):List Value:=[bs s]
theorem Xo (s:List UInt8):(Zab s).length=1:=rfl
theorem U7 (s:List UInt8):(Zab s).all Value.oneCell'=true:=rfl
theorem Zhv (s:List UInt8) (hs:s.length≤1000000) (L:Zb) (hS:Sz L):HC Tryz.prog 51 [bs s,bs [32]] L (fun v L' => ∃ b,v=sl b 0 (Y4 s).length (Y4 s).length∧L'=[(b,.cells ⟨((Y4 s).map Zab).flatten⟩ 9)]::L):=by
 obtain ⟨m,hm⟩:=hS.ml
 have hz:(⟨⟨s⟩⟩:ByteArray).size=s.length:=by simp [ByteArray.size]
 have e1:Lib.countB ⟨⟨s⟩⟩ ⟨⟨[32]⟩⟩=Lib.count s [32]:=rfl
 have e2:=Lib.splitB_data ⟨⟨[32]⟩⟩ 0 (Lib.count s [32]) ⟨⟨s⟩⟩
 have e3:Lib.splitK [32] 0 (Lib.count s [32]) s=Y4 s:=Zhw s
 have e4:(Lib.splitB ⟨⟨[32]⟩⟩ 0 (Lib.count s [32]) ⟨⟨s⟩⟩).length=Lib.count s [32]+1:=Lib.splitB_all ⟨⟨[32]⟩⟩ (by decide) 0 _ ⟨⟨s⟩⟩ rfl
 have e5:(Lib.splitB ⟨⟨[32]⟩⟩ 0 (Lib.count s [32]) ⟨⟨s⟩⟩).map (·.data.toList)=Y4 s:=e2.trans e3
 have e6:(Y4 s).length=Lib.count s [32]+1:=by rw [← e5,List.length_map,e4]
 have e7:(Lib.splitB ⟨⟨[32]⟩⟩ 0 (Lib.count s [32]) ⟨⟨s⟩⟩).map Value.string=((Y4 s).map Zab).flatten:=by
  rw [← e5,List.map_map]
  generalize Lib.splitB ⟨⟨[32]⟩⟩ 0 (Lib.count s [32]) ⟨⟨s⟩⟩=l
  induction l with
  | nil=>rfl
  | cons x l ih=>simp only [List.map_cons,List.flatten_cons,Function.comp,Zab,List.singleton_append,ih]
 refine hc_alloc (V:=fun b=>sl b 0 (Y4 s).length (Y4 s).length) (fun _ _=>Tryz.call51 _ _) fun w hw=>?_
 refine (Tryz.strings_Split ⟨⟨s⟩⟩ ⟨⟨[32]⟩⟩ m w (by omega) (Zoc hw hm) (by decide)).mono ?_
 rintro e w' ⟨rfl,rfl⟩
 rw [e1,e6,e7]
 exact ⟨rfl,rfl⟩
theorem Zo6 (k:Nat) (hk:k≤1000000) (L:Zb):HC Tryz.prog 53 [bs [110],iv k] L (fun v L'=>v=bs (List.replicate k 110)∧L'=L):=by
 refine Zcz (V:=fun v=>v=bs (List.replicate k 110)) (fun _ _=>Tryz.call53 _ _) fun w hw=>?_
 refine (Tryz.strings_Repeat ⟨⟨[110]⟩⟩ k w (by omega) (by show 1*k≤_;omega)).mono ?_
 rintro e w' ⟨rfl,hb⟩
 refine ⟨_,rfl,?_,hb⟩
 have:=Lib.repeatL_replicate 110 1 k
 rw [show List.replicate 1 (110:UInt8)=[110] from rfl,Nat.mul_one] at this
 show Value.string ⟨⟨Lib.repeatL [110] k⟩⟩=_
 rw [this]
def Vi:List (List UInt8)→List UInt8
 | []=>[]
 | [x]=>x
 | x::y::r=>x++([44,32]++Vi (y::r))
theorem Zwm : ∀ l:List (List UInt8),Lib.join l [44,32]=Vi l
 | []=>rfl
 | [x]=>by simp [Lib.join,List.intercalate,Vi]
 | x::y::r=>by
  have ih:=Zwm (y::r)
  show [44,32].intercalate (x::y::r)=x++([44,32]++Vi (y::r))
  rw [← ih]
  simp [Lib.join,List.intercalate,List.intersperse]
theorem Zuf (a:Option Addr) (cap:Nat) (l:List (List UInt8)) (L:Zb) (hR:Rd Zab 1 L a l) (hl:l.length≤cap) (h1:l.length≤100000000) (h2:(Vi l).length≤100000000000):HC Tryz.prog 116 [.slice a l.length cap,bs [44,32]] L (fun v L'=>v=bs (Vi l)∧L'=L):=by
 have he:(l.map fun x=>(⟨⟨x⟩⟩:ByteArray)).map (·.data.toList)=l:=by
  rw [List.map_map]
  exact List.map_id' l
 have hj:Lib.join ((l.map fun x=>(⟨⟨x⟩⟩:ByteArray)).map (·.data.toList)) [44,32]=Vi l:=by rw [he,Zwm]
 rcases hR with rfl|⟨b,i,q,E,fr,rfl,hb,hg⟩
 ·refine Zcz (V:=fun v=>v=bs (Vi [])) (fun _ _=>Tryz.call116 _ _) fun w hw=>?_
  refine (Any.strings_Join_none Tryz.lays156 Tryz.Builder_Extra_156 a cap ⟨⟨[44,32]⟩⟩ w).mono ?_
  rintro e w' ⟨rfl,rfl⟩
  exact ⟨_,rfl,rfl,Below.refl _ _⟩
 ·refine Zcz (V:=fun v=>v=bs (Vi l)) (fun _ _=>Tryz.call116 _ _) fun w hw=>?_
  have hlen:(l.map fun x=>(⟨⟨x⟩⟩:ByteArray)).length=l.length:=by rw [List.length_map]
  rw [← hlen]
  refine (Tryz.strings_Join b i cap (l.map fun x=>(⟨⟨x⟩⟩:ByteArray)) ⟨⟨[44,32]⟩⟩ w ?_ (Zmr hw hb) (by rw [hlen];omega) (by rw [hlen];exact hl) ?_).mono ?_
  ·intro j x hx
   rw [List.getElem?_map,Option.map_eq_some_iff] at hx
   obtain ⟨y,hy,rfl⟩:=hx
   refine Zq1 hw hb ?_
   have h9:=hg j y hy
   rw [Nat.mul_one] at h9
   exact h9.at0 rfl
  ·show (Lib.join _ [44,32]).length≤_
   rw [hj]
   omega
  ·rintro e w' ⟨rfl,hb⟩
   refine ⟨_,rfl,?_,hb⟩
   show Value.string ⟨⟨Lib.join _ [44,32]⟩⟩=_
   rw [hj]
end Go.HL
end

/-! HLMs -/
section
namespace Go.HL
open Go
set_option linter.unusedSectionVars false
def Zh2 (es:List MapEntry) (l:List (List UInt8 × Value)):Prop:=es.map (fun e=>(e.key,e.val))=l.map fun p=>(bs p.1,p.2)
def Zfl (a:List UInt8):List (List UInt8 × Value)→Nat→Option (Nat × Value)
 | [],_=>none
 | (x,v)::r,i=>if a=x then some (i,v) else Zfl a r (i+1)
def Uq (a:List UInt8):List (List UInt8 × Value)→Option Value
 | []=>none
 | (x,v)::r=>if a=x then some v else Uq a r
theorem Zer (a:List UInt8) : ∀ (l:List (List UInt8 × Value)) (i:Nat),(Zfl a l i).map (·.2)=Uq a l
 | [],i=>rfl
 | (x,v)::r,i=>by
  simp only [Zfl,Uq]
  split
  ·rfl
  ·exact Zer a r (i+1)
theorem Zxs (a b:List UInt8):((⟨⟨a⟩⟩:ByteArray) == ⟨⟨b⟩⟩)=decide (a=b):=by
 by_cases h:a=b
 ·subst h
  simp only [decide_true]
  show ByteArray.beq _ _=true
  unfold ByteArray.beq
  simp
 ·simp only [h,decide_false]
  show ByteArray.beq _ _=false
  unfold ByteArray.beq
  simp [h]
section k
variable {P:Program} (S:Tab P) {n:Nat} {ops:List Oper} {Q:Exit→Z5→Zb→Prop} {rest:List Oper} {ρ:Z5} {L:Zb} {ty:TypeId} {pos:String} {af:Array Edge}
theorem Zmf {kt:TypeId} (hd:P.underlying kt=some .string) (w:World) (a:List UInt8) {es:List MapEntry} {l:List (List UInt8 × Value)} (h:Zh2 es l):(Instr.findKey kt (bs a) es).run P w = .ok (Zfl a l 0) w:=by
 refine MapKept.run_findKey hd ?_
 have key : ∀ (es:List MapEntry) (l:List (List UInt8 × Value)) (i:Nat),Zh2 es l→Instr.findNow .string (bs a) es i=some (Zfl a l i):=by
  intro es
  induction es with
  | nil =>
   intro l i h
   cases l with
   | nil=>rfl
   | cons p r=>simp [Zh2] at h
  | cons e es ih =>
   intro l i h
   cases l with
   | nil=>simp [Zh2] at h
   | cons p r =>
    obtain ⟨x,b⟩:=p
    simp only [Zh2,List.map_cons,List.cons.injEq,Prod.mk.injEq] at h
    obtain ⟨⟨h1,h2⟩,h3⟩:=h
    simp only [Instr.findNow,h1,bs,Instr.sameNow,Zxs,Zfl]
    by_cases hax:a=x
    ·subst hax;simp [h2]
    ·simp [hax,← ih r (i+1) h3,bs]
 exact key es l 0 h
theorem Zq8 (a:List UInt8):MapKept.IsKey .string (bs a):=trivial
theorem qmS {d:Option Tmp} {g:Option (Nat × Bool)} {t kt et s0 b0 x1 y1 s1 b1 r ck:Nat} {x y:Operand} {es:List MapEntry} {l:List (List UInt8 × Value)} {a:List UInt8} {z:Value} (hF:Zh2 es l) (h00:X4 ρ=true:=by exact rfl) (hx:ev ρ x=some (.map (some r)):=by exact rfl) (hy:ev ρ y=some (bs a):=by exact rfl)
  (ht:Yh S.ty t=some ⟨8,kt,et,s0,b0⟩:=by exact rfl) (hk:Yh S.ty kt=some ⟨3,x1,y1,s1,b1⟩:=by exact rfl) (hz:Yh S.zr et=some z:=by exact rfl) (hb:Has L r (.map ⟨es⟩ ck):=by (repeat (first|assumption|exact Zh|exact Yo (by assumption)|apply Wy|apply Zc))) :
  QOp P ⟨d,.lookup t x y true,ty,pos,af,g⟩ ρ L (.tuple ⟨[(Uq a l).getD z,.bool (Uq a l).isSome]⟩):=
 Yz fun ρe he k w hs=>by
  have hm:=Zpn (S.tyI ht) rfl
  have hd:=Uv (S.tyI hk) rfl
  have hzero:=Qz (S.zeroI hz) w
  have hh:=MapKept.run_getObj_map (P:=P) (hs.heap hb)
  have hfind:=Zmf hd w a hF
  have hl:(Instr.lookup t (.map (some r)) (bs a) true).run P w = .ok (.tuple ⟨[(Uq a l).getD z,.bool (Uq a l).isSome]⟩) w:=by
   unfold Instr.lookup
   simp only [Sem.run_bind,run_underlying hm,Result.andThen_ok,hh,Sem.run_pure,MapKept.run_checkKey hd (Zq8 a) _ 9999,hfind]
   rw [← Zer a l 0]
   cases Zfl a l 0 with
   | none=>simp [hzero]
   | some q=>simp
  simp only [execOp,he x (by simp [Op.operands]) _ hx,he y (by simp [Op.operands]) _ hy,Sem.run_bind,hl,Result.andThen_ok,Sem.run_pure]
theorem Zpy {t kt et s0 b0 x1 y1 s1 b1 r ck:Nat} {x y z:Operand} {es:List MapEntry} {l:List (List UInt8 × Value)} {a:List UInt8} {v:Value} (hF:Zh2 es l) (hn:Uq a l=none) (h : ∀ es' ck',Zh2 es' (l++[(a,v)])→HO P n ops Q rest ρ ([(r,.map ⟨es'⟩ ck')]::L)) (h00:X4 ρ=true:=by exact rfl) (hx:ev ρ x=some (.map (some r)):=by exact rfl) (hy:ev ρ y=some (bs a):=by exact rfl) (hzz:ev ρ z=some v:=by exact rfl)
  (ht:Yh S.ty t=some ⟨8,kt,et,s0,b0⟩:=by exact rfl) (hk:Yh S.ty kt=some ⟨3,x1,y1,s1,b1⟩:=by exact rfl) :
  HO P n ops Q (⟨none,.insert t x y z,ty,pos,af,none⟩::rest) ρ ([(r,.map ⟨es⟩ ck)]::L):=by
 refine Zwf rfl rfl fun ρe he k w hs=>?_
 have hm:=Zpn (S.tyI ht) rfl
 have hd:=Uv (S.tyI hk) rfl
 have hb0:w.heap[r]? = some (.map ⟨es⟩ ck):=hs.heap Zh
 have hh:=MapKept.run_getObj_map (P:=P) hb0
 have hfind:=Zmf hd w a hF
 have e1:=he x (by simp [Op.operands]) _ hx
 have e2:=he y (by simp [Op.operands]) _ hy
 have e3:=he z (by simp [Op.operands]) _ hzz
 have hfb:Zfl a l 0=none:=by
  have:=Zer a l 0
  rw [hn] at this
  cases hf:Zfl a l 0 with
  | none=>rfl
  | some q=>rw [hf] at this;cases this
 rw [hfb] at hfind
 have hs2:=MapKept.heap_set (o' := .map ⟨es++[{ key:=bs a,val:=v,born:=ck }]⟩ (ck+1)) hb0
 refine ⟨_,_,.inl ?_,hs.upd (w':={ w with heap:=w.heap.setIfInBounds r (.map ⟨es++[{ key:=bs a,val:=v,born:=ck }]⟩ (ck+1)) }) W3 rfl rfl rfl hs2.1 (fun j hj=>hs2.2 j hj),h _ _ ?_⟩
 ·have hr:(Instr.mapUpdate t (.map (some r)) (bs a) v).run P w = .ok () { w with heap:=w.heap.setIfInBounds r (.map ⟨es++[{ key:=bs a,val:=v,born:=ck }]⟩ (ck+1)) }:=by
   unfold Instr.mapUpdate
   simp only [Sem.run_bind,run_underlying hm,Result.andThen_ok,hh,MapKept.run_checkKey hd (Zq8 a) _ 9999,hfind,MapKept.run_setObj_map _ hb0]
   simp
  simp [execOp,e1,e2,e3,hr]
 ·unfold Zh2 at *
  simp [hF]
theorem qLF {d:Option Tmp} {g:Option (Nat × Bool)} {t b i E:Nat} {x:Operand} {l:List Value} {fr:Nat × Nat} {v:Value} (hn : ∀ w,(isAgg t).run P w = .ok false w) (h00:X4 ρ=true:=by exact rfl) (hx:ev ρ x=some (pt b i):=by exact rfl)
  (hb:Has L b (.cells ⟨l⟩ E fr):=by (repeat (first|assumption|exact Zh|exact Yo (by assumption)|apply Wy|apply Zc))) (hv:l[i]? = some v:=by exact rfl):QOp P ⟨d,.load t x,ty,pos,af,g⟩ ρ L v:=
 Yz fun ρe he k w hs=>by
  have h1:=hn w
  have h2:w.cell? ⟨b,i,none⟩=some v:=by rw [hs.cell hb,hv]
  simp [execOp,he x (by simp [Op.operands]) _ hx,Instr.loadAt,Instr.sureAddr,loadVar,h1,h2]
theorem qQn {d:Option Tmp} {g:Option (Nat × Bool)} {t t':Nat} {x y:Operand} {u m:Nat} (hm:1≤m) (hu:u≤9223372036854775807) (h00:X4 ρ=true:=by exact rfl) (hx:ev ρ x=some (iv (-(u:Int))):=by exact rfl) (hy:ev ρ y=some (iv m):=by exact rfl):QOp P ⟨d,.binOp .quo t x y t',ty,pos,af,g⟩ ρ L (iv (-((u / m:Nat):Int))):=
 Xx hx hy fun w=>by
  have h1:u / m≤u:=Nat.div_le_self u m
  have e:(-(u:Int)).tdiv m = -((u / m:Nat):Int):=by rw [Int.neg_tdiv,Int.ofNat_tdiv]
  have hb:(m:Int)≠0:=by omega
  have key:IntKind.i64.wrap ((-(u:Int)).tdiv m) = -((u / m:Nat):Int):=by
   rw [e]
   generalize u / m=q at h1 ⊢
   exact Zac ⟨by omega,by omega⟩
  simp only [binOp,Op.intDiv]
  rw [if_neg (by simp),if_neg hb,key]
  rfl
theorem qRn {d:Option Tmp} {g:Option (Nat × Bool)} {t t':Nat} {x y:Operand} {u m:Nat} (hm:1≤m) (hu:u≤9223372036854775807) (h00:X4 ρ=true:=by exact rfl) (hx:ev ρ x=some (iv (-(u:Int))):=by exact rfl) (hy:ev ρ y=some (iv m):=by exact rfl):QOp P ⟨d,.binOp .rem t x y t',ty,pos,af,g⟩ ρ L (iv (-((u % m:Nat):Int))):=
 Xx hx hy fun w=>by
  have h1:u % m≤u:=Nat.mod_le u m
  have e:(-(u:Int)).tmod m = -((u % m:Nat):Int):=by rw [Int.neg_tmod,Int.ofNat_tmod]
  have hb:(m:Int)≠0:=by omega
  simp only [binOp,Op.intDiv]
  rw [if_neg (by simp),if_neg hb,e]
  rfl
theorem qNeg {d:Option Tmp} {g:Option (Nat × Bool)} {t:Nat} {x:Operand} {u:Nat} (hu:u≤9223372036854775807) (h00:X4 ρ=true:=by exact rfl) (hx:ev ρ x=some (iv u):=by exact rfl):QOp P ⟨d,.unOp .neg t x,ty,pos,af,g⟩ ρ L (iv (-(u:Int))):=
 Yz fun ρe he k w hs=>by
  have h1:IntKind.i64.wrap (-(u:Int)) = -(u:Int):=Zac ⟨by omega,by omega⟩
  simp [execOp,he x (by simp [Op.operands]) _ hx,Op.unary,Op.intArith,h1]
theorem gi {d:Nat} {x:Operand} {name:String} {ts:Array TypeId} {F t:Nat} {pv:Value} {R:Value→Zb→Prop} (hm : ∀ w,(callMethod (.iface t pv) name #[]).run P w = .ok (.enter F #[pv]) w) (hc:HC P F [pv] L R) (h : ∀ v L',R v L'→HO P n ops Q rest ((d,v)::ρ) L')
  (h00:X4 ρ=true:=by exact rfl) (hx:ev ρ x=some (.iface t pv):=by exact rfl) (hn:Nat.blt d n=true:=by exact rfl):HO P n ops Q (⟨some d,.call { callee := .invoke x name,args := #[],argTypes:=ts },ty,pos,af,none⟩::rest) ρ L:=by
 intro k w a hs haa
 have hlt:d<n:=Nat.le_of_ble_eq_true hn
 unfold wpList
 rw [if_pos (Vx _ rfl _)]
 refine .inl ?_
 unfold Oper.wp
 have e1:a.eval x = .iface t pv:=haa.ev hx
 have hr:(execOp a.eval ⟨some d,.call { callee := .invoke x name,args := #[],argTypes:=ts },ty,pos,af,none⟩).run P w = .ok (.enter F #[pv]) w:=by
  simp only [execOp,resolve,e1]
  simp [invoke,hm]
 rw [hr]
 refine (hc.2 k w hs).mono fun e w' ⟨u,L',h1,h2,h3⟩=>?_
 subst h1
 exact h u L' h3 k w' _ h2 (haa.put hlt u)
end k
section d
variable {P:Program} (S:Tab P) {n:Nat} {ops:List Oper} {Q:Exit→Z5→Zb→Prop} {Ss:List (Nat × Zr)} {rem rem':List (Nat × Oper)} {ρ:Z5} {L:Zb} {ty:TypeId} {pos:String} {af:Array Edge} {g:Option (Nat × Bool)} {d i:Nat}
theorem dqS {t kt et s0 b0 x1 y1 s1 b1 r ck:Nat} {x y:Operand} {es:List MapEntry} {l:List (List UInt8 × Value)} {a:List UInt8} {z:Value} (k:Nat) (hF:Zh2 es l) (hb:Has L r (.map ⟨es⟩ ck)) (hr:HD P n ops Q ((i,(r,.map ⟨es⟩ ck))::Ss) rem' ((d,.tuple ⟨[(Uq a l).getD z,.bool (Uq a l).isSome]⟩)::ρ) L)
  (h00:X4 ρ=true:=by exact rfl) (hp:Vr k rem=some ((i,⟨some d,.lookup t x y true,ty,pos,af,g⟩),rem'):=by exact rfl) (hx:ev ρ x=some (.map (some r)):=by exact rfl) (hy:ev ρ y=some (bs a):=by exact rfl) (ht:Yh S.ty t=some ⟨8,kt,et,s0,b0⟩:=by exact rfl) (hk:Yh S.ty kt=some ⟨3,x1,y1,s1,b1⟩:=by exact rfl) (hz:Yh S.zr et=some z:=by exact rfl)
  (hg:Yn ops ρ g=some true:=by exact rfl) (hn:Nat.blt d n=true:=by exact rfl) (hc:Zcj ops rem' i ⟨some d,.lookup t x y true,ty,pos,af,g⟩=true:=by decide +kernel):HD P n ops Q Ss rem ρ L:=
 d_l k (fun L h=>qmS S hF h00 hx hy ht hk hz h) hb hr h00 hp hg hn hc
end d
end Go.HL
end

/-! ScC -/
section
namespace Go.HL
open Go Go.Proofs
def actTab:List (List UInt8 × List UInt8 × Nat):=[([98,101,103,105,110],[100,100],82),
 ([114,101,102,117,115,101],[100,100],84),
 ([116,105,99,107],[100],86),
 ([103,111],[110],88),
 ([108,111,115,101],[110],90),
 ([116,119,105,99,101],[110],92),
 ([108,105,110,107],[100,100],94),
 ([98,114,101,97,107],[100,100],96),
 ([99,117,116],[100,110],97),
 ([100,111,119,110],[100],99),
 ([117,112],[100],101)]
def lookTab:List (List UInt8 × List UInt8 × Nat):=[([97,108,108],[],103),
 ([102,108,121],[],105),
 ([115,116,97,116,101],[100,100],107),
 ([108,101,97,100],[100,100],110),
 ([105,115],[100],112),
 ([101,118,101,110,116,115],[],114),
 ([99,104,101,99,107],[],117)]
def Zx0 (F:Nat):Value := .func (.func F) #[] #[]
def Zi8 (F:Nat):Obj := .cells ⟨[Zx0 F]⟩ 165
def Zd2 (f:List UInt8) (b:Nat):Value := .agg ⟨[bs f,.func (.func 142) #[] ⟨[pt b 0]⟩]⟩
def actL:List (List UInt8 × List UInt8 × Nat)→List Nat→List (List UInt8 × Value)
 | (w,f,_)::r,b::q=>(w,Zd2 f b)::actL r q
 | _,_=>[]
def Ux:List (List UInt8 × List UInt8 × Nat)→List Nat→List Zr
 | (_,_,F)::r,b::q=>(b,Zi8 F)::Ux r q
 | _,_=>[]
def Zro:List (List UInt8 × Value):=lookTab.map fun x=>(x.1,.agg ⟨[bs x.2.1,Zx0 x.2.2]⟩)
set_option maxHeartbeats 2000000 attribute [local irreducible] HW HO HQ HD HC QOp Has Upd Zt Gets Z8 Z0 Zo Xm Zz Zj Xp Zy
theorem Zfy (v:Value) (L:Zb):HC Tryz.prog 55 [v] L (fun u L'=>u = .tuple ⟨[bs [111,107],v]⟩∧L'=L):=by
 refine Za (fun _ _=>Tryz.call55 _ _) Tryz.func55 rfl Tryz.ntmps55 (Nat.le_of_ble_eq_true rfl) ?_;simp only [Zd,Nat.reduceAdd]
 repeat' (first|refine uN ?_)
 exact Zeb rfl ⟨rfl,rfl⟩
theorem one_form (f:List UInt8) (F:Nat) (L:Zb):HC Tryz.prog 81 [bs f,Zx0 F] L (fun u L' => ∃ b,u=Zd2 f b∧L'=[(b,Zi8 F)]::L):=by
 unfold Zx0
 refine Za (fun _ _=>Tryz.call81 _ _) Tryz.func81 rfl Tryz.ntmps81 (Nat.le_of_ble_eq_true rfl) ?_;simp only [Zd,Nat.reduceAdd]
 repeat' (first|refine uN ?_|(refine uB ?_;intro b)|fail)
 rename_i b1
 exact Z9 (L':=[(b1,Zi8 F)]::L) uL ⟨b1,rfl,rfl⟩ (hv:=Xy S (hg:=Xw _))
theorem Zhg (L:Zb):HC Tryz.prog 57 [] L (fun u L' => ∃ r es ck,u = .map (some r)∧Zh2 es Zro∧L'=[(r,.map ⟨es⟩ ck)]::L):=by
 refine Za (fun _ _=>Tryz.call57 _ _) Tryz.func57 rfl Tryz.ntmps57 (Nat.le_of_ble_eq_true rfl) ?_;simp only [Zd,Nat.reduceAdd]
 repeat' (first|refine uN ?_|(refine uB ?_;intro b)|fail)
 refine Zpy S (es:=[]) (l:=[]) rfl rfl ?_
 intro es1 ck1 h1
 repeat' (first|refine uN ?_|(refine uB ?_;intro b)|fail)
 refine Zpy S h1 rfl ?_
 intro es2 ck2 h2
 repeat' (first|refine uN ?_|(refine uB ?_;intro b)|fail)
 refine Zpy S h2 rfl ?_
 intro es3 ck3 h3
 repeat' (first|refine uN ?_|(refine uB ?_;intro b)|fail)
 refine Zpy S h3 rfl ?_
 intro es4 ck4 h4
 repeat' (first|refine uN ?_|(refine uB ?_;intro b)|fail)
 refine Zpy S h4 rfl ?_
 intro es5 ck5 h5
 repeat' (first|refine uN ?_|(refine uB ?_;intro b)|fail)
 refine Zpy S h5 rfl ?_
 intro es6 ck6 h6
 repeat' (first|refine uN ?_|(refine uB ?_;intro b)|fail)
 refine Zpy S h6 rfl ?_
 intro es7 ck7 h7
 repeat' (first|refine uN ?_|(refine uB ?_;intro b)|fail)
 exact Um rfl ⟨_,_,_,rfl,h7,rfl⟩
theorem Zbq (L:Zb):HC Tryz.prog 56 [] L (fun u L' => ∃ (r:Nat) (es:List MapEntry) (ck:Nat) (q:List Nat),u = .map (some r)∧Zh2 es (actL actTab q)∧q.length=11∧L'=((r,.map ⟨es⟩ ck)::(Ux actTab q).reverse)::L):=by
 have ko:=fun f F L=>one_form f F L
 unfold Zx0 at ko
 refine Za (fun _ _=>Tryz.call56 _ _) Tryz.func56 rfl Tryz.ntmps56 (Nat.le_of_ble_eq_true rfl) ?_;simp only [Zd,Nat.reduceAdd]
 repeat' (first|refine uN ?_|(refine uB ?_;intro b)|fail)
 refine gc (ko [100,100] 82 _) ?_
 rintro v1 L1 ⟨b1,rfl,rfl⟩
 unfold Zd2
 refine fo 1 ?_
 refine Zpy S (es:=[]) (l:=[]) rfl rfl ?_
 intro es1 ck1 h1
 repeat' (first|refine uN ?_|(refine uB ?_;intro b)|fail)
 refine gc (ko [100,100] 84 _) ?_
 rintro v2 L2 ⟨b2,rfl,rfl⟩
 unfold Zd2
 refine fo 1 ?_
 refine Zpy S h1 rfl ?_
 intro es2 ck2 h2
 repeat' (first|refine uN ?_|(refine uB ?_;intro b)|fail)
 refine gc (ko [100] 86 _) ?_
 rintro v3 L3 ⟨b3,rfl,rfl⟩
 unfold Zd2
 refine fo 1 ?_
 refine Zpy S h2 rfl ?_
 intro es3 ck3 h3
 repeat' (first|refine uN ?_|(refine uB ?_;intro b)|fail)
 refine gc (ko [110] 88 _) ?_
 rintro v4 L4 ⟨b4,rfl,rfl⟩
 unfold Zd2
 refine fo 1 ?_
 refine Zpy S h3 rfl ?_
 intro es4 ck4 h4
 repeat' (first|refine uN ?_|(refine uB ?_;intro b)|fail)
 refine gc (ko [110] 90 _) ?_
 rintro v5 L5 ⟨b5,rfl,rfl⟩
 unfold Zd2
 refine fo 1 ?_
 refine Zpy S h4 rfl ?_
 intro es5 ck5 h5
 repeat' (first|refine uN ?_|(refine uB ?_;intro b)|fail)
 refine gc (ko [110] 92 _) ?_
 rintro v6 L6 ⟨b6,rfl,rfl⟩
 unfold Zd2
 refine fo 1 ?_
 refine Zpy S h5 rfl ?_
 intro es6 ck6 h6
 repeat' (first|refine uN ?_|(refine uB ?_;intro b)|fail)
 refine gc (ko [100,100] 94 _) ?_
 rintro v7 L7 ⟨b7,rfl,rfl⟩
 unfold Zd2
 refine fo 1 ?_
 refine Zpy S h6 rfl ?_
 intro es7 ck7 h7
 repeat' (first|refine uN ?_|(refine uB ?_;intro b)|fail)
 refine gc (ko [100,100] 96 _) ?_
 rintro v8 L8 ⟨b8,rfl,rfl⟩
 unfold Zd2
 refine fo 1 ?_
 refine Zpy S h7 rfl ?_
 intro es8 ck8 h8
 repeat' (first|refine uN ?_|(refine uB ?_;intro b)|fail)
 refine gc (ko [100,110] 97 _) ?_
 rintro v9 L9 ⟨b9,rfl,rfl⟩
 unfold Zd2
 refine fo 1 ?_
 refine Zpy S h8 rfl ?_
 intro es9 ck9 h9
 repeat' (first|refine uN ?_|(refine uB ?_;intro b)|fail)
 refine gc (ko [100] 99 _) ?_
 rintro v10 L10 ⟨b10,rfl,rfl⟩
 unfold Zd2
 refine fo 1 ?_
 refine Zpy S h9 rfl ?_
 intro es10 ck10 h10
 repeat' (first|refine uN ?_|(refine uB ?_;intro b)|fail)
 refine gc (ko [100] 101 _) ?_
 rintro v11 L11 ⟨b11,rfl,rfl⟩
 unfold Zd2
 refine fo 1 ?_
 refine Zpy S h10 rfl ?_
 intro es11 ck11 h11
 repeat' (first|refine uN ?_|(refine uB ?_;intro b)|fail)
 exact Um (L':=((b,.map ⟨es11⟩ ck11)::(Ux actTab [b1,b2,b3,b4,b5,b6,b7,b8,b9,b10,b11]).reverse)::L) rfl ⟨b,es11,ck11,[b1,b2,b3,b4,b5,b6,b7,b8,b9,b10,b11],rfl,h11,rfl,rfl⟩
end Go.HL
end

/-! ScD -/
section
namespace Go.HL
open Go Go.Proofs
theorem Zov {s:List UInt8} {k:Int} (ha:Lib.atoiAll s = .ok k):Zd0 s=if (s.length:Int)≤5∧0≤k∧Lib.itoa k=s then some k else none:=by
 unfold Zd0
 rw [ha]
 simp only
 congr 1
 exact propext ⟨fun ⟨h1,h2,h3⟩=>⟨by omega,h2,h3⟩,fun ⟨h1,h2,h3⟩=>⟨by omega,h2,h3⟩⟩
theorem numC_no {s:List UInt8} (ha : ∀ n,Lib.atoiAll s ≠ .ok n):Zd0 s=none:=by
 unfold Zd0
 split
 ·rename_i v hv
  exact absurd hv (ha v)
 ·rfl
def Ua:List UInt8→List (List UInt8)→Option (List Int)
 | f::fr,w::wr=>match Zd0 w with
  | none=>none
  | some k=>if f.toNat=100∧9<k then none else (Ua fr wr).map (k :: ·)
 | _,_=>some []
def V9 (form:List UInt8) (ws:List (List UInt8)):Option (List Int):=if form.length=ws.length then Ua form ws else none
theorem Zb3 : ∀ (f1:List UInt8) (w1:List (List UInt8)) (f2:List UInt8) (w2:List (List UInt8)),f1.length=w1.length→Ua (f1++f2) (w1++w2)=(Ua f1 w1).bind fun a=>(Ua f2 w2).map (a ++ ·)
 | [],[],f2,w2,_=>by simp [Ua]
 | f::fr,w::wr,f2,w2,h=>by
  have ih:=Zb3 fr wr f2 w2 (by simpa using h)
  simp only [List.cons_append,Ua,ih]
  cases Zd0 w with
  | none=>rfl
  | some k =>
   simp only
   split
   ·rfl
   ·cases Ua fr wr with
    | none=>rfl
    | some m=>cases Ua f2 w2<;>simp
theorem Zbf : ∀ {f:List UInt8} {w:List (List UInt8)} {n:List Int},f.length=w.length→Ua f w=some n→n.length=w.length ∧ ∀ x∈n,0≤x∧x≤99999
 | [],[],n,_,h=>by cases h;simp
 | f :: fr,w::wr,n,hl,h=>by
  simp only [Ua] at h
  cases hk:Zd0 w with
  | none=>rw [hk] at h;cases h
  | some k =>
   rw [hk] at h
   simp only at h
   split at h
   ·cases h
   ·rw [Option.map_eq_some_iff] at h
    obtain ⟨m,hm,rfl⟩:=h
    obtain ⟨h1,h2⟩:=Zbf (by simpa using hl) hm
    refine ⟨by simp [h1],fun x hx=>?_⟩
    rcases List.mem_cons.1 hx with rfl|hx
    ·unfold Zd0 at hk
     split at hk
     ·rename_i v hv
      split at hk
      ·rename_i hc
       cases hk
       obtain ⟨c1,c2,c3⟩:=hc
       refine ⟨c2,?_⟩
       obtain ⟨u,rfl⟩:=Int.eq_ofNat_of_zero_le c2
       have h9:=congrArg List.length c3
       have h8:Lib.itoa (u:Int)=Lib.decDigits u:=by unfold Lib.itoa;rw [if_neg (by omega)];simp
       rw [h8,Lib.decDigits_length] at h9
       have h7:=Lib.lt_pow_nDigits u
       have h6:10 ^ Lib.nDigits u≤10 ^ 5:=Nat.pow_le_pow_right (by decide) (by omega)
       omega
      ·cases hk
     ·cases hk
    ·exact h2 x hx
theorem Ql {α:Type} {l:List α} {i:Nat} (h:i<l.length):l.take (i+1)=l.take i++[l[i]]:=by
 rw [List.take_add_one,List.getElem?_eq_getElem h,Option.toList_some]
theorem Zu7 {f:List UInt8} {w:List (List UInt8)} {i:Nat} (hl:f.length=w.length) (h:Ua (f.take i) (w.take i)=none):Ua f w=none:=by
 have:=Zb3 (f.take i) (w.take i) (f.drop i) (w.drop i) (by simp [hl])
 rw [List.take_append_drop,List.take_append_drop,h] at this
 exact this
theorem Zu8 {f:List UInt8} {w:List (List UInt8)} {i:Nat} {a:List Int} (hl:f.length=w.length) (hi:i<w.length) (h:Ua (f.take i) (w.take i)=some a) :
  Ua (f.take (i+1)) (w.take (i+1))=match Zd0 (w[i]) with
   | none=>none
   | some k=>if (f.getD i 0).toNat=100∧9<k then none else some (a++[k]):=by
 have hg:f.getD i 0=f[i]'(by omega):=by simp [List.getD,List.getElem?_eq_getElem (show i<f.length by omega)]
 rw [Ql hi,Ql (show i<f.length by omega),Zb3 _ _ _ _ (by simp [hl]),h,hg]
 simp only [Option.bind_some,Ua]
 cases Zd0 w[i] with
 | none=>rfl
 | some k =>
  simp only
  split<;>simp
set_option maxHeartbeats 2000000 attribute [local irreducible] HW HO HQ HD HC QOp Has Upd Zt Gets Z8 Z0 Zo Xm Zz Zj Xp Zy
theorem Zlz (s:List UInt8) (hs:s.length≤1000000) (L:Zb) (hS:Sz L):HC Tryz.prog 70 [bs s] L (fun v L'=>(∃ k,v = .tuple ⟨[iv k,.bool (Zd0 s).isSome]⟩ ∧ ∀ n,Zd0 s=some n→k=n)∧L'=L):=by
 refine Za (fun _ _=>Tryz.call70 _ _) Tryz.func70 rfl Tryz.ntmps70 (Nat.le_of_ble_eq_true rfl) ?_;simp only [Zd,Nat.reduceAdd]
 repeat' (first|refine uN ?_|(refine uP ?_ ?_<;>(intro h;((try simp only [zs,zq,reduceCtorEq] at h);try exact zx)))|fail)
 refine gc (Ztr s hs _ hS) ?_
 rintro v L' ⟨⟨k,e,rfl,h⟩,rfl⟩
 rcases h with ⟨ha,rfl⟩|⟨ha,t,N,rfl⟩
 ·obtain ⟨h0,h1⟩:=Lib.atoiAll_bounds ha
  have kI:=Zeu k h0 h1 L' hS
  have hk : ∀ n,Zd0 s=some n→k=n:=fun n hn=>by
   rw [Zov ha] at hn
   split at hn
   ·exact Option.some.inj hn
   ·cases hn
  have hb:(Zd0 s).isSome=decide ((s.length:Int)≤5∧0≤k∧Lib.itoa k=s):=by
   rw [Zov ha]
   split<;>simp_all
  rw [hb]
  repeat' (first|refine uN ?_|refine uC (kI) ?_|(refine uP ?_ ?_<;>(intro h;((try simp only [zs,zq,reduceCtorEq] at h);try exact zx)))|fail)
  all_goals (refine Zeb rfl ⟨⟨k,?_,hk⟩,rfl⟩;simp [*])
 ·rw [numC_no ha]
  repeat' (first|refine uN ?_|(refine uP ?_ ?_<;>(intro h;((try simp only [zs,zq,reduceCtorEq] at h);try exact zx)))|fail)
  exact Zeb rfl ⟨⟨k,rfl,fun n h=>by cases h⟩,rfl⟩
theorem Zdd (form:List UInt8) (a:Option Addr) (cap:Nat) (ws:List (List UInt8)) (L:Zb) (hS:Sz L) (hR:Rd Zab 1 L a ws) (hcap:ws.length≤cap) (hl:ws.length≤1000000) (hf:form.length≤1000000) (hw : ∀ x∈ws,x.length≤1000000) :
  HC Tryz.prog 52 [bs form,.slice a ws.length cap] L (fun v L' => ∃ c u,v = .tuple ⟨[u,.bool (V9 form ws).isSome]⟩∧Vec 3 1 ic u ((V9 form ws).getD []) c∧L'=c::L):=by
 by_cases he:form.length=ws.length
 ·have hrb:V9 form ws=Ua form ws:=if_pos he
  rw [hrb]
  refine Za (fun _ _=>Tryz.call52 _ _) Tryz.func52 rfl Tryz.ntmps52 (Nat.le_of_ble_eq_true rfl) ?_;simp only [Zd,Nat.reduceAdd]
  repeat' (first|refine uN ?_|(refine uB ?_;intro b)|(refine uP ?_ ?_<;>(intro h;((try simp only [zs,zq,reduceCtorEq] at h);try exact zx)))|fail)
  refine W6 (L':=[]::L) ?_ (LS.refl _)
  refine Zp (σ:=Nat × Value × List Zr × List Int) (fun r=>[(0,bs form),(4,r.2.1),(15,.slice a ws.length cap),(16,iv ws.length),(17,iv r.1)])
   (fun r=>r.2.2.1::L)
   (fun r=>r.1≤ws.length∧Vec 3 1 ic r.2.1 r.2.2.2 r.2.2.1∧Ua (form.take r.1) (ws.take r.1)=some r.2.2.2) (fun r=>ws.length-r.1) (0,Ys,[],[]) uS (List.Sublist.refl _) ⟨by simp,Zv,by simp [Ua]⟩ ?_
  rintro ⟨i,u,c,q⟩ ⟨hi,hv,hz⟩
  simp only at hi hv hz ⊢
  obtain ⟨a5,cap5,he5,-,-⟩:=hv.rd Wh
  subst he5
  have hql:q.length=i:=by
   have:=(Zbf (by simp [he]) hz).1
   rw [List.length_take] at this
   omega
  by_cases hit:i<ws.length
  ·obtain ⟨b,bi,l,F,fr,rfl,hb,hg⟩:=hR.at1 (j:=(i:Int)) (by omega) (by omega)
   have eg:ws[(i:Int).toNat]'(by omega)=ws[i]:=rfl
   rw [eg] at hg
   have hwi:=hw ws[i] (List.getElem_mem _)
   have hstep:=Zu8 he hit hz
   have hfail:=Zu7 (f:=form) (w:=ws) (i:=i+1) he
   repeat' (first|refine uN ?_|(refine uB ?_;intro b)|(refine uP ?_ ?_<;>(intro h;((try simp only [zs,zq,reduceCtorEq] at h);try exact zx)))|fail)
   ·refine gc (Zlz _ hwi _ (hS.cons c)) ?_
    rintro v L' ⟨⟨k,rfl,hk⟩,rfl⟩
    cases hn:Zd0 ws[i] with
    | none =>
     rw [hn] at hstep
     rw [hfail hstep]
     repeat' (first|refine uN ?_|(refine uB ?_;intro b)|(refine uP ?_ ?_<;>(intro h;((try simp only [zs,zq,reduceCtorEq] at h);try exact zx)))|fail)
     exact W9 (L':=[]::L) (LS.c (LS.refl _)) ⟨[],Ys,rfl,Zv,rfl⟩
    | some n =>
     obtain rfl:=hk n hn
     rw [hn] at hstep
     simp only at hstep
     have ei:(i:Int).toNat=i:=Int.toNat_natCast i
     have e:i+1≤ws.length:=hit
     repeat' (first|refine uN ?_|(refine uB ?_;intro b)|(refine uP ?_ ?_<;>(intro h;((try simp only [zs,zq,reduceCtorEq] at h);try exact zx)))|fail)
     all_goals rw [ei] at *
     ·rw [if_pos ⟨by omega,by omega⟩] at hstep
      rw [hfail hstep]
      exact W9 (L':=[]::L) (LS.c (LS.refl _)) ⟨[],Ys,rfl,Zv,rfl⟩
     all_goals
      rw [if_neg (by omega)] at hstep
      refine fo 1 ?_
      refine Zce S k hv Wh Zub ?_
      intro v' c' hv'
      repeat' (first|refine uN ?_|(refine uB ?_;intro b)|(refine uP ?_ ?_<;>(intro h;((try simp only [zs,zq,reduceCtorEq] at h);try exact zx)))|fail)
      exact Zg (i+1,v',c',q++[k]) uS uL ⟨hit,hv',hstep⟩ (by simp only;omega)
  ·obtain rfl:i=ws.length:=by omega
   rw [List.take_length,show form.take ws.length=form from by rw [← he,List.take_length]] at hz
   rw [hz]
   repeat' (first|refine uN ?_|(refine uB ?_;intro b)|(refine uP ?_ ?_<;>(intro h;((try simp only [zs,zq,reduceCtorEq] at h);try exact zx)))|fail)
   exact Zeb rfl ⟨c,_,rfl,hv,rfl⟩
 ·have hrb:V9 form ws=none:=if_neg he
  rw [hrb]
  refine Za (fun _ _=>Tryz.call52 _ _) Tryz.func52 rfl Tryz.ntmps52 (Nat.le_of_ble_eq_true rfl) ?_;simp only [Zd,Nat.reduceAdd]
  repeat' (first|refine uN ?_|(refine uB ?_;intro b)|(refine uP ?_ ?_<;>(intro h;((try simp only [zs,zq,reduceCtorEq] at h);try exact zx)))|fail)
  all_goals first|(exfalso;omega)|exact Zeb (L':=[]::L) rfl ⟨[],Ys,rfl,Zv,rfl⟩
end Go.HL
end

/-! WoZ -/
section
namespace Go.HL
open Go Go.Proofs
theorem HC.ro {F:Nat} {args:List Value} {H H':Zb} {V:Value→Prop} (h1:LS H.flatten H'.flatten) (h2:LS H'.flatten H.flatten) (h:HC Tryz.prog F args H (fun v L'=>V v∧L'=H)):HC Tryz.prog F args H' (fun v L'=>V v∧L'=H'):=
 HC.post (HC.sp h h1) (by rintro v L' ⟨hv,rfl⟩;exact ⟨H',h2,hv,rfl⟩)
theorem lsW {G:WdG} {M:Wm} {X:Zb}:LS (Xj G M++X).flatten (Wa G M::X).flatten:=LS.of_eq (Zcc G M X).symm
theorem lsW' {G:WdG} {M:Wm} {X:Zb}:LS (Wa G M::X).flatten (Xj G M++X).flatten:=LS.of_eq (Zcc G M X)
theorem Zem (T:Nat) (E:Nat→Addr) (G:WdG) (M:Wm) (s d:Int) (L:Zb) (hG:Er T E [2,6] L) (hW:WdOk G M) (hM:WI M):HC Tryz.prog 108 [pt G.wp 0,iv s,iv d] (Xj G M++L) (fun v L'=>v = .tuple ⟨[.agg ⟨sc (U8 M s d)⟩,eV T E (Xz M s d)]⟩∧L'=Xj G M++L):=by
 refine Zgi T E G M s d _ (Ww hG G M) (Zas hW L) hW.ndl (fun hn=>?_) (fun hn=>?_)
 ·exact Zcd hW.ndl (Y8 hn).1 (Y8 hn).2 L
 ·have hni:=Wu hM (Y8 hn).1 (Y8 hn).2
  refine ⟨by rw [hni.b512];omega,by rw [hni.b512];omega,fun p hp=>?_⟩
  have:=Zg0 hW.ndl (Y8 hn).1 (Y8 hn).2 (b:=p.1) (o:=p.2) (by
   unfold Zj6 Xl
   simp only [List.mem_cons,List.not_mem_nil,or_false] at hp
   rcases hp with rfl|rfl
   ·simp [plB]
   ·simp [plD]) L
  unfold Has Xj at *
  rw [List.append_assoc,List.flatten_append]
  exact List.mem_append_right _ this
end Go.HL
end

/-! SfA -/
section
namespace Go.HL
open Go Go.Proofs
structure Vd where
 st:Nat→St
 ld:Nat→Option Ld
 fr:Fr→Prop
structure Gh where
 prep:Int→Option Int
 acc:Nat→Int→Prop
 ref:Nat→Prop
def bit (q i:Nat):Prop:=q / 2 ^ i % 2=1
instance (q i:Nat):Decidable (bit q i):=by unfold bit;infer_instance
section inv
variable (w:List Int)
def Zio (g:Gh) (a:Int):Prop := ∃ q,q<2 ^ w.length∧Zu3 w q=true ∧ ∀ i,i<w.length→bit q i→g.acc i a
def dec (g:Gh) (p:Int):Prop:=(p=2 ∧ ∃ a,g.prep a=some 4∧Zio w g a)∨(p=3∧((∃ a,g.prep a=some 5∧Zio w g a) ∨ ∃ s,s<w.length∧g.ref s))
def Zfd (v:Vd) (g:Gh) (a:Int):Prop := ∃ q,q<2 ^ w.length∧Zu3 w q=true ∧ ∀ i,i<w.length→bit q i→a<(v.st i).pr ∧ ¬ g.acc i a
def Zs0 (v:Vd) (g:Gh) (s:Nat):Prop:=(v.st s).ph≠0 ∧ ¬ g.ref s
def fin (p:Int):Prop:=p=2∨p=3
structure TellOk (v:Vd) (g:Gh) (s:Nat) (b:Int) (t:St):Prop where
 pr:b≤(v.st s).pr
 fi:fin t.ph→dec w g t.ph
 pe:t.ph=4∨t.ph=5→t.att<b∧g.prep t.att=some t.ph∧0≤t.att
 ac : ∀ a,0≤a→a<b→g.acc s a→fin t.ph∨((t.ph=4∨t.ph=5)∧a≤t.att)
def frOk (v:Vd) (g:Gh) (f:Fr):Prop:=
 (f.kd=2→if f.yes then Zs0 v g f.fr.toNat else dec w g 3) ∧
 (f.kd=4→f.yes=true→TellOk w v g f.fr.toNat f.att f.s) ∧
 (f.kd=5→g.prep f.att=some f.s.ph) ∧
 (f.kd=6→f.yes=true→g.acc f.fr.toNat f.att) ∧
 (f.kd=7→fin f.s.ph→dec w g f.s.ph)
structure LeadOk (v:Vd) (g:Gh) (s:Nat) (x:Ld):Prop where
 two:x.wait=2→x.att=0 ∧ ∀ i,i<w.length→bit x.heard i→Zs0 v g i
 four:x.wait=4→1≤x.att∧x.att % w.length=s∧g.prep x.att=none∧x.att≤(v.st s).pr ∧ ∀ i,i<w.length→bit x.heard i→TellOk w v g i x.att (x.told.getD i W4)
 six:x.wait=6→g.prep x.att=some x.phase ∧ ∀ i,i<w.length→bit x.heard i→g.acc i x.att
 wt:x.wait=0∨x.wait=2∨x.wait=4∨x.wait=6
structure SiteOk (v:Vd) (g:Gh) (s:Nat):Prop where
 ok:Zgy (v.st s)
 fi:fin (v.st s).ph→dec w g (v.st s).ph
 pe:(v.st s).ph=4∨(v.st s).ph=5→g.prep (v.st s).att=some (v.st s).ph
 ac : ∀ a,g.acc s a→a≤(v.st s).pr∧(fin (v.st s).ph∨((v.st s).ph=4∨(v.st s).ph=5)∧a≤(v.st s).att)
 rf:g.ref s→(v.st s).ph=3
structure SInv (v:Vd) (g:Gh):Prop where
 site : ∀ s,s<w.length→SiteOk w v g s
 lead : ∀ s x,s<w.length→v.ld s=some x→LeadOk w v g s x
 fr : ∀ f,v.fr f→frOk w v g f
 p0 : ∀ p,g.prep 0=some p→p=4
 pp : ∀ a p,g.prep a=some p→(p=4∨p=5)∧0≤a
 own : ∀ a p,1≤a→g.prep a=some p→a≤(v.st (a % w.length).toNat).pr
 com : ∀ a,g.prep a=some 4 → ∀ s,s<w.length→Zs0 v g s
 safe : ∀ b q,g.prep b=some q → ∀ a,0≤a→a<b→Zfd w v g a∨g.prep a=some q
end inv
structure GLe (w:List Int) (v v':Vd) (g g':Gh):Prop where
 prep : ∀ a p,g.prep a=some p→g'.prep a=some p
 acc : ∀ s a,g.acc s a→g'.acc s a
 ref : ∀ s,g.ref s→g'.ref s
 st : ∀ s,s<w.length→(v.st s).pr≤(v'.st s).pr∧((v.st s).ph≠0→(v'.st s).ph≠0)
 nref : ∀ s,s<w.length→(v.st s).ph≠0 → ¬ g.ref s → ¬ g'.ref s
 nacc : ∀ s a,s<w.length→a<(v.st s).pr → ¬ g.acc s a → ¬ g'.acc s a
theorem GLe.refl (w:List Int) (v:Vd) (g:Gh):GLe w v v g g:=⟨fun _ _ h=>h,fun _ _ h=>h,fun _ h=>h,fun _ _=>⟨Int.le_refl _,fun h=>h⟩,fun _ _ _ h=>h,fun _ _ _ _ h=>h⟩
theorem Zf2 {w:List Int} {v v':Vd} {g g':Gh} (h:GLe w v v' g g') {a:Int} (hq:Zio w g a):Zio w g' a:=by
 obtain ⟨q,h1,h2,h3⟩:=hq
 exact ⟨q,h1,h2,fun i hi hb=>h.acc i a (h3 i hi hb)⟩
theorem Zff {w:List Int} {v v':Vd} {g g':Gh} (h:GLe w v v' g g') {p:Int} (hd:dec w g p):dec w g' p:=by
 rcases hd with ⟨h1,a,h2,h3⟩|⟨h1,⟨a,h2,h3⟩|⟨s,h2,h3⟩⟩
 ·exact .inl ⟨h1,a,h.prep _ _ h2,Zf2 h h3⟩
 ·exact .inr ⟨h1,.inl ⟨a,h.prep _ _ h2,Zf2 h h3⟩⟩
 ·exact .inr ⟨h1,.inr ⟨s,h2,h.ref _ h3⟩⟩
theorem Znx {w:List Int} {v v':Vd} {g g':Gh} (h:GLe w v v' g g') {a:Int} (hb:Zfd w v g a):Zfd w v' g' a:=by
 obtain ⟨q,h1,h2,h3⟩:=hb
 refine ⟨q,h1,h2,fun i hi hq=>?_⟩
 obtain ⟨h4,h5⟩:=h3 i hi hq
 exact ⟨by have:=(h.st i hi).1;omega,h.nacc i a hi h4 h5⟩
theorem Ze7 {w:List Int} {v v':Vd} {g g':Gh} (h:GLe w v v' g g') {s:Nat} (hs:s<w.length) (hv:Zs0 v g s):Zs0 v' g' s:=⟨(h.st s hs).2 hv.1,h.nref s hs hv.1 hv.2⟩
theorem Znj {w:List Int} {v v':Vd} {g g':Gh} (h:GLe w v v' g g') {s:Nat} (hs:s<w.length) {b:Int} {t:St} (ht:TellOk w v g s b t):TellOk w v' g' s b t:=by
 have hst:=(h.st s hs).1
 refine ⟨by have:=ht.pr;omega,fun hf=>Zff h (ht.fi hf),fun hp=>⟨(ht.pe hp).1,h.prep _ _ (ht.pe hp).2.1,(ht.pe hp).2.2⟩,fun a h0 ha hacc=>?_⟩
 by_cases hg:g.acc s a
 ·exact ht.ac a h0 ha hg
 ·exact absurd hacc (h.nacc s a hs (by have:=ht.pr;omega) hg)
theorem Zx1 {w:List Int} {v v':Vd} {g g':Gh} (h:GLe w v v' g g') {f:Fr} (hfr:0≤f.fr∧f.fr<w.length) (hf:frOk w v g f):frOk w v' g' f:=by
 obtain ⟨h2,h4,h5,h6,h7⟩:=hf
 have hi:f.fr.toNat<w.length:=by omega
 refine ⟨fun hk=>?_,fun hk hy=>Znj h hi (h4 hk hy),fun hk=>h.prep _ _ (h5 hk),fun hk hy=>h.acc _ _ (h6 hk hy),fun hk hp=>Zff h (h7 hk hp)⟩
 have:=h2 hk
 split at this
 ·rename_i hy
  rw [if_pos hy]
  exact Ze7 h hi this
 ·rename_i hy
  rw [if_neg hy]
  exact Zff h this
theorem Zre {w:List Int} {v v':Vd} {g g':Gh} (h:GLe w v v' g g') {s:Nat} (hs:s<w.length) {x:Ld} (hx:LeadOk w v g s x) (hn:x.wait=4→g'.prep x.att=none):LeadOk w v' g' s x:=by
 refine ⟨fun e=>⟨(hx.two e).1,fun i hi hb=>Ze7 h hi ((hx.two e).2 i hi hb)⟩,fun e=>?_,fun e=>⟨h.prep _ _ (hx.six e).1,fun i hi hb=>h.acc _ _ ((hx.six e).2 i hi hb)⟩,hx.wt⟩
 obtain ⟨h1,h2,h3,h4,h5⟩:=hx.four e
 exact ⟨h1,h2,hn e,by have:=(h.st s hs).1;omega,fun i hi hb=>Znj h hi (h5 i hi hb)⟩
theorem Zzh {w:List Int} {v v':Vd} {g g':Gh} (h:GLe w v v' g g') (hp:g'.prep=g.prep) (hi : ∀ b q,g.prep b=some q → ∀ a,0≤a→a<b→Zfd w v g a∨g.prep a=some q) : ∀ b q,g'.prep b=some q → ∀ a,0≤a→a<b→Zfd w v' g' a∨g'.prep a=some q:=fun b q hb a h0 ha=>by
 rw [hp] at hb ⊢
 rcases hi b q hb a h0 ha with h1|h1
 ·exact .inl (Znx h h1)
 ·exact .inr h1
end Go.HL
end

/-! SfB -/
section
namespace Go.HL
open Go Go.Proofs
def upd {α:Type} (f:Nat→α) (s:Nat) (x:α):Nat→α:=fun i=>if i=s then x else f i
theorem Zst {w:List Int} {v v':Vd} {g g':Gh} (h:GLe w v v' g g') {t:Nat} (hs:v'.st t=v.st t) (ha : ∀ a,g'.acc t a→g.acc t a) (hr:g'.ref t→g.ref t) (hx:SiteOk w v g t):SiteOk w v' g' t:=by
 refine ⟨by rw [hs];exact hx.ok,fun hf=>?_,fun hp=>?_,fun a hacc=>?_,fun hrf=>?_⟩
 ·rw [hs] at hf ⊢;exact Zff h (hx.fi hf)
 ·rw [hs] at hp ⊢;exact h.prep _ _ (hx.pe hp)
 ·rw [hs];exact hx.ac a (ha a hacc)
 ·rw [hs];exact hx.rf (hr hrf)
end Go.HL
end

/-! LdF -/
section
namespace Go.HL
open Go Go.Proofs
section d
variable {w:List Int} {att:Int} {m:Ld} {acks:Nat} {no:Bool} {fin ph:Int} {f:Fr}
end d
end Go.HL
end

/-! TabC -/
section
namespace Go.HL
open Go Go.Proofs
set_option maxHeartbeats 2000000 attribute [local irreducible] HW HO HQ HD HC QOp Has Upd Zt Gets Z8 Z0 Zo Xm Zz Zj Xp Zy

end Go.HL
end

/-! SfC -/
section
namespace Go.HL
open Go Go.Proofs
theorem gle_st {w:List Int} {v v':Vd} (g:Gh) (h:v'.st=v.st):GLe w v v' g g:=⟨fun _ _ e=>e,fun _ _ e=>e,fun _ e=>e,fun s _=>by rw [h];exact ⟨Int.le_refl _,fun e=>e⟩,fun _ _ _ e=>e,fun _ _ _ _ e=>e⟩
theorem inv_of {w:List Int} {v v':Vd} {g:Gh} (h:SInv w v g) (hst:v'.st=v.st) (hl : ∀ t x,t<w.length→v'.ld t=some x→LeadOk w v g t x) (hb : ∀ f,v'.fr f→0≤f.fr∧f.fr<w.length) (hf : ∀ f,v'.fr f→frOk w v g f):SInv w v' g:=by
 have hle:=gle_st (w:=w) g hst
 refine ⟨fun t ht=>Zst hle (by rw [hst]) (fun _ e=>e) (fun e=>e) (h.site t ht),fun t x ht hx=>Zre hle ht (hl t x ht hx) (fun e=>((hl t x ht hx).four e).2.2.1),fun f hx=>Zx1 hle (hb f hx) (hf f hx),h.p0,h.pp,fun a p h1 ha=>by rw [hst];exact h.own a p h1 ha,fun a ha t ht=>Ze7 hle ht (h.com a ha t ht),Zzh hle rfl h.safe⟩
end Go.HL
end

/-! SfD -/
section
namespace Go.HL
open Go Go.Proofs
def vdW (M:Wm) (d:Nat):Vd:=⟨fun s=>Xf (Zf M (s:Int)).pl d,fun s=>(Zf M (s:Int)).leads.getD d none,fun f=>f∈M.l∧f.dl=d⟩
structure SD (M:Wm) (d:Nat) (g:Gh):Prop where
 inv:SInv M.w (vdW M d) g
 ev : ∀ e∈M.ev,e.deal=d→dec M.w g e.ph
theorem fr_bound {M:Wm} (h:WI M) {d:Nat} : ∀ f,(vdW M d).fr f→0≤f.fr∧f.fr<M.w.length:=fun f hf=>by
 obtain ⟨h1,h2,h3⟩:=h.fr f hf.1
 unfold X5 at h1
 omega
theorem st_eq {m:Nd} {w:List Int} {s:Nat} (h:NdI w s m) {j:Jn} {ref:Int→Bool} (hs:m.site=some (j,ref)) (d:Nat):Yq j d=Xf m.pl d:=by
 rw [(h.up j ref hs).1]
 rfl
theorem SD_of {M M':Wm} {d:Nat} {g:Gh} (hI':WI M') (h:SD M d g) (hw:M'.w=M.w) (hst : ∀ s:Nat,Xf (Zf M' (s:Int)).pl d=Xf (Zf M (s:Int)).pl d)
  (hld : ∀ s:Nat,(Zf M' (s:Int)).leads.getD d none=(Zf M (s:Int)).leads.getD d none∨(Zf M' (s:Int)).leads.getD d none=none) (hl : ∀ f∈M'.l,f.dl=d→f∈M.l∨frOk M.w (vdW M d) g f)
  (hev : ∀ e∈M'.ev,e∈M.ev∨(e.deal=d → ∃ s,s<M.w.length∧e.ph=(Xf (Zf M (s:Int)).pl d).ph∧fin e.ph)):SD M' d g:=by
 have hs:(vdW M' d).st=(vdW M d).st:=funext hst
 refine ⟨?_,fun e he hed=>?_⟩
 ·rw [hw]
  refine inv_of h.inv hs (fun t x ht hx=>?_) (fun f hf=>by have:=fr_bound hI' f hf;rw [hw] at this;exact this) (fun f hf=>?_)
  ·rcases hld t with e|e
   ·exact h.inv.lead t x ht (by rw [← hx];exact e.symm)
   ·have hx':(Zf M' (t:Int)).leads.getD d none=some x:=hx
    rw [e] at hx';cases hx'
  ·rcases hl f hf.1 hf.2 with h1|h1
   ·exact h.inv.fr f ⟨h1,hf.2⟩
   ·exact h1
 ·rw [hw]
  rcases hev e he with h1|h1
  ·exact h.ev e h1 hed
  ·obtain ⟨s,hs1,hs2,hs3⟩:=h1 hed
   have:=(h.inv.site s hs1).fi
   change fin (Xf (Zf M (s:Int)).pl d).ph→dec M.w g (Xf (Zf M (s:Int)).pl d).ph at this
   rw [hs2]
   exact this (by rw [← hs2];exact hs3)
theorem Qi {M:Wm} {s:Int} {m:Nd} (h0:0≤s) (h1:s<M.n.length) (t:Nat):Zf (Y0 M s m) (t:Int)=if (t:Int)=s then m else Zf M (t:Int):=by
 split
 ·rename_i e
  rw [e]
  exact Zc3 h0 h1
 ·rename_i e
  exact Zc4 (by simp;omega)
theorem Zb1 (d:Nat):noLeads.getD d none=none:=by
 unfold noLeads
 rw [List.getD,List.getElem?_replicate]
 split<;>rfl
theorem Zzn {id:Int} {ref:Int→Bool} {m:Pl} {j:Jn} (h:SI m j) (f:Fr):((∀ d,d<6→Yq (Zs id ref m j f).2.1 d=Yq j d)∧(Zs id ref m j f).2.2.1=[]) ∨
  (¬ X5 f∧f.to=id∧Yq (Zs id ref m j f).2.1 f.dl.toNat=(Yj ref f (Yq j f.dl.toNat)).1∧(∀ d,d<6→d≠f.dl.toNat→Yq (Zs id ref m j f).2.1 d=Yq j d) ∧
   ∀ x∈(Zs id ref m j f).2.2.1,(Yj ref f (Yq j f.dl.toNat)).2.1≠0∧x=⟨id,f.fr,f.dl,(Yj ref f (Yq j f.dl.toNat)).2.1,f.att,(Yj ref f (Yq j f.dl.toNat)).2.2,(Yj ref f (Yq j f.dl.toNat)).1⟩):=by
 unfold Zs
 by_cases hb:X5 f
 ·simp only [if_pos hb]
  exact .inl ⟨fun _ _=>by trivial,by trivial⟩
 simp only [if_neg hb]
 by_cases hto:f.to=id
 ·simp only [ne_eq,hto,not_true_eq_false,if_false]
  have hb2:=hb
  unfold X5 at hb2
  obtain ⟨d,hd⟩:=Int.eq_ofNat_of_zero_le (show 0≤f.dl by omega)
  have hd6:d<6:=by omega
  rw [hd]
  simp only [Int.toNat_natCast]
  have est:Yq j d=(j.l.getD d Zm).s:=rfl
  rw [est]
  generalize htr:Yj ref f (j.l.getD d Zm).s=tr at *
  have hp:=Zf1 h.ji d tr.1
  generalize Xt m j d tr.1=r at *
  obtain ⟨m',j',er⟩:=r
  simp only at hp ⊢
  obtain ⟨hJ,hL,hp⟩:=hp
  rcases hp with ⟨hl,he⟩|⟨hnb,he,ho,ho',hp⟩
  ·have he2 : ∃ x,er=some x:=by
    rcases he with ⟨he,-⟩|⟨he,-⟩|⟨he,-⟩<;>exact ⟨_,he⟩
   obtain ⟨x,rfl⟩:=he2
   exact .inl ⟨fun q _=>by unfold Yq;simp only [hl],rfl⟩
  ·subst he
   simp only [Int.toNat_natCast] at hp
   have hlen:j.l.length=6:=h.ji.jn.len
   have hst':Yq j' d=tr.1 ∧ ∀ q,q≠d→Yq j' q=Yq j q:=by
    rcases hp with ⟨h1,h2,-⟩|⟨h1,h2⟩
    ·refine ⟨by unfold Yq;rw [h2,h1],fun q _=>by unfold Yq;rw [h2]⟩
    ·refine ⟨by unfold Yq;rw [h2];simp [List.getD,hlen,hd6],fun q hq=>by unfold Yq;rw [h2];simp [List.getD,List.getElem?_set,Ne.symm hq]⟩
   refine .inr ⟨hb,by trivial,hst'.1,fun q _ hq=>hst'.2 q hq,fun x hx=>?_⟩
   simp only at hx
   split at hx
   ·cases hx
   ·rename_i hk
    simp only [List.mem_singleton] at hx
    exact ⟨hk,hx⟩
 ·simp only [ne_eq,hto,not_false_eq_true,if_true]
  exact .inl ⟨fun _ _=>by trivial,by trivial⟩
theorem Zyw {s:Int} {ph:Nat→Int} {q:List Bool × List Evt} {k:Nat} {e:Evt} (h:e∈(Wl s ph q k).2):e∈q.2∨(e=⟨s,k,ph k⟩∧fin (ph k)):=by
 unfold Wl at h
 split at h
 ·exact .inl h
 ·rename_i hc
  simp only at h
  split at h
  ·rcases List.mem_append.1 h with h|h
   ·exact .inl h
   ·simp only [List.mem_singleton] at h
    refine .inr ⟨h,?_⟩
    unfold fin
    by_cases h2:ph k=2
    ·exact .inl h2
    ·by_cases h3:ph k=3
     ·exact .inr h3
     ·exact absurd (.inr ⟨h2,h3⟩) hc
  ·exact .inl h
theorem Zmw {s:Int} {ph:Nat→Int} {q:List Bool × List Evt} {e:Evt} : ∀ k,e∈(Ur s ph q k).2→e∈q.2 ∨ ∃ d,d<k∧e=⟨s,d,ph d⟩∧fin (ph d)
 | 0,h => .inl h
 | k+1,h=>by
  rw [Qk] at h
  rcases Zyw h with h|⟨h1,h2⟩
  ·rcases Zmw k h with h|⟨d,h1,h2,h3⟩
   ·exact .inl h
   ·exact .inr ⟨d,by omega,h2,h3⟩
  ·exact .inr ⟨k,by omega,h1,h2⟩
theorem Zyx {s:Int} {m:Nd} {ev:List Evt} {e:Evt} (h:e∈(Xd s m ev).2):e∈ev ∨ ∃ j ref d,m.site=some (j,ref)∧d<6∧e=⟨s,(d:Nat),(Yq j d).ph⟩∧fin (Yq j d).ph:=by
 unfold Xd at h
 split at h
 ·exact .inl h
 ·rename_i j ref hs
  rcases Zmw 6 h with h|⟨d,h1,h2,h3⟩
  ·exact .inl h
  ·exact .inr ⟨j,ref,d,hs,h1,h2,h3⟩
end Go.HL
end

/-! SfE -/
section
namespace Go.HL
open Go Go.Proofs
def SafeW (M:Wm):Prop := ∀ d,d<6 → ∃ g,SD M d g
theorem SafeW.of {M M':Wm} (h:SafeW M) (hI':WI M') (hw:M'.w=M.w) (hst : ∀ (d s:Nat),Xf (Zf M' (s:Int)).pl d=Xf (Zf M (s:Int)).pl d)
  (hld : ∀ d s:Nat,(Zf M' (s:Int)).leads.getD d none=(Zf M (s:Int)).leads.getD d none∨(Zf M' (s:Int)).leads.getD d none=none) (hl : ∀ f∈M'.l,f∈M.l)
  (hev : ∀ e∈M'.ev,e∈M.ev∨(∃ s d:Nat,s<M.w.length∧e.deal=d∧e.ph=(Xf (Zf M (s:Int)).pl d).ph∧fin e.ph)):SafeW M':=fun d hd=>by
 obtain ⟨g,hg⟩:=h d hd
 exact ⟨g,SD_of hI' hg hw (hst d) (hld d) (fun f hf _ => .inl (hl f hf)) fun e he=>(hev e he).imp id fun ⟨s,d2,h1,h2,h3,h4⟩ hed=>⟨s,h1,by
  have:d2=d:=by omega
  rw [← this];exact h3,h4⟩⟩
theorem getD_set_ne {l:List (Option Ld)} {i k:Nat} {o:Option Ld} (h:i≠k):(l.set k o).getD i none=l.getD i none:=by
 simp only [List.getD,List.getElem?_set]
 rw [if_neg (fun e=>h e.symm)]
theorem Zqz {l:List (Option Ld)} {k:Nat} {o:Option Ld} (h:k<l.length):(l.set k o).getD k none=o:=by
 simp only [List.getD,List.getElem?_set]
 simp [h]
end Go.HL
end

/-! SfF -/
section
namespace Go.HL
open Go Go.Proofs
end Go.HL
end

/-! SfG -/
section
namespace Go.HL
open Go Go.Proofs
structure EvW (M:Wm):Prop where
 pw:M.ev.Pairwise fun a b => ¬ (a.site=b.site∧a.deal=b.deal)
 rg : ∀ e∈M.ev,0≤e.site∧e.site<M.w.length∧0≤e.deal∧e.deal<6∧fin e.ph
 dn : ∀ e∈M.ev,(Zf M e.site).done.getD e.deal.toNat false=true
theorem EvW.same {M M':Wm} (h:EvW M) (hw:M'.w=M.w) (he:M'.ev=M.ev) (hd : ∀ s,(Zf M' s).done=(Zf M s).done):EvW M':=
 ⟨by rw [he];exact h.pw,fun e h2=>by rw [he] at h2;rw [hw];exact h.rg e h2,fun e h2=>by rw [he] at h2;rw [hd];exact h.dn e h2⟩
theorem Zyu {s:Int} {ph:Nat→Int} {q:List Bool × List Evt} {k:Nat} (hk:k<q.1.length) (h1:q.2.Pairwise fun a b => ¬ (a.site=b.site∧a.deal=b.deal)) (h2 : ∀ e∈q.2,e.site=s→0≤e.deal∧q.1.getD e.deal.toNat false=true) :
  (Wl s ph q k).2.Pairwise (fun a b => ¬ (a.site=b.site∧a.deal=b.deal))∧(∀ e∈(Wl s ph q k).2,e.site=s→0≤e.deal∧(Wl s ph q k).1.getD e.deal.toNat false=true)∧(∀ i,q.1.getD i false=true→(Wl s ph q k).1.getD i false=true):=by
 have hset : ∀ i,(q.1.set k true).getD i false=if i=k then true else q.1.getD i false:=fun i=>by
  simp only [List.getD,List.getElem?_set]
  by_cases e:k=i
  ·subst e;simp [hk]
  ·rw [if_neg e,if_neg (fun e2=>e e2.symm)]
 unfold Wl
 split
 ·exact ⟨h1,h2,fun i hi=>hi⟩
 ·rename_i hc
  have hf:q.1.getD k false=false:=by
   have e:q.1.getD k true≠true:=fun e=>hc (.inl e)
   simp only [List.getD,List.getElem?_eq_getElem hk,Option.getD_some] at e ⊢
   simpa using e
  simp only
  refine ⟨?_,fun e he hes=>?_,fun i hi=>by rw [hset];split<;>simp_all⟩
  ·split
   ·rw [List.pairwise_append]
    refine ⟨h1,List.pairwise_singleton _ _,fun a ha b hb=>?_⟩
    simp only [List.mem_singleton] at hb
    subst hb
    rintro ⟨e1,e2⟩
    simp only at e1 e2
    have:=(h2 a ha e1).2
    rw [e2] at this
    simp only [Int.toNat_natCast] at this
    rw [hf] at this
    cases this
   ·exact h1
  ·rw [hset]
   split at he
   ·rcases List.mem_append.1 he with he|he
    ·exact ⟨(h2 e he hes).1,by split;rfl;exact (h2 e he hes).2⟩
    ·simp only [List.mem_singleton] at he
     subst he
     exact ⟨by simp,by simp⟩
   ·exact ⟨(h2 e he hes).1,by split;rfl;exact (h2 e he hes).2⟩
theorem Zmv {s:Int} {ph:Nat→Int} {q:List Bool × List Evt} (hq:q.1.length=6) (h1:q.2.Pairwise fun a b => ¬ (a.site=b.site∧a.deal=b.deal)) (h2 : ∀ e∈q.2,e.site=s→0≤e.deal∧q.1.getD e.deal.toNat false=true) : ∀ k,k≤6 →
  (Ur s ph q k).2.Pairwise (fun a b => ¬ (a.site=b.site∧a.deal=b.deal))∧(∀ e∈(Ur s ph q k).2,e.site=s→0≤e.deal∧(Ur s ph q k).1.getD e.deal.toNat false=true)
 | 0,_=>⟨h1,h2⟩
 | k+1,hk=>by
  obtain ⟨a1,a2⟩:=Zmv (ph:=ph) hq h1 h2 k (by omega)
  rw [Qk]
  obtain ⟨b1,b2,-⟩:=Zyu (ph:=ph) (k:=k) (by rw [Zbe,hq];omega) a1 a2
  exact ⟨b1,b2⟩
theorem EvW.note {M:Wm} (h:EvW M) (hI:WI M) {s:Int} (h0:0≤s) (h1:s<M.n.length) {m m':Nd} (hm:m.done=(Zf M s).done) (hm':m'.done=(Xd s m M.ev).1):EvW { Y0 M s m' with ev:=(Xd s m M.ev).2 }:=by
 have hn:=hI.wn
 have hd6:m.done.length=6:=by rw [hm];exact (hI.at h0 h1).done
 have hpre : ∀ e∈M.ev,e.site=s→0≤e.deal∧m.done.getD e.deal.toNat false=true:=fun e he hes=>⟨(h.rg e he).2.2.1,by rw [hm,← hes];exact h.dn e he⟩
 have key:(Xd s m M.ev).2.Pairwise (fun a b => ¬ (a.site=b.site∧a.deal=b.deal))∧(∀ e∈(Xd s m M.ev).2,e.site=s→0≤e.deal∧(Xd s m M.ev).1.getD e.deal.toNat false=true):=by
  unfold Xd
  split
  ·exact ⟨h.pw,hpre⟩
  ·exact Zmv hd6 h.pw hpre 6 (Nat.le_refl _)
 have hmem : ∀ e∈(Xd s m M.ev).2,e∈M.ev∨(e.site=s∧0≤e.deal∧e.deal<6∧fin e.ph):=fun e he=>by
  rcases Zyx he with he|⟨j,ref,d,-,e2,rfl,e4⟩
  ·exact .inl he
  ·exact .inr ⟨rfl,by simp,by simp only;omega,e4⟩
 refine ⟨key.1,fun e he=>?_,fun e he=>?_⟩
 ·rcases hmem e he with h2|⟨e1,e2,e3,e4⟩
  ·exact h.rg e h2
  ·exact ⟨by omega,by rw [e1];show s<(M.w.length:Int);omega,e2,e3,e4⟩
 ·show (Zf (Y0 M s m') e.site).done.getD _ _=true
  by_cases hes:e.site=s
  ·rw [hes,Zc3 h0 h1,hm']
   exact (key.2 e he hes).2
  ·rcases hmem e he with h2|⟨e1,-⟩
   ·rw [Zc4 (by have:=(h.rg e h2).1;omega)]
    exact h.dn e h2
   ·exact absurd e1 hes
theorem EvW.set {M:Wm} (h:EvW M) {s:Int} {m:Nd} (h0:0≤s) (h1:s<M.n.length) (hm:m.done=(Zf M s).done):EvW (Y0 M s m):=by
 refine ⟨h.pw,h.rg,fun e he=>?_⟩
 by_cases hes:e.site=s
 ·rw [hes,Zc3 h0 h1,hm,← hes]
  exact h.dn e he
 ·rw [Zc4 (by have:=(h.rg e he).1;omega)]
  exact h.dn e he
theorem EvW.setL {M:Wm} (h:EvW M) (l:List Fr):EvW { M with l:=l }:=⟨h.pw,h.rg,h.dn⟩
theorem EvW.lead {M:Wm} (h:EvW M) {s:Int} (h0:0≤s) (h1:s<M.n.length) (ls:List (Option Ld)) (l:List Fr):EvW { Y0 M s { Zf M s with leads:=ls } with l:=l }:=(h.set (m:={ Zf M s with leads:=ls }) h0 h1 rfl).setL l
theorem EvW.hear {M:Wm} (h:EvW M) (hI:WI M) {s:Int} (h0:0≤s) (h1:s<M.n.length) (f:Fr):EvW (Yt M s f).1:=by
 unfold Yt
 simp only
 have e:(Y7 s (Zf M s) M.ev f).2.1=M.ev∧(Y7 s (Zf M s) M.ev f).1.done=(Zf M s).done ∨ ∃ m:Nd,m.done=(Zf M s).done∧(Y7 s (Zf M s) M.ev f).1.done=(Xd s m M.ev).1∧(Y7 s (Zf M s) M.ev f).2.1=(Xd s m M.ev).2:=by
  unfold Y7
  split
  ·exact .inl ⟨rfl,rfl⟩
  ·rename_i j ref hs
   split
   ·exact .inl ⟨rfl,rfl⟩
   ·exact .inr ⟨⟨(Zs s ref (Zf M s).pl j f).1,some ((Zs s ref (Zf M s).pl j f).2.1,ref),(Zf M s).leads,(Zf M s).done⟩,rfl,rfl,rfl⟩
 rcases e with ⟨e1,e2⟩|⟨m,e1,e2,e3⟩
 ·rw [e1]
  exact h.set h0 h1 e2
 ·rw [e3]
  exact h.note hI h0 h1 e1 e2
theorem ev_try {M:Wm} (h:EvW M) (hI:WI M) {s d p:Int} (h0:0≤s) (h1:s<M.n.length):EvW (Zbl M s d p).1:=by
 unfold Zbl
 simp only
 split
 ·exact h
 have h2:=h.hear hI h0 h1 (Vv s d (Zar M.w.length s (Yu (Zf M s) d p+1)))
 have hS:=Zdt M s (Vv s d (Zar M.w.length s (Yu (Zf M s) d p+1)))
 split
 ·exact h2
 ·exact h2.lead h0 (by rw [hS.n];exact h1) _ _
theorem ev_tickD {M:Wm} {q:Wm × Bool} {s:Int} {k d:Nat} (hT:TickOk M q s k) (h:EvW q.1) (h0:0≤s) (h1:s<M.n.length):EvW (tickD s q d).1:=by
 have hn:=hT.same.n
 unfold tickD
 split
 ·exact h
 split
 ·exact h
 split
 ·exact h
 split
 ·exact h.setL _
 ·exact ev_try h hT.wi h0 (by omega)
theorem Zqr {M:Wm} (hI:WI M) (h:EvW M) {s:Int} (h0:0≤s) (h1:s<M.n.length) (hs:(Zf M s).site≠none) : ∀ k,k≤6→EvW ((List.range k).foldl (tickD s) (M,true)).1
 | 0,_=>h
 | k+1,hk=>by
  rw [List.range_succ,List.foldl_append]
  exact ev_tickD (Zaq hI h0 h1 hs k (by omega)) (Zqr hI h h0 h1 hs k (by omega)) h0 h1
theorem ev_tick {M:Wm} (hI:WI M) (h:EvW M) (s:Int):EvW (Uc M s).1:=by
 unfold Uc
 split
 ·exact h
 ·rename_i hu
  obtain ⟨h0,h1,hs⟩:=V5 hu
  exact Zqr hI h h0 h1 hs 6 (by omega)
theorem Zjg {M:Wm} (hI:WI M) (h:EvW M) (k:Int):EvW (Ya M k).1:=by
 have hn:=hI.wn
 unfold Ya
 split
 ·exact h
 rename_i hk
 obtain ⟨⟨hbad,hto,hfr⟩,hk0,hk1⟩:=Zfm hI hk
 unfold X5 at hbad
 have hE:=h.setL (M.l.eraseIdx k.toNat)
 simp only
 split
 ·exact hE
 split
 ·split
  ·exact hE
  ·exact hE.lead (s:=(M.l.getD k.toNat Yv).to) (by omega) (by simp only;omega) _ _
 ·exact (hE.hear (hI.erase _) (by omega) (by simp only;omega) _).setL _
theorem ev_new (w:List Int):EvW (Ve w):=⟨by simp [Ve],fun e he=>(by cases he),fun e he=>(by cases he)⟩
end Go.HL
end

/-! JgA -/
section
namespace Go.HL
open Go Go.Proofs
structure Ev where
 s:Int
 d:Int
 p:Int
def evc (e:Ev):List Value:=[iv e.s,iv e.d,iv e.p]
def Za8 (p:Int):Bool:=decide (p=2∨p=3)
def Zxn (sites:Int) (e:Ev):Prop:=e.s<0∨sites≤e.s∨e.d<0∨6≤e.d∨Za8 e.p=false
instance (sites:Int) (e:Ev):Decidable (Zxn sites e):=by unfold Zxn;infer_instance
def Znd (e:Ev) (a:Ev):Bool:=decide (a.d=e.d∧a.p≠e.p)
def Zl2 (e:Ev) (a:Ev):Bool:=decide (a.d=e.d∧a.s=e.s)
def Zjf (sites:Int) (e:Ev) (l:List Ev):Option Nat:=if Zxn sites e then some 2 else if l.any (Znd e) then some 9 else if l.any (Zl2 e) then some 8 else none
def Zcq (sites:Int) (xs:List Ev):Nat→Option (Nat × Nat)
 | i=>if h:i<xs.length then (match Zjf sites xs[i] (xs.take i) with
   | some c=>some (i,c)
   | none=>Zcq sites xs (i+1)) else none
 termination_by i=>xs.length-i
theorem Zfe {sites:Int} {xs:List Ev} {i c:Nat} (h:i<xs.length) (hc:Zjf sites xs[i] (xs.take i)=some c):Zcq sites xs i=some (i,c):=by
 rw [Zcq,dif_pos h,hc]
theorem Za6 {sites:Int} {xs:List Ev} {i:Nat} (h:i<xs.length) (hc:Zjf sites xs[i] (xs.take i)=none):Zcq sites xs i=Zcq sites xs (i+1):=by
 rw [Zcq,dif_pos h,hc]
theorem Zcr {sites:Int} {xs:List Ev} {i:Nat} (h:xs.length≤i):Zcq sites xs i=none:=by
 rw [Zcq,dif_neg (by omega)]
theorem evM_nine {sites:Int} {e:Ev} {l:List Ev} {c:Nat} (h:Zjf sites e l=some c):List.elem c all9=true:=by
 unfold Zjf at h
 split at h
 ·cases h;rfl
 split at h
 ·cases h;rfl
 split at h
 ·cases h;rfl
 ·cases h
theorem Zfc {α:Type} {p:α→Bool} {l:List α} {k:Nat} (h:k<l.length):(l.take (k+1)).any p=((l.take k).any p || p l[k]):=by
 rw [List.take_succ_eq_append_getElem h,List.any_append];simp
theorem Zns {α:Type} {p:α→Bool} {l:List α} {k:Nat} (h:k<l.length) (hp:p l[k]=true):l.any p=true:=List.any_eq_true.2 ⟨_,List.getElem_mem h,hp⟩
theorem Znr {α:Type} {p:α→Bool} {l:List α} {k:Nat} (h:l.length≤k):(l.take k).any p=l.any p:=by rw [List.take_of_length_le h]
set_option maxHeartbeats 2000000 attribute [local irreducible] HW HO HQ HD HC QOp Has Upd Zt Gets Z8 Z0 Zo Xm Zz Zj Xp Zy
theorem Zfq (p:Int) (L:Zb):HC Tryz.prog 203 [iv p] L (fun v L'=>v = .bool (Za8 p)∧L'=L):=by
 refine Za (fun _ _=>Tryz.call203 _ _) Tryz.func203 rfl Tryz.ntmps203 (Nat.le_of_ble_eq_true rfl) ?_;simp only [Zd,Nat.reduceAdd]
 repeat' (first|refine uN ?_|(refine uP ?_ ?_<;>(intro h;((try simp only [zs,zq,reduceCtorEq] at h);try exact zx)))|fail)
 all_goals (refine Z9 (LS.refl _) ⟨congrArg Value.bool ?_,rfl⟩;unfold Za8;first|(refine Eq.symm (decide_eq_true ?_);omega)|(refine Eq.symm (decide_eq_false ?_);omega)|(refine decide_eq_decide.2 ?_;omega))
theorem Zo7 (p:Int) (L:Zb):HC Tryz.prog 38 [iv p] L (fun v L'=>v = .bool (Za8 p)∧L'=L):=by
 refine Za (fun _ _=>Tryz.call38 _ _) Tryz.func38 rfl Tryz.ntmps38 (Nat.le_of_ble_eq_true rfl) ?_;simp only [Zd,Nat.reduceAdd]
 repeat' (first|refine uN ?_|(refine uP ?_ ?_<;>(intro h;((try simp only [zs,zq,reduceCtorEq] at h);try exact zx)))|fail)
 all_goals (refine Z9 (LS.refl _) ⟨congrArg Value.bool ?_,rfl⟩;unfold Za8;first|(refine Eq.symm (decide_eq_true ?_);omega)|(refine Eq.symm (decide_eq_false ?_);omega)|(refine decide_eq_decide.2 ?_;omega))
theorem Zqs (T:Nat) (E:Nat→Addr) (e:Ev) (a:Option Addr) (cap:Nat) (l:List Ev) (sites:Int) (L:Zb) (hG:Er T E [2,8,9] L) (hR:Rd evc 3 L a l) (hl:l.length≤1000000) :
  HC Tryz.prog 166 [.agg ⟨evc e⟩,.slice a l.length cap,iv sites] L (fun v L'=>v=eV T E (Zjf sites e l)∧L'=L):=by
 unfold Zjf
 refine Za (fun _ _=>Tryz.call166 _ _) Tryz.func166 rfl Tryz.ntmps166 (Nat.le_of_ble_eq_true rfl) ?_;simp only [Zd,Nat.reduceAdd]
 by_cases hb:Zxn sites e
 ·rw [if_pos hb]
  repeat' (first|refine uN ?_|refine uC (Zfq _ _) ?_|(refine uB ?_;intro b)|(refine uP ?_ ?_<;>(intro h;((try simp only [zs,zq,reduceCtorEq] at h);try exact zx)))|fail)
  all_goals first
   | exact Z9 uZ ⟨rfl,rfl⟩
   | (exfalso;rcases hb with h1|h1|h1|h1|h1<;>first|omega|simp_all)
 rw [if_neg hb]
 have hb1 : ¬e.s<0:=fun h=>hb (.inl h)
 have hb2 : ¬sites≤e.s:=fun h=>hb (.inr (.inl h))
 have hb3 : ¬e.d<0:=fun h=>hb (.inr (.inr (.inl h)))
 have hb4 : ¬6≤e.d:=fun h=>hb (.inr (.inr (.inr (.inl h))))
 have hb5:Za8 e.p=true:=by
  cases hf:Za8 e.p with
  | true=>rfl
  | false=>exact absurd (.inr (.inr (.inr (.inr hf)))) hb
 have kf:=fun L=>Zfq e.p L
 rw [hb5] at kf
 repeat' (first|refine uN ?_|refine uC (kf _) ?_|(refine uB ?_;intro b)|(refine uP ?_ ?_<;>(intro h;((try simp only [zs,zq,reduceCtorEq] at h);try exact zx)))|fail)
 generalize b=be
 have e0:(Value.nilIface)=eV T E (if (l.take 0).any (Zl2 e) then some 8 else none):=rfl
 rw [e0]
 refine Zp (σ:=Nat) (fun k=>[(3,pt be 0),(7,eV T E (if (l.take k).any (Zl2 e) then some 8 else none)),(36,.slice a l.length cap),(37,iv l.length),(38,iv k)]) (fun _=>[(be,.cells ⟨evc e⟩ 174)]::L) (fun k=>k≤l.length∧(l.take k).any (Znd e)=false) (fun k=>l.length-k) 0 uS (List.Sublist.refl _) ⟨by omega,by simp⟩ ?_
 rintro k ⟨h1,h2⟩
 by_cases hlt:k<l.length
 ·obtain ⟨b0,i0,l0,E0,fr0,rfl,hb0,hg0⟩:=hR.at (j:=(k:Int)) (by omega) (by omega)
  have ex:l[(k:Int).toNat]'(by omega)=l[k]:=rfl
  rw [ex] at hg0
  have h3:=Zfc (p:=Znd e) hlt
  have h4:=Zfc (p:=Zl2 e) hlt
  have h5:=Zns (p:=Znd e) hlt
  rw [h2,Bool.false_or] at h3
  generalize l[k]=x at *
  by_cases hd:x.d=e.d
  ·by_cases hp:x.p=e.p
   ·have h6:Znd e x=false:=by unfold Znd;exact decide_eq_false (fun h=>h.2 hp)
    by_cases hs:x.s=e.s
    ·have h7:Zl2 e x=true:=by unfold Zl2;exact decide_eq_true ⟨hd,hs⟩
     rw [h7,Bool.or_true] at h4
     have e1:Value.iface T (.pointer (some (E 8)))=eV T E (if (l.take (k+1)).any (Zl2 e) then some 8 else none):=by rw [h4];rfl
     repeat' (first|refine uN ?_|(refine uB ?_;intro b)|(refine uP ?_ ?_<;>(intro h;((try simp only [zs,zq,reduceCtorEq] at h);try exact zx)))|fail)
     all_goals first|contradiction|(rw [e1];exact Zg (k+1) uS uL ⟨by omega,by rw [h3,h6]⟩ (by omega))
    ·have h7:Zl2 e x=false:=by unfold Zl2;exact decide_eq_false (fun h=>hs h.2)
     rw [h7,Bool.or_false] at h4
     rw [← h4]
     repeat' (first|refine uN ?_|(refine uB ?_;intro b)|(refine uP ?_ ?_<;>(intro h;((try simp only [zs,zq,reduceCtorEq] at h);try exact zx)))|fail)
     all_goals first|contradiction|exact Zg (k+1) uS uL ⟨by omega,by rw [h3,h6]⟩ (by omega)
   ·have h6:Znd e x=true:=by unfold Znd;exact decide_eq_true ⟨hd,hp⟩
    rw [if_pos (h5 h6)]
    repeat' (first|refine uN ?_|(refine uB ?_;intro b)|(refine uP ?_ ?_<;>(intro h;((try simp only [zs,zq,reduceCtorEq] at h);try exact zx)))|fail)
    all_goals first|contradiction|exact Z9 uZ ⟨rfl,rfl⟩
  ·have h6:Znd e x=false:=by unfold Znd;exact decide_eq_false (fun h=>hd h.1)
   have h7:Zl2 e x=false:=by unfold Zl2;exact decide_eq_false (fun h=>hd h.1)
   rw [h7,Bool.or_false] at h4
   rw [← h4]
   repeat' (first|refine uN ?_|(refine uB ?_;intro b)|(refine uP ?_ ?_<;>(intro h;((try simp only [zs,zq,reduceCtorEq] at h);try exact zx)))|fail)
   all_goals first|contradiction|exact Zg (k+1) uS uL ⟨by omega,by rw [h3,h6]⟩ (by omega)
 ·rw [Znr (by omega)] at h2 ⊢
  rw [h2]
  repeat' (first|refine uN ?_|(refine uB ?_;intro b)|(refine uP ?_ ?_<;>(intro h;((try simp only [zs,zq,reduceCtorEq] at h);try exact zx)))|fail)
  exact Z9 uZ ⟨rfl,rfl⟩
def Zt1 (sites:Int) (xs:List Ev):Int × Int:=if sites<1∨7<sites then (2,-1) else match Zcq sites xs 0 with
 | none=>(0,-1)
 | some (i,c)=>(c,i)
theorem Rd.cut {α:Type} {enc:α→List Value} {sz:Nat} {L:Zb} {a:Option Addr} {l:List α} (h:Rd enc sz L a l) (i:Nat):Rd enc sz L a (l.take i):=Rd.take h
theorem Zoj (T:Nat) (E:Nat→Addr) (a:Option Addr) (cap:Nat) (xs:List Ev) (sites:Int) (L:Zb) (hG:Er T E [2,8,9] L) (hR:Rd evc 3 L a xs) (hl:xs.length≤1000000) (hcap:xs.length≤cap) :
  HC Tryz.prog 118 [.slice a xs.length cap,iv sites] L (fun v L' => ∃ c,FV T E v (Zt1 sites xs).1 (Zt1 sites xs).2 c∧L'=c::L):=by
 unfold Zt1
 refine Za (fun _ _=>Tryz.call118 _ _) Tryz.func118 rfl Tryz.ntmps118 (Nat.le_of_ble_eq_true rfl) ?_;simp only [Zd,Nat.reduceAdd]
 by_cases hs:sites<1∨7<sites
 ·simp only [if_pos hs]
  repeat' (first|refine uN ?_|refine Z2 S ?_|(refine uB ?_;intro b)|(refine uP ?_ ?_<;>(intro h;((try simp only [zs,zq,reduceCtorEq] at h);try exact zx)))|fail)
  all_goals first|exact Z9 (L':=[]::L) (LS.refl _) ⟨[],FV.bare rfl,rfl⟩|omega
 simp only [if_neg hs]
 repeat' (first|refine uN ?_|refine Z2 S ?_|(refine uB ?_;intro b)|(refine uP ?_ ?_<;>(intro h;((try simp only [zs,zq,reduceCtorEq] at h);try exact zx)))|fail)
 refine Zp (σ:=Nat) (fun k=>[(0,.slice a xs.length cap),(1,iv sites),(15,.slice a xs.length cap),(16,iv xs.length),(17,iv k)]) (fun _=>L) (fun k=>k≤xs.length∧Zcq sites xs 0=Zcq sites xs k) (fun k=>xs.length-k) 0 uS (List.Sublist.refl _) ⟨by omega,rfl⟩ ?_
 rintro k ⟨h1,h2⟩
 rw [h2]
 by_cases hlt:k<xs.length
 ·obtain ⟨b0,i0,l0,E0,fr0,rfl,hb0,hg0⟩:=hR.at (j:=(k:Int)) (by omega) (by omega)
  have ex:xs[(k:Int).toNat]'(by omega)=xs[k]:=rfl
  rw [ex] at hg0
  have ke:=fun L hG hR=>Zqs T E xs[k] (some ⟨b0,i0,none⟩) cap (xs.take k) sites L hG hR (by simp;omega)
  rw [show (xs.take k).length=k by simp;omega] at ke
  cases hev:Zjf sites xs[k] (xs.take k) with
  | some c =>
   rw [Zfe hlt hev]
   rw [hev] at ke
   generalize xs[k]=x at *
   repeat' (first|refine uN ?_|refine Z2 S ?_|refine Wq (qC (ke _ (hG.cons _) ((hR.cut _).cons _))) ?_|refine Qr (qC (ke _ (hG.cons _) ((hR.cut _).cons _))) ?_|(refine uB ?_;intro b)|(refine uP ?_ ?_<;>(intro h;((try simp only [zs,zq,reduceCtorEq] at h);try exact zx)))|fail)
   exact Z9 (L':=faC b k T E (some c)::L) uL ⟨_,FV.at (evM_nine hev) b k,rfl⟩
  | none =>
   have h3:=Za6 hlt hev
   rw [hev] at ke
   generalize xs[k]=x at *
   repeat' (first|refine uN ?_|refine Z2 S ?_|refine Wq (qC (ke _ (hG.cons _) ((hR.cut _).cons _))) ?_|refine Qr (qC (ke _ (hG.cons _) ((hR.cut _).cons _))) ?_|(refine uB ?_;intro b)|(refine uP ?_ ?_<;>(intro h;((try simp only [zs,zq,reduceCtorEq] at h);try exact zx)))|fail)
   exact Zg (k+1) uS uL ⟨by omega,by rw [h3]⟩ (by omega)
 ·rw [Zcr (by omega)]
  repeat' (first|refine uN ?_|refine Z2 S ?_|(refine uB ?_;intro b)|(refine uP ?_ ?_<;>(intro h;((try simp only [zs,zq,reduceCtorEq] at h);try exact zx)))|fail)
  exact Z9 (L':=[]::L) (LS.refl _) ⟨[],FV.nil,rfl⟩
def cfl (x:St) (a:St):Bool:=Za8 x.ph && (Za8 a.ph && decide (x.ph≠a.ph))
def AgI (l:List St) (ph:Int):Prop:=(ph=0 ∧ ∀ a∈l,Za8 a.ph=false)∨(Za8 ph=true∧(∃ a∈l,a.ph=ph) ∧ ∀ a∈l,Za8 a.ph=true→a.ph=ph)
theorem finP_ne {p:Int} (h:Za8 p=true):p≠0:=by
 unfold Za8 at h
 have:=of_decide_eq_true h
 omega
theorem AgI.first {l:List St} (h:AgI l 0) {x:St} (hx:Za8 x.ph=true):AgI (l++[x]) x.ph∧l.any (cfl x)=false:=by
 have h1 : ∀ a∈l,Za8 a.ph=false:=by
  rcases h with ⟨_,h⟩|⟨h,_⟩
  ·exact h
  ·exact absurd rfl (finP_ne h)
 refine ⟨.inr ⟨hx,⟨x,by simp,rfl⟩,fun a ha hf=>?_⟩,?_⟩
 ·rcases List.mem_append.1 ha with ha|ha
  ·rw [h1 a ha] at hf;cases hf
  ·rw [List.mem_singleton.1 ha]
 ·rw [List.any_eq_false]
  intro a ha
  simp [cfl,h1 a ha]
theorem AgI.same {l:List St} {ph:Int} (h:AgI l ph) (h0:ph≠0) {x:St} (hx:ph=x.ph):AgI (l++[x]) ph∧l.any (cfl x)=false:=by
 rcases h with ⟨h1,_⟩|⟨hf,⟨a,ha,e⟩,h2⟩
 ·exact absurd h1 h0
 refine ⟨.inr ⟨hf,⟨a,List.mem_append_left _ ha,e⟩,fun b hb hfb=>?_⟩,?_⟩
 ·rcases List.mem_append.1 hb with hb|hb
  ·exact h2 b hb hfb
  ·rw [List.mem_singleton.1 hb,hx]
 ·rw [List.any_eq_false]
  intro b hb
  simp only [cfl,Bool.and_eq_true,decide_eq_true_eq,not_and]
  intro _ hfb hne
  exact hne (by rw [← hx,h2 b hb hfb])
theorem Zts (c:Int) (L:Zb):HC Tryz.prog 48 [iv c] L (fun v L'=>v = .agg ⟨[iv c,iv (-1)]⟩∧L'=L):=by
 refine Za (fun _ _=>Tryz.call48 _ _) Tryz.func48 rfl Tryz.ntmps48 (Nat.le_of_ble_eq_true rfl) ?_;simp only [Zd,Nat.reduceAdd]
 repeat' (first|refine uN ?_|(refine uB ?_;intro b)|fail)
 exact Z9 uZ ⟨rfl,rfl⟩ (hv:=Xy S (hg:=Ze rfl (Ze rfl Z4)))
theorem Zt2 (L:Zb):HC Tryz.prog 49 [] L (fun v L'=>v = .agg ⟨[iv 0,iv (-1)]⟩∧L'=L):=by
 refine Za (fun _ _=>Tryz.call49 _ _) Tryz.func49 rfl Tryz.ntmps49 (Nat.le_of_ble_eq_true rfl) ?_;simp only [Zd,Nat.reduceAdd]
 repeat' (first|refine uN ?_|(refine uB ?_;intro b)|fail)
 exact Z9 uZ ⟨rfl,rfl⟩ (hv:=Xy S (hg:=Ze rfl (Ze rfl Z4)))
theorem Zfk (a:Option Addr) (cap:Nat) (xs:List Ev) (sites:Int) (L:Zb) (hR:Rd evc 3 L a xs) (hl:xs.length≤1000000) :
  HC Tryz.prog 26 [.slice a xs.length cap,iv sites] L (fun v L'=>v = .agg ⟨[iv (Zt1 sites xs).1,iv (Zt1 sites xs).2]⟩∧L'=L):=by
 refine Za (fun _ _=>Tryz.call26 _ _) Tryz.func26 rfl Tryz.ntmps26 (Nat.le_of_ble_eq_true rfl) ?_;simp only [Zd,Nat.reduceAdd]
 unfold Zt1
 by_cases hs:sites<1∨7<sites
 ·simp only [if_pos hs]
  repeat' (first|refine uN ?_|refine Z2 S ?_|refine uC (Zts _ _) ?_|(refine uB ?_;intro b)|(refine uP ?_ ?_<;>(intro h;((try simp only [zs,zq,reduceCtorEq] at h);try exact zx)))|fail)
  all_goals first|exact Z9 uZ ⟨rfl,rfl⟩ (hv:=Xy S (hg:=Ze rfl (Ze rfl Z4)))|omega
 simp only [if_neg hs]
 repeat' (first|refine uN ?_|refine Z2 S ?_|(refine uB ?_;intro b)|(refine uP ?_ ?_<;>(intro h;((try simp only [zs,zq,reduceCtorEq] at h);try exact zx)))|fail)
 generalize b=br
 refine Zp (σ:=Nat) (fun k=>[(0,.slice a xs.length cap),(1,iv sites),(4,pt br 0),(5,iv k)]) (fun _=>[(br,.cells ⟨[iv 0,iv 0]⟩ 63)]::L) (fun k=>k≤xs.length∧Zcq sites xs 0=Zcq sites xs k) (fun k=>xs.length-k) 0 uS (List.Sublist.refl _) ⟨by omega,rfl⟩ ?_
 rintro k ⟨h1,h2⟩
 rw [h2]
 by_cases hlt:k<xs.length
 ·obtain ⟨b0,i0,l0,E0,fr0,rfl,hb0,hg0⟩:=hR.at (j:=(k:Int)) (by omega) (by omega)
  have ex:xs[(k:Int).toNat]'(by omega)=xs[k]:=rfl
  rw [ex] at hg0
  have m1 := @Za6 sites xs k hlt
  have m2:=fun c => @Zfe sites xs k c hlt
  generalize xs[k]=e at *
  have kf:=fun L=>Zo7 e.p L
  by_cases hb:Zxn sites e
  ·have hev:Zjf sites e (xs.take k)=some 2:=by unfold Zjf;rw [if_pos hb]
   rw [m2 _ hev]
   repeat' (first|refine uN ?_|refine Z2 S ?_|refine uC (kf _) ?_|(refine uB ?_;intro b)|(refine uP ?_ ?_<;>(intro h;((try simp only [zs,zq,reduceCtorEq] at h);try exact zx)))|fail)
   all_goals first
    | exact Z9 uZ ⟨rfl,rfl⟩ (hv:=Xy S (hg:=Ze rfl (Ze rfl Z4)))
    | (exfalso;rcases hb with h1|h1|h1|h1|h1<;>first|omega|simp_all)
  have hb1 : ¬e.s<0:=fun h=>hb (.inl h)
  have hb2 : ¬sites≤e.s:=fun h=>hb (.inr (.inl h))
  have hb3 : ¬e.d<0:=fun h=>hb (.inr (.inr (.inl h)))
  have hb4 : ¬6≤e.d:=fun h=>hb (.inr (.inr (.inr (.inl h))))
  have hb5:Za8 e.p=true:=by
   cases hf:Za8 e.p with
   | true=>rfl
   | false=>exact absurd (.inr (.inr (.inr (.inr hf)))) hb
  rw [hb5] at kf
  have hlk:(xs.take k).length=k:=by simp;omega
  repeat' (first|refine uN ?_|refine Z2 S ?_|refine uC (kf _) ?_|(refine uB ?_;intro b)|(refine uP ?_ ?_<;>(intro h;((try simp only [zs,zq,reduceCtorEq] at h);try exact zx)))|fail)
  generalize b=be
  refine Zp (σ:=Nat) (fun j=>[(0,.slice (some ⟨b0,i0,none⟩) xs.length cap),(1,iv sites),(4,pt br 0),(5,iv k),(6,pt be 0),(8,iv j)]) (fun _=>[(be,.cells ⟨evc e⟩ 66)]::[(br,.cells ⟨[iv 0,iv 0]⟩ 63)]::L) (fun j=>j≤k∧((xs.take k).take j).any (Znd e)=false) (fun j=>k-j) 0 uS (List.Sublist.refl _) ⟨by omega,by simp⟩ ?_
  rintro j ⟨j1,j2⟩
  by_cases hj:j<k
  ·obtain ⟨b9,i9,l9,E9,fr9,ha9,hb9,hg9⟩:=hR.at (j:=(j:Int)) (by omega) (by omega)
   cases ha9
   have ey:xs[(j:Int).toNat]'(by omega)=(xs.take k)[j]'(by omega):=by simp
   rw [ey] at hg9
   have h3:=Zfc (p:=Znd e) (l:=xs.take k) (k:=j) (by omega)
   have h5:=Zns (p:=Znd e) (l:=xs.take k) (k:=j) (by omega)
   rw [j2,Bool.false_or] at h3
   generalize (xs.take k)[j]'(by omega)=x at *
   by_cases hd:x.d=e.d
   ·by_cases hp:x.p=e.p
    ·have h6:Znd e x=false:=by unfold Znd;exact decide_eq_false (fun h=>h.2 hp)
     repeat' (first|refine uN ?_|refine Z2 S ?_|(refine uB ?_;intro b)|(refine uP ?_ ?_<;>(intro h;((try simp only [zs,zq,reduceCtorEq] at h);try exact zx)))|fail)
     all_goals first|contradiction|exact Zg (j+1) uS uL ⟨by omega,by rw [h3,h6]⟩ (by omega)
    ·have h6:Znd e x=true:=by unfold Znd;exact decide_eq_true ⟨hd,hp⟩
     have hev:Zjf sites e (xs.take k)=some 9:=by unfold Zjf;rw [if_neg hb,if_pos (h5 h6)]
     rw [m2 _ hev]
     repeat' (first|refine uN ?_|refine Z2 S ?_|(refine uB ?_;intro b)|(refine uP ?_ ?_<;>(intro h;((try simp only [zs,zq,reduceCtorEq] at h);try exact zx)))|fail)
     all_goals first|contradiction|exact Z9 uZ ⟨rfl,rfl⟩ (hv:=Xy S (hg:=Ze rfl (Ze rfl Z4)))
   ·have h6:Znd e x=false:=by unfold Znd;exact decide_eq_false (fun h=>hd h.1)
    repeat' (first|refine uN ?_|refine Z2 S ?_|(refine uB ?_;intro b)|(refine uP ?_ ?_<;>(intro h;((try simp only [zs,zq,reduceCtorEq] at h);try exact zx)))|fail)
    all_goals first|contradiction|exact Zg (j+1) uS uL ⟨by omega,by rw [h3,h6]⟩ (by omega)
  rw [Znr (by omega)] at j2
  repeat' (first|refine uN ?_|refine Z2 S ?_|(refine uB ?_;intro b)|(refine uP ?_ ?_<;>(intro h;((try simp only [zs,zq,reduceCtorEq] at h);try exact zx)))|fail)
  refine Zp (σ:=Nat) (fun j=>[(0,.slice (some ⟨b0,i0,none⟩) xs.length cap),(1,iv sites),(4,pt br 0),(5,iv k),(6,pt be 0),(9,iv j)]) (fun _=>[(be,.cells ⟨evc e⟩ 66)]::[(br,.cells ⟨[iv 0,iv 0]⟩ 63)]::L) (fun j=>j≤k∧((xs.take k).take j).any (Zl2 e)=false) (fun j=>k-j) 0 uS (List.Sublist.refl _) ⟨by omega,by simp⟩ ?_
  rintro j ⟨j1,j3⟩
  by_cases hj:j<k
  ·obtain ⟨b9,i9,l9,E9,fr9,ha9,hb9,hg9⟩:=hR.at (j:=(j:Int)) (by omega) (by omega)
   cases ha9
   have ey:xs[(j:Int).toNat]'(by omega)=(xs.take k)[j]'(by omega):=by simp
   rw [ey] at hg9
   have h3:=Zfc (p:=Zl2 e) (l:=xs.take k) (k:=j) (by omega)
   have h5:=Zns (p:=Zl2 e) (l:=xs.take k) (k:=j) (by omega)
   rw [j3,Bool.false_or] at h3
   generalize (xs.take k)[j]'(by omega)=x at *
   by_cases hd:x.d=e.d
   ·by_cases hp:x.s=e.s
    ·have h6:Zl2 e x=true:=by unfold Zl2;exact decide_eq_true ⟨hd,hp⟩
     have hev:Zjf sites e (xs.take k)=some 8:=by unfold Zjf;rw [if_neg hb,if_neg (by rw [j2];decide),if_pos (h5 h6)]
     rw [m2 _ hev]
     repeat' (first|refine uN ?_|refine Z2 S ?_|(refine uB ?_;intro b)|(refine uP ?_ ?_<;>(intro h;((try simp only [zs,zq,reduceCtorEq] at h);try exact zx)))|fail)
     all_goals first|contradiction|exact Z9 uZ ⟨rfl,rfl⟩ (hv:=Xy S (hg:=Ze rfl (Ze rfl Z4)))
    ·have h6:Zl2 e x=false:=by unfold Zl2;exact decide_eq_false (fun h=>hp h.2)
     repeat' (first|refine uN ?_|refine Z2 S ?_|(refine uB ?_;intro b)|(refine uP ?_ ?_<;>(intro h;((try simp only [zs,zq,reduceCtorEq] at h);try exact zx)))|fail)
     all_goals first|contradiction|exact Zg (j+1) uS uL ⟨by omega,by rw [h3,h6]⟩ (by omega)
   ·have h6:Zl2 e x=false:=by unfold Zl2;exact decide_eq_false (fun h=>hd h.1)
    repeat' (first|refine uN ?_|refine Z2 S ?_|(refine uB ?_;intro b)|(refine uP ?_ ?_<;>(intro h;((try simp only [zs,zq,reduceCtorEq] at h);try exact zx)))|fail)
    all_goals first|contradiction|exact Zg (j+1) uS uL ⟨by omega,by rw [h3,h6]⟩ (by omega)
  rw [Znr (by omega)] at j3
  have hev:Zjf sites e (xs.take k)=none:=by unfold Zjf;rw [if_neg hb,if_neg (by rw [j2];decide),if_neg (by rw [j3];decide)]
  have h9:=m1 hev
  repeat' (first|refine uN ?_|refine Z2 S ?_|(refine uB ?_;intro b)|(refine uP ?_ ?_<;>(intro h;((try simp only [zs,zq,reduceCtorEq] at h);try exact zx)))|fail)
  exact Zg (k+1) uS uL ⟨by omega,by rw [h9]⟩ (by omega)
 ·rw [Zcr (by omega)]
  repeat' (first|refine uN ?_|refine Z2 S ?_|refine uC (Zt2 _) ?_|(refine uB ?_;intro b)|(refine uP ?_ ?_<;>(intro h;((try simp only [zs,zq,reduceCtorEq] at h);try exact zx)))|fail)
  exact Z9 uZ ⟨rfl,rfl⟩ (hv:=Xy S (hg:=Ze rfl (Ze rfl Z4)))
end Go.HL
end

/-! SfH -/
section
namespace Go.HL
open Go Go.Proofs
def Zl1 (e:Evt):Ev:=⟨e.site,e.deal,e.ph⟩
theorem Zl8 {sites:Int} {xs:List Ev} (h : ∀ i (hi:i<xs.length),Zjf sites xs[i] (xs.take i)=none) : ∀ k i,k=xs.length-i→Zcq sites xs i=none
 | 0,i,hk=>Zcr (by omega)
 | k+1,i,hk=>by
  have hi:i<xs.length:=by omega
  rw [Za6 hi (h i hi)]
  exact Zl8 h k (i+1) (by omega)
theorem take_mem {α:Type} {xs:List α} {i:Nat} {x:α} (h:x∈xs.take i) : ∃ k,∃ hk:k<xs.length,k<i∧xs[k]=x:=by
 obtain ⟨k,hk,e⟩:=List.mem_iff_getElem.1 h
 rw [List.length_take] at hk
 refine ⟨k,by omega,by omega,?_⟩
 rw [← e,List.getElem_take]
structure WellE (n:Nat) (xs:List Ev):Prop where
 rg : ∀ e∈xs,0≤e.s∧e.s<n∧0≤e.d∧e.d<6∧Za8 e.p=true
 pw:xs.Pairwise fun a b => ¬ (a.s=b.s∧a.d=b.d)
 ag : ∀ a∈xs,∀ b∈xs,a.d=b.d→a.p=b.p
theorem evM_well {n:Nat} {xs:List Ev} (h1 : ∀ e∈xs,0≤e.s∧e.s<n∧0≤e.d∧e.d<6∧Za8 e.p=true) (h2:xs.Pairwise fun a b => ¬ (a.s=b.s∧a.d=b.d)) {i:Nat} (hi:i<xs.length) (h3 : ∀ a∈xs.take i,a.d=xs[i].d→a.p=xs[i].p):Zjf n xs[i] (xs.take i)=none:=by
 have hr:=h1 xs[i] (List.getElem_mem hi)
 unfold Zjf
 rw [if_neg (by unfold Zxn;rw [hr.2.2.2.2];simp;omega)]
 rw [if_neg,if_neg]
 ·rw [Bool.not_eq_true,List.any_eq_false]
  intro a ha
  obtain ⟨k,hk,hki,rfl⟩:=take_mem ha
  have:=List.pairwise_iff_getElem.1 h2 k i hk hi hki
  unfold Zl2
  simp only [decide_eq_true_eq]
  exact fun e=>this ⟨e.2,e.1⟩
 ·rw [Bool.not_eq_true,List.any_eq_false]
  intro a ha
  unfold Znd
  simp only [decide_eq_true_eq]
  exact fun e=>e.2 (h3 a ha e.1)
theorem WellE.chk {n:Nat} {xs:List Ev} (h:WellE n xs) (i:Nat):Zcq n xs i=none:=
 Zl8 (fun i hi=>evM_well h.rg h.pw hi fun a ha e=>h.ag a (List.mem_of_mem_take ha) xs[i] (List.getElem_mem hi) e) _ i rfl
end Go.HL
end

/-! FlD3 -/
section
namespace Go.HL
open Go Go.Proofs
set_option maxHeartbeats 2000000 attribute [local irreducible] HW HO HQ HD HC QOp Has Upd Zt Gets Z8 Z0 Zo Xm Zz Zj Xp Zy
end Go.HL
end

/-! JgB -/
section
namespace Go.HL
open Go Go.Proofs
set_option maxHeartbeats 2000000 attribute [local irreducible] HW HO HQ HD HC QOp Has Upd Zt Gets Z8 Z0 Zo Xm Zz Zj Xp Zy
attribute [local irreducible] faC
end Go.HL
end

/-! PwF -/
section
namespace Go.HL
open Go Go.Proofs
theorem rd_ev {L:Zb} {a:Option Addr} {xs:List Evt} (h:Rd ec 3 L a xs):Rd evc 3 L a (xs.map Zl1):=by
 rcases h with h|⟨b,i,l,E,fr,h1,hb,hg⟩
 ·exact .inl (by rw [h];rfl)
 ·refine .inr ⟨b,i,l,E,fr,h1,hb,fun k x hx=>?_⟩
  rw [List.getElem?_map,Option.map_eq_some_iff] at hx
  obtain ⟨y,hy,rfl⟩:=hx
  exact hg k y hy
set_option maxHeartbeats 2000000 attribute [local irreducible] HW HO HQ HD HC QOp Has Upd Zt Gets Z8 Z0 Zo Xm Zz Zj Xp Zy
attribute [local irreducible] runW Ve
end Go.HL
end

/-! ScE -/
section
namespace Go.HL
open Go Go.Proofs
def nmL:List (List UInt8):=[[110,111,116,104,105,110,103],[118,111,116,101,100],[99,111,109,109,105,116,116,101,100],[97,98,111,114,116,101,100],[112,114,101,99,111,109,109,105,116],[112,114,101,97,98,111,114,116]]
def Zz1 (p:Int):List UInt8:=if p<0∨6≤p then Lib.itoa p else nmL.getD p.toNat []
set_option maxHeartbeats 2000000 attribute [local irreducible] HW HO HQ HD HC QOp Has Upd Zt Gets Z8 Z0 Zo Xm Zz Zj Xp Zy
theorem Zhh (p:Int) (h0 : -9223372036854775808≤p) (h1:p≤9223372036854775807) {F:Nat} {fr:Nat × Nat} (L:Zb) (hT:Has L 14 (Zl0 F fr)):HC Tryz.prog 109 [iv p] L (fun v L'=>v=bs (Zz1 p)∧L'=L):=by
 have kI:=fun c=>Uo p h0 h1 (c::L) (Zc hT)
 by_cases h:p<0∨6≤p
 ·rw [Zz1,if_pos h]
  refine Za (fun _ _=>Tryz.call109 _ _) Tryz.func109 rfl Tryz.ntmps109 (Nat.le_of_ble_eq_true rfl) ?_;simp only [Zd,Nat.reduceAdd]
  repeat' (first|refine uN ?_|refine uC (kI _) ?_|(refine uB ?_;intro b)|(refine uP ?_ ?_<;>(intro h;((try simp only [zs,zq,reduceCtorEq] at h);try exact zx)))|fail)
  all_goals exact Z9 (L':=L) (LS.c (LS.refl _)) ⟨rfl,rfl⟩
 ·rw [Zz1,if_neg h]
  rcases (show p=0∨p=1∨p=2∨p=3∨p=4∨p=5 by omega) with rfl|rfl|rfl|rfl|rfl|rfl
  all_goals
   refine Za (fun _ _=>Tryz.call109 _ _) Tryz.func109 rfl Tryz.ntmps109 (Nat.le_of_ble_eq_true rfl) ?_;simp only [Zd,Nat.reduceAdd]
   repeat' (first|refine uN ?_|refine uC (kI _) ?_|(refine uB ?_;intro b)|(refine uP ?_ ?_<;>(intro h;((try simp only [zs,zq,reduceCtorEq] at h);try exact zx)))|fail)
  all_goals exact Z9 (L':=L) (LS.c (LS.refl _)) ⟨rfl,rfl⟩
def Ue:Nat→Wm→Wm × Nat
 | 0,M=>(M,0)
 | k+1,M=>if (Ya M 0).2=none then ((Ue k (Ya M 0).1).1,(Ue k (Ya M 0).1).2+1) else ((Ya M 0).1,0)
theorem Zh9 : ∀ (k:Nat) {M:Wm},WI M→StepOk M (Ue k M).1 (84*k)∧(Ue k M).2≤k
 | 0,M,h=>⟨.refl h _,Nat.le_refl _⟩
 | k+1,M,h=>by
  have h1:=(Qg h 0).mono (show _≤84 by omega)
  unfold Ue
  split
  ·obtain ⟨h2,h3⟩:=Zh9 k h1.wi
   have e1:=h1.len
   have e2:=h2.len
   exact ⟨⟨h2.wi,h1.same.trans h2.same,by simp only;omega⟩,by simp only;omega⟩
  ·exact ⟨h1.mono (by omega),by simp⟩
theorem Zdj (k:Nat) (M:Wm):Ue (k+1) M=if (Ya M 0).2=none then ((Ue k (Ya M 0).1).1,(Ue k (Ya M 0).1).2+1) else ((Ya M 0).1,0):=rfl
theorem Zl4 (M:Wm):Ue 0 M=(M,0):=rfl
theorem Zno {M:Wm} (h:WI M) (s d:Int):Zgy (U8 M s d):=by
 unfold U8
 have hz:Zgy W4:=by unfold Zgy W4;decide
 split
 ·exact hz
 ·rename_i he
  unfold Xz at he
  split at he
  ·cases he
  ·rename_i hn
   split at he
   ·cases he
   ·have h2:=Y8 hn
    obtain ⟨k,rfl⟩:=Int.eq_ofNat_of_zero_le (show 0≤d by omega)
    exact (h.at h2.1 h2.2).si.st k (by omega)
theorem Zdp (p:Int) (h0 : -9223372036854775808≤p) (h1:p≤9223372036854775807):(Zz1 p).length≤21:=by
 unfold Zz1
 split
 ·exact Lib.itoa_length_le p h0 h1
 ·rcases (show p=0∨p=1∨p=2∨p=3∨p=4∨p=5 by omega) with rfl|rfl|rfl|rfl|rfl|rfl<;>decide
theorem hFs {L:Zb} {g:Nat} {o:Obj} (h:Has L g o) : ∀ q∈[(g,o)],Has L q.1 q.2:=fun q hq=>by rw [List.mem_singleton.1 hq];exact h
def stT (s:St):List UInt8:=Zz1 s.ph++[32]++Lib.itoa s.pr++[32]++Lib.itoa s.att
def Zmc (e:Evt):List UInt8:=Lib.itoa e.site++[32]++Lib.itoa e.deal++[32]++Zz1 e.ph
def evsT (l:List Evt):List UInt8:=if l=[] then [110,111,116,104,105,110,103] else Vi (l.map Zmc)
theorem Zjq (N:Nat) : ∀ l:List (List UInt8),(∀ x∈l,x.length≤N)→(Vi l).length≤l.length*(N+2)
 | [],_=>by simp [Vi]
 | [x],h=>by
  have:=h x (List.mem_singleton.2 rfl)
  simp only [Vi,List.length_singleton]
  omega
 | x::y::r,h=>by
  have h1:=h x (List.mem_cons_self)
  have h2:=Zjq N (y::r) fun z hz=>h z (List.mem_cons_of_mem _ hz)
  simp only [Vi,List.length_append,List.length_cons,List.length_nil] at h2 ⊢
  rw [Nat.add_mul (r.length+1) 1]
  omega
section
variable (T:Nat) (E:Nat→Addr) (G:WdG) (M:Wm) (p:Nat) (a:Option Addr) (cap:Nat) (ns:List Int) (L:Zb)
attribute [local irreducible] Wa Ya Ue
set_option maxRecDepth 20000 in
theorem Zrh (nv:Value) (hE:Es T E L) (hS:Sz L) (hW:WdOk G M) (hM:WI M) (hl:M.l.length≤99000000) :
  HC Tryz.prog 103 [pt p 0,nv] (Wa G M::Zx p (pt G.wp 0)::L) (fun v L'=>v = .tuple ⟨[bs (Lib.itoa (Ue 3000 M).2),.nilIface]⟩∧Zvz G (Ue 3000 M).1 (Zx p (pt G.wp 0)::L) L'):=by
 have hG:=(hE.er [2,3,4,5,6,8]).cons (Zx p (pt G.wp 0))
 have hok:=fun i=>Zh9 i hM
 refine Za (fun _ _=>Tryz.call103 _ _) Tryz.func103 rfl Tryz.ntmps103 (Nat.le_of_ble_eq_true rfl) ?_;simp only [Zd,Nat.reduceAdd]
 repeat' (first|refine uN ?_|(refine uP ?_ ?_<;>(intro h;((try simp only [zs,zq,reduceCtorEq] at h);try exact zx)))|fail)
 refine Zp (σ:=Nat × WdG × Wm) (fun r=>[(0,pt p 0),(6,iv r.1),(5,.nilIface)])
  (fun r=>Wa r.2.1 r.2.2::Zx p (pt G.wp 0)::L)
  (fun r=>r.1≤3000∧r.2.1.wp=G.wp∧WdOk r.2.1 r.2.2∧StepOk M r.2.2 (84*r.1)∧(Ue 3000 M).1=(Ue (3000-r.1) r.2.2).1∧(Ue 3000 M).2=(Ue (3000-r.1) r.2.2).2+r.1) (fun r=>3000-r.1) (0,G,M) uS (List.Sublist.refl _) ⟨by simp,rfl,hW,.refl hM _,rfl,rfl⟩ ?_
 rintro ⟨i,G1,M1⟩ ⟨hi,hwp,hW1,⟨hM1,hsame,hlen⟩,e1,e2⟩
 simp only at hi hwp hW1 hM1 hlen e1 e2 ⊢
 have k:=HC.shut (Zdg T E G1 M1 0 _ hG.sub hW1 hM1 (by omega))
 have hd:=(Qg hM1 0).mono (show _≤84 by omega)
 rw [hwp] at k
 have kI:=fun (c:List Zr) (j:Nat) (hj:j≤3000)=>Zeu (j:Int) (by omega) (by omega) (c::Zx p (pt G.wp 0)::L) ((hS.cons _).cons c)
 unfold Zx at *
 by_cases hi3:i<3000
 ·have es:=Zdj (3000-i-1) M1
  rw [show 3000-i-1+1=3000-i by omega] at es
  rw [es] at e1 e2
  clear es
  generalize Ya M1 0=R at *
  obtain ⟨M2,e⟩:=R
  simp only at k hd e1 e2
  cases e with
  | none =>
   simp only [if_pos] at e1 e2
   repeat' (first|refine uN ?_|(refine uP ?_ ?_<;>(intro h;((try simp only [zs,zq,reduceCtorEq] at h);try exact zx)))|fail)
   refine gc k ?_
   rintro v L' ⟨rfl,G2,f1,hW2,rfl⟩
   repeat' (first|refine uN ?_|(refine uP ?_ ?_<;>(intro h;((try simp only [zs,zq,reduceCtorEq] at h);try exact zx)))|fail)
   exact Zg (i+1,G2,M2) uS (LS.refl _) ⟨by simp only;omega,by simp only;rw [f1,hwp],hW2,⟨hd.wi,hsame.trans hd.same,by have:=hd.len;simp only;omega⟩,by simp only;rw [e1,show 3000-(i+1)=3000-i-1 by omega],by simp only;rw [e2,show 3000-(i+1)=3000-i-1 by omega];omega⟩ (by simp only;omega)
  | some g =>
   simp only [reduceCtorEq,if_false] at e1 e2
   repeat' (first|refine uN ?_|(refine uP ?_ ?_<;>(intro h;((try simp only [zs,zq,reduceCtorEq] at h);try exact zx)))|fail)
   refine gc k ?_
   rintro v L' ⟨rfl,G2,f1,hW2,rfl⟩
   have kJ:=kI (Wa G2 M2) i hi
   rw [e1,show (Ue 3000 M).2=i by omega]
   repeat' (first|refine uN ?_|refine uC (kJ) ?_|(refine uP ?_ ?_<;>(intro h;((try simp only [zs,zq,reduceCtorEq] at h);try exact zx)))|fail)
   exact Zeb rfl ⟨rfl,G2,by rw [f1,hwp],hW2,rfl⟩
 ·obtain rfl:i=3000:=by omega
  rw [show (3000:Nat)-3000=0 from rfl,Zl4] at e1 e2
  have kJ:=kI (Wa G1 M1) 3000 hi
  rw [e1,show (Ue 3000 M).2=3000 by simp only at e2;omega]
  repeat' (first|refine uN ?_|refine uC (kJ) ?_|(refine uP ?_ ?_<;>(intro h;((try simp only [zs,zq,reduceCtorEq] at h);try exact zx)))|fail)
  all_goals first|(exfalso;omega)|exact Zeb rfl ⟨rfl,G1,hwp,hW1,rfl⟩
theorem Zri (nv:Value) (hE:Es T E L) (hS:Sz L) (hW:WdOk G M) (hl:M.l.length≤100000000) :
  HC Tryz.prog 105 [pt p 0,nv] (Wa G M::Zx p (pt G.wp 0)::L) (fun v L'=>v = .tuple ⟨[bs (Lib.itoa M.l.length),.nilIface]⟩∧L'=Wa G M::Zx p (pt G.wp 0)::L):=by
 have k:=HC.shutQ (Zvs G M _ (Zas hW (Zx p (pt G.wp 0)::L)))
 have kI:=Zeu (M.l.length:Int) (by omega) (by omega) (Wa G M::Zx p (pt G.wp 0)::L) ((hS.cons _).cons _)
 unfold Zx at *
 refine Za (fun _ _=>Tryz.call105 _ _) Tryz.func105 rfl Tryz.ntmps105 (Nat.le_of_ble_eq_true rfl) ?_;simp only [Zd,Nat.reduceAdd]
 repeat' (first|refine uN ?_|refine uC (k) ?_|refine uC (kI) ?_|fail)
 exact Zeb rfl ⟨rfl,rfl⟩
theorem Zrk (hE:Es T E L) (hW:WdOk G M) (hM:WI M) (hR:Rd ic 1 L a ns) (hn:2≤ns.length) (hcap:ns.length≤cap) (h48:ns.length≤1000) :
  HC Tryz.prog 110 [pt p 0,.slice a ns.length cap] (Wa G M::Zx p (pt G.wp 0)::L) (fun v L'=>v = .tuple ⟨[bs (Up M (ns.getD 0 0) (ns.getD 1 0)).1,eV T E (Up M (ns.getD 0 0) (ns.getD 1 0)).2]⟩∧L'=Wa G M::Zx p (pt G.wp 0)::L):=by
 have hG:=(hE.er [2]).cons (Zx p (pt G.wp 0))
 have k:=HC.shutQ (Zs7 T E G M (ns.getD 0 0) (ns.getD 1 0) (Zx p (pt G.wp 0)::L) hG hW hM)
 obtain ⟨b1,i1,q1,F1,f1,rfl,hb1,hg1,hg2⟩:=Zpx hR (by omega)
 have hg2:=hg2 (by omega)
 have hb1:=(Zc (Zc hb1):Has (Wa G M::Zx p (pt G.wp 0)::L) _ _)
 unfold Zx at *
 refine Za (fun _ _=>Tryz.call110 _ _) Tryz.func110 rfl Tryz.ntmps110 (Nat.le_of_ble_eq_true rfl) ?_;simp only [Zd,Nat.reduceAdd]
 repeat' (first|refine uN ?_|refine Z2 S ?_|refine uC (k) ?_|fail)
 exact Zeb rfl ⟨rfl,rfl⟩
theorem Zrl (hE:Es T E L) (hW:WdOk G M) (hR:Rd ic 1 L a ns) (hn:1≤ns.length) (hcap:ns.length≤cap) (h48:ns.length≤1000) :
  HC Tryz.prog 112 [pt p 0,.slice a ns.length cap] (Wa G M::Zx p (pt G.wp 0)::L) (fun v L'=>v = .tuple ⟨[bs (if (Zh5 M (ns.getD 0 0)).1 then [117,112] else [100,111,119,110]),if (Zh5 M (ns.getD 0 0)).1 then .nilIface else eV T E (Zh5 M (ns.getD 0 0)).2]⟩∧L'=Wa G M::Zx p (pt G.wp 0)::L):=by
 have hG:=(hE.er [2]).cons (Zx p (pt G.wp 0))
 have k:=HC.shutQ (Zzu T E G M (ns.getD 0 0) (Xj G M++(Zx p (pt G.wp 0)::L)) (Ww hG G M) (Zas hW _) hW.ndl (fun hn=>Zcd hW.ndl (Y8 hn).1 (Y8 hn).2 _))
 obtain ⟨b1,i1,q1,F1,f1,rfl,hb1,hg1,hg2⟩:=Zpx hR (by omega)
 clear hg2
 have hb1:=(Zc (Zc hb1):Has (Wa G M::Zx p (pt G.wp 0)::L) _ _)
 unfold Zx at *
 generalize Zh5 M (ns.getD 0 0)=R at *
 obtain ⟨up,e⟩:=R
 simp only at k ⊢
 refine Za (fun _ _=>Tryz.call112 _ _) Tryz.func112 rfl Tryz.ntmps112 (Nat.le_of_ble_eq_true rfl) ?_;simp only [Zd,Nat.reduceAdd]
 repeat' (first|refine uN ?_|refine Z2 S ?_|refine uC (k) ?_|(refine uP ?_ ?_<;>(intro h;((try simp only [zs,zq,reduceCtorEq] at h);try exact zx)))|fail)
 all_goals (subst_vars;exact Zeb rfl ⟨rfl,rfl⟩)
theorem Zrn (nv:Value) (hE:Es T E L) (hW:WdOk G M) (hev:M.ev.length≤1000000) :
  HC Tryz.prog 117 [pt p 0,nv] (Wa G M::Zx p (pt G.wp 0)::L) (fun v L' => ∃ c fv,v = .tuple ⟨[bs [111,107],fv]⟩∧FV T E fv (Zt1 M.n.length (M.ev.map Zl1)).1 (Zt1 M.n.length (M.ev.map Zl1)).2 c∧L'=c::Wa G M::Zx p (pt G.wp 0)::L):=by
 have kEv:=HC.shutR (V:=fun v c=>Vec 174 3 ec v M.ev c) (Zel G M (Zx p (pt G.wp 0)::L) hW (by omega))
 have kSi:=fun c:List Zr=>HC.ro (V:=fun v=>v=iv M.n.length) (H':=c::Wa G M::Zx p (pt G.wp 0)::L) (LS.trans lsW uL) (LS.trans (b:=(Wa G M::c::Zx p (pt G.wp 0)::L:Zb).flatten) uL lsW') (Zpu G M (Xj G M++(c::Zx p (pt G.wp 0)::L)) (Zas hW _))
 unfold Zx at *
 refine Za (fun _ _=>Tryz.call117 _ _) Tryz.func117 rfl Tryz.ntmps117 (Nat.le_of_ble_eq_true rfl) ?_;simp only [Zd,Nat.reduceAdd]
 repeat' (first|refine uN ?_|refine Zu S ?_|refine da 101 ?_|fail)
 refine gc kEv ?_
 rintro v L' ⟨ce,hve,rfl⟩
 obtain ⟨a1,cap1,rfl,hcap1,hR1⟩:=hve.rd U0
 repeat' (first|refine uN ?_|refine Zu S ?_|refine da 101 ?_|fail)
 refine gc (kSi ce) ?_
 rintro v L' ⟨rfl,rfl⟩
 have kj:=Zoj T E a1 cap1 (M.ev.map Zl1) M.n.length (ce::Wa G M::[(p,.cells ⟨[pt G.wp 0]⟩ 74)]::L) ((((hE.er [2,8,9]).cons _).cons _).cons _) (rd_ev (hR1 _)) (by rw [List.length_map];omega) (by rw [List.length_map];exact hcap1)
 rw [List.length_map] at kj
 repeat' (first|refine uN ?_|refine Zu S ?_|refine da 101 ?_|fail)
 refine gc kj ?_
 rintro v L' ⟨cf,hf,rfl⟩
 repeat' (first|refine uN ?_|refine Zu S ?_|refine da 101 ?_|fail)
 refine gc (Zfy v _) ?_
 rintro v2 L' ⟨rfl,rfl⟩
 repeat' (first|refine uN ?_|refine Zu S ?_|refine da 101 ?_|fail)
 exact W9 (L':=cf::Wa G M::[(p,.cells ⟨[pt G.wp 0]⟩ 74)]::L) uL ⟨cf,v,rfl,hf,rfl⟩
theorem Zrj (hE:Es T E L) (hS:Sz L) (hW:WdOk G M) (hM:WI M) (hR:Rd ic 1 L a ns) (hn:2≤ns.length) (hcap:ns.length≤cap) (h48:ns.length≤1000) :
  HC Tryz.prog 107 [pt p 0,.slice a ns.length cap] (Wa G M::Zx p (pt G.wp 0)::L) (fun v L'=>v = .tuple ⟨[bs (stT (U8 M (ns.getD 0 0) (ns.getD 1 0))),eV T E (Xz M (ns.getD 0 0) (ns.getD 1 0))]⟩∧L'=Wa G M::Zx p (pt G.wp 0)::L):=by
 have hG:=(hE.er [2,6]).cons (Zx p (pt G.wp 0))
 have k:=HC.shutQ (Zem T E G M (ns.getD 0 0) (ns.getD 1 0) (Zx p (pt G.wp 0)::L) hG hW hM)
 have k2:=fun c:List Zr=>HC.ro (V:=fun v=>v = .tuple ⟨[.agg ⟨sc (U8 M (ns.getD 0 0) (ns.getD 1 0))⟩,eV T E (Xz M (ns.getD 0 0) (ns.getD 1 0))]⟩) (H':=c::Wa G M::Zx p (pt G.wp 0)::L) (LS.trans lsW uL) (LS.trans (b:=(Wa G M::c::Zx p (pt G.wp 0)::L:Zb).flatten) uL lsW') (Zem T E G M (ns.getD 0 0) (ns.getD 1 0) (c::Zx p (pt G.wp 0)::L) (hG.cons c) hW hM)
 obtain ⟨o1,o2,o3,o4,o5⟩:=Zno hM (ns.getD 0 0) (ns.getD 1 0)
 obtain ⟨b1,i1,q1,F1,f1,rfl,hb1,hg1,hg2⟩:=Zpx hR (by omega)
 have hg2:=hg2 (by omega)
 have hb1:=(Zc (Zc hb1):Has (Wa G M::Zx p (pt G.wp 0)::L) _ _)
 obtain ⟨Ft,ft,hT⟩:=hS.tb
 have hT:Has (Wa G M::Zx p (pt G.wp 0)::L) _ _:=Zc (Zc hT)
 unfold Zx stT at *
 generalize U8 M (ns.getD 0 0) (ns.getD 1 0)=s0 at *
 generalize Xz M (ns.getD 0 0) (ns.getD 1 0)=e0 at *
 obtain ⟨ph,pr,att⟩:=s0
 simp only [sc] at *
 have kN:=fun L (h : ∀ q∈[(14,Zl0 Ft ft)],Has L q.1 q.2)=>Zhh ph (by omega) (by omega) L (h _ (List.mem_singleton.2 rfl))
 have kP:=fun L (h : ∀ q∈[(14,Zl0 Ft ft)],Has L q.1 q.2)=>Uo pr (by omega) (by omega) L (h _ (List.mem_singleton.2 rfl))
 have kA:=fun L (h : ∀ q∈[(14,Zl0 Ft ft)],Has L q.1 q.2)=>Uo att (by omega) (by omega) L (h _ (List.mem_singleton.2 rfl))
 have l1:=Zdp ph (by omega) (by omega)
 have l2:=Lib.itoa_length_le pr (by omega) (by omega)
 have l3:=Lib.itoa_length_le att (by omega) (by omega)
 refine Za (fun _ _=>Tryz.call107 _ _) Tryz.func107 rfl Tryz.ntmps107 (Nat.le_of_ble_eq_true rfl) ?_;simp only [Zd,Nat.reduceAdd]
 repeat' (first|refine uN ?_|refine Zu S ?_|(refine uB ?_;intro b)|refine da 101 ?_|fail)
 refine Zbx ?_ ?_
 ·refine gc k ?_
  rintro v L' ⟨rfl,rfl⟩
  repeat' (first|refine uN ?_|refine Zu S ?_|(refine uB ?_;intro b)|refine da 101 ?_|fail)
  refine dcF 0 _ kN (hFs (Zc hT)) ?_
  repeat' (first|refine uN ?_|refine Zu S ?_|(refine uB ?_;intro b)|refine da 101 ?_|fail)
  refine dcF 0 _ kP (hFs (Zc hT)) ?_
  repeat' (first|refine uN ?_|refine Zu S ?_|(refine uB ?_;intro b)|refine da 101 ?_|fail)
  refine dcF 0 _ kA (hFs (Zc hT)) ?_
  repeat' (first|refine uN ?_|refine Zu S ?_|(refine uB ?_;intro b)|refine da 101 ?_|fail)
  exact W9 (L':=Wa G M::[(p,.cells ⟨[pt G.wp 0]⟩ 74)]::L) uL ⟨rfl,rfl⟩
 ·repeat' (first|refine uN ?_|refine Zu S ?_|(refine uB ?_;intro b)|refine da 101 ?_|fail)
  refine gc (k2 _) ?_
  rintro v L' ⟨rfl,rfl⟩
  repeat' (first|refine uN ?_|refine Zu S ?_|(refine uB ?_;intro b)|refine da 101 ?_|fail)
  refine dcF 0 _ kN (hFs (Zc hT)) ?_
  repeat' (first|refine uN ?_|refine Zu S ?_|(refine uB ?_;intro b)|refine da 101 ?_|fail)
  refine dcF 0 _ kP (hFs (Zc hT)) ?_
  repeat' (first|refine uN ?_|refine Zu S ?_|(refine uB ?_;intro b)|refine da 101 ?_|fail)
  refine dcF 0 _ kA (hFs (Zc hT)) ?_
  repeat' (first|refine uN ?_|refine Zu S ?_|(refine uB ?_;intro b)|refine da 101 ?_|fail)
  exact W9 (L':=Wa G M::[(p,.cells ⟨[pt G.wp 0]⟩ 74)]::L) uL ⟨rfl,rfl⟩
theorem Zrm (nv:Value) (hS:Sz L) (hW:WdOk G M) (hM:WI M) (hv:EvW M) :
  HC Tryz.prog 114 [pt p 0,nv] (Wa G M::Zx p (pt G.wp 0)::L) (fun v L'=>v = .tuple ⟨[bs (evsT M.ev),.nilIface]⟩∧L'=Wa G M::Zx p (pt G.wp 0)::L):=by
 have hel:=hM.evl
 have hwl:=hM.wl
 have hrg:=hv.rg
 have kEv:=HC.shutR (V:=fun v c=>Vec 174 3 ec v M.ev c) (Zel G M (Zx p (pt G.wp 0)::L) hW (by omega))
 obtain ⟨Ft,ft,hT⟩:=hS.tb
 have hT:Has (Wa G M::Zx p (pt G.wp 0)::L) _ _:=Zc (Zc hT)
 have hjl:(Vi (M.ev.map Zmc)).length≤100000:=by
  have h1:=Zjq 65 (M.ev.map Zmc) fun x hx=>by
   obtain ⟨e,he,rfl⟩:=List.mem_map.1 hx
   obtain ⟨r1,r2,r3,r4,r5⟩:=hrg e he
   have l1:=Lib.itoa_length_le e.site (by omega) (by omega)
   have l2:=Lib.itoa_length_le e.deal (by omega) (by omega)
   have l3:=Zdp e.ph (by unfold fin at r5;omega) (by unfold fin at r5;omega)
   unfold Zmc
   simp only [List.length_append,List.length_cons,List.length_nil]
   omega
  rw [List.length_map] at h1
  have h2:=Nat.mul_le_mul_right (65+2) hel
  omega
 unfold Zx at *
 refine Za (fun _ _=>Tryz.call114 _ _) Tryz.func114 rfl Tryz.ntmps114 (Nat.le_of_ble_eq_true rfl) ?_;simp only [Zd,Nat.reduceAdd]
 repeat' (first|refine uN ?_|refine Z2 S ?_|refine Yp S ?_|(refine uB ?_;intro b)|(refine uP ?_ ?_<;>(intro h;((try simp only [zs,zq,reduceCtorEq] at h);try exact zx)))|refine da 101 ?_|fail)
 refine gc kEv ?_
 rintro v L' ⟨ce,hve,rfl⟩
 obtain ⟨a1,cap1,rfl,hcap1,hR1⟩:=hve.rd U0
 repeat' (first|refine uN ?_|refine Z2 S ?_|refine Yp S ?_|(refine uB ?_;intro b)|(refine uP ?_ ?_<;>(intro h;((try simp only [zs,zq,reduceCtorEq] at h);try exact zx)))|refine da 101 ?_|fail)
 refine W6 (L':=[]::ce::Wa G M::[(p,.cells ⟨[pt G.wp 0]⟩ 74)]::L) ?_ (LS.refl _)
 refine Zp (σ:=Nat × Value × List Zr) (fun r=>[(6,r.2.1),(13,.slice a1 M.ev.length cap1),(14,iv M.ev.length),(15,iv r.1),(5,.nilIface)])
  (fun r=>r.2.2::ce::Wa G M::[(p,.cells ⟨[pt G.wp 0]⟩ 74)]::L)
  (fun r=>r.1≤M.ev.length∧Vec 9 1 Zab r.2.1 ((M.ev.take r.1).map Zmc) r.2.2∧(r.1=0→r.2.1=Ys)) (fun r=>M.ev.length-r.1) (0,Ys,[]) uS (List.Sublist.refl _) ⟨by simp,Zv,fun _=>rfl⟩ ?_
 rintro ⟨i,u,c⟩ ⟨hi,hu,hu0⟩
 simp only at hi hu hu0 ⊢
 by_cases hit:i<M.ev.length
 ·obtain ⟨b1,bi,l,F,fr,rfl,hb,hg⟩:=(hR1 (Wa G M::[(p,.cells ⟨[pt G.wp 0]⟩ 74)]::L)).at (j:=(i:Int)) (by omega) (by omega)
  have eg:M.ev[(i:Int).toNat]'(by omega)=M.ev[i]:=rfl
  rw [eg] at hg
  obtain ⟨r1,r2,r3,r4,r5⟩:=hrg M.ev[i] (List.getElem_mem _)
  have hs:(M.ev.take (i+1)).map Zmc=(M.ev.take i).map Zmc++[Zmc M.ev[i]]:=by rw [Ql hit,List.map_append];rfl
  unfold ec at hg
  generalize M.ev[i]=e at *
  obtain ⟨es,ed,ep⟩:=e
  simp only at hs hg r1 r2 r3 r4 r5
  have kN:=fun L (h : ∀ q∈[(14,Zl0 Ft ft)],Has L q.1 q.2)=>Zhh ep (by unfold fin at r5;omega) (by unfold fin at r5;omega) L (h _ (List.mem_singleton.2 rfl))
  have kP:=fun L (h : ∀ q∈[(14,Zl0 Ft ft)],Has L q.1 q.2)=>Uo es (by omega) (by omega) L (h _ (List.mem_singleton.2 rfl))
  have kA:=fun L (h : ∀ q∈[(14,Zl0 Ft ft)],Has L q.1 q.2)=>Uo ed (by omega) (by omega) L (h _ (List.mem_singleton.2 rfl))
  have l1:=Zdp ep (by unfold fin at r5;omega) (by unfold fin at r5;omega)
  have l2:=Lib.itoa_length_le es (by omega) (by omega)
  have l3:=Lib.itoa_length_le ed (by omega) (by omega)
  repeat' (first|refine uN ?_|refine Zu S ?_|(refine uB ?_;intro b)|(refine uP ?_ ?_<;>(intro h;((try simp only [zs,zq,reduceCtorEq] at h);try exact zx)))|refine da 101 ?_|fail)
  refine dcF 0 _ kP (hFs (Zc (Zc (Zc hT)))) ?_
  repeat' (first|refine uN ?_|refine Zu S ?_|(refine uB ?_;intro b)|(refine uP ?_ ?_<;>(intro h;((try simp only [zs,zq,reduceCtorEq] at h);try exact zx)))|refine da 101 ?_|fail)
  refine dcF 0 _ kA (hFs (Zc (Zc (Zc hT)))) ?_
  repeat' (first|refine uN ?_|refine Zu S ?_|(refine uB ?_;intro b)|(refine uP ?_ ?_<;>(intro h;((try simp only [zs,zq,reduceCtorEq] at h);try exact zx)))|refine da 101 ?_|fail)
  refine gc (kN _ (hFs (Zc (Zc (Zc hT))))) ?_
  rintro v L' ⟨rfl,rfl⟩
  repeat' (first|refine uN ?_|refine Zu S ?_|(refine uB ?_;intro b)|(refine uP ?_ ?_<;>(intro h;((try simp only [zs,zq,reduceCtorEq] at h);try exact zx)))|refine da 101 ?_|fail)
  refine fo 2 ?_
  refine Zce S (Lib.itoa es++[32]++Lib.itoa ed++[32]++Zz1 ep) hu Xo U7 ?_ (hby:=by rw [List.length_map,List.length_take];omega) (hmax:=by rw [List.length_map,List.length_take];omega)
  intro v' c' hv'
  repeat' (first|refine uN ?_|refine Zu S ?_|(refine uB ?_;intro b)|(refine uP ?_ ?_<;>(intro h;((try simp only [zs,zq,reduceCtorEq] at h);try exact zx)))|refine da 101 ?_|fail)
  exact Zg (i+1,v',c') uS uL ⟨hit,by rw [hs];exact hv',fun h=>by simp at h⟩ (by simp only;omega)
 ·obtain rfl:i=M.ev.length:=by omega
  rw [List.take_length] at hu
  obtain ⟨a3,cap3,rfl,hcap3,hR3⟩:=hu.rd Xo
  rw [List.length_map] at hcap3
  have kj:=Zuf a3 cap3 (M.ev.map Zmc) _ (hR3 (ce::Wa G M::[(p,.cells ⟨[pt G.wp 0]⟩ 74)]::L)) (by rw [List.length_map];exact hcap3) (by rw [List.length_map];omega) (by omega)
  unfold evsT
  by_cases he:M.ev=[]
  ·rw [if_pos he]
   have h0:M.ev.length=0:=by rw [he];rfl
   have:=hu0 h0
   rw [this]
   repeat' (first|refine uN ?_|refine Z2 S ?_|refine Yp S ?_|refine uC (kj) ?_|refine Yb (fun _=>kj) ?_|refine Yc (fun _=>kj) ?_|refine Yd (fun _=>kj) ?_|refine Ye (fun _=>kj) ?_|(refine uB ?_;intro b)|(refine uP ?_ ?_<;>(intro h;((try simp only [zs,zq,reduceCtorEq] at h);try exact zx)))|refine da 101 ?_|fail)
   exact W9 (L':=Wa G M::[(p,.cells ⟨[pt G.wp 0]⟩ 74)]::L) uL ⟨rfl,rfl⟩
  ·rw [if_neg he]
   rcases hR3 [] with h9|⟨b3,i3,q3,F3,f3,rfl,-⟩
   ·exact absurd (List.map_eq_nil_iff.1 h9) he
   repeat' (first|refine uN ?_|refine Z2 S ?_|refine Yp S ?_|refine uC (kj) ?_|refine Yb (fun _=>kj) ?_|refine Yc (fun _=>kj) ?_|refine Yd (fun _=>kj) ?_|refine Ye (fun _=>kj) ?_|(refine uB ?_;intro b)|(refine uP ?_ ?_<;>(intro h;((try simp only [zs,zq,reduceCtorEq] at h);try exact zx)))|refine da 101 ?_|fail)
   exact W9 (L':=Wa G M::[(p,.cells ⟨[pt G.wp 0]⟩ 74)]::L) uL ⟨rfl,rfl⟩
end
end Go.HL
end

/-! ScF -/
section
namespace Go.HL
open Go Go.Proofs
def doW (k:Nat) (M:Wm) (n:List Int):List UInt8 × Int × Wm:=
 if k<11 then ([111,107],cdN (Y3 k M n).2,(Y3 k M n).1) else
 match k with
 | 11=>(Lib.itoa (Ue 3000 M).2,0,(Ue 3000 M).1)
 | 12=>(Lib.itoa M.l.length,0,M)
 | 13=>(stT (U8 M (n.getD 0 0) (n.getD 1 0)),cdN (Xz M (n.getD 0 0) (n.getD 1 0)),M)
 | 14=>((Up M (n.getD 0 0) (n.getD 1 0)).1,cdN (Up M (n.getD 0 0) (n.getD 1 0)).2,M)
 | 15=>(if (Zh5 M (n.getD 0 0)).1 then [117,112] else [100,111,119,110],if (Zh5 M (n.getD 0 0)).1 then 0 else cdN (Zh5 M (n.getD 0 0)).2,M)
 | 16=>(evsT M.ev,0,M)
 | _=>([111,107],(Zt1 M.n.length (M.ev.map Zl1)).1,M)
def cmdT:List (List UInt8 × List UInt8 × Nat):=actTab++lookTab
def fnOf (k:Nat):Nat:=if k<11 then 142 else (cmdT.getD k ([],[],0)).2.2
def capOf (k bx:Nat):List Value:=if k<11 then [pt bx 0] else []
set_option maxHeartbeats 2000000 attribute [local irreducible] HW HO HQ HD HC QOp Has Upd Zt Gets Z8 Z0 Zo Xm Zz Zj Xp Zy
theorem Zut (p:Nat) (nv:Value) (bx F:Nat) (H:Zb) (R:Value→Zb→Prop) (hb:Has H bx (Zi8 F)) (h:HC Tryz.prog F [pt p 0,nv] H R):HC Tryz.prog 142 [pt p 0,nv,pt bx 0] H (fun v L' => ∃ u,v = .tuple ⟨[bs [111,107],u]⟩∧R u L'):=by
 unfold Zi8 Zx0 at hb
 refine Za (fun _ _=>Tryz.call142 _ _) Tryz.func142 rfl Tryz.ntmps142 (Nat.le_of_ble_eq_true rfl) ?_;simp only [Zd,Nat.reduceAdd]
 repeat' (first|refine uN ?_)
 refine Wq (qLF Tryz.isAgg165) ?_
 repeat' (first|refine uN ?_)
 refine gc h ?_
 rintro v L' hR
 repeat' (first|refine uN ?_)
 refine gc (Zfy v _) ?_
 rintro v2 L2 ⟨rfl,rfl⟩
 repeat' (first|refine uN ?_)
 exact Zeb rfl ⟨v,rfl,hR⟩
def DoQ (T:Nat) (E:Nat→Addr) (G:WdG) (p:Nat) (X:Zb) (r:List UInt8 × Int × Wm) (v:Value) (L':Zb):Prop:=
 ∃ c fv at_,v = .tuple ⟨[bs r.1,fv]⟩∧FV T E fv r.2.1 at_ c ∧ ∃ G',G'.wp=G.wp∧WdOk G' r.2.2∧L'=c::Wa G' r.2.2::Zx p (pt G.wp 0)::X
theorem Zdz {T:Nat} {E:Nat→Addr} {e:Option Nat} (h:Zz3 e):FV T E (eV T E e) (cdN e) (-1) [] := .inl ⟨e,h,rfl,rfl,.inr rfl,rfl⟩
theorem HC.emp {F:Nat} {args:List Value} {H:Zb} {Q Q':Value→Zb→Prop} (h:HC Tryz.prog F args H Q) (hq : ∀ v L',Q v L'→Q' v ([]::L')):HC Tryz.prog F args H Q':=HC.post h fun v L' hv=>⟨[]::L',LS.refl _,hq v L' hv⟩
section
variable (T:Nat) (E:Nat→Addr) (G:WdG) (M:Wm) (p:Nat) (a:Option Addr) (cap:Nat) (ns:List Int) (X:Zb)
theorem Zad (k bx F:Nat) (hk:k<11) (hb:Has X bx (Zi8 F)) (h:HC Tryz.prog F [pt p 0,.slice a ns.length cap] (Wa G M::Zx p (pt G.wp 0)::X) (fun v L'=>v=eV T E (Y3 k M ns).2∧Zvz G (Y3 k M ns).1 (Zx p (pt G.wp 0)::X) L')) :
  HC Tryz.prog 142 ([pt p 0,.slice a ns.length cap]++[pt bx 0]) (Wa G M::Zx p (pt G.wp 0)::X) (DoQ T E G p X (doW k M ns)):=by
 refine HC.emp (Zut p _ bx F _ _ (Zc (Zc hb)) h) ?_
 rintro v L' ⟨u,rfl,rfl,G2,e1,hW2,rfl⟩
 unfold doW
 rw [if_pos hk]
 exact ⟨[],_,-1,rfl,Zdz (Zn0 k M ns).ok,G2,e1,hW2,rfl⟩
theorem Zw6 (s d:Int):Zz3 (Xz M s d):=by
 unfold Xz
 have:=(Zdq M s).ok
 split
 ·rename_i e he
  rw [he] at this
  exact this
 ·split
  ·exact (show List.elem 2 all9=true from rfl)
  ·trivial
theorem Zna (s d:Int):Zz3 (Up M s d).2:=by
 unfold Up
 split
 ·exact (show List.elem 2 all9=true from rfl)
 ·split<;>trivial
theorem sisE_ok (s:Int):Zz3 (Zh5 M s).2:=by
 unfold Zh5
 have:=(Zdq M s).ok
 split
 ·rename_i e he
  rw [he] at this
  exact this
 ·trivial
theorem Zjc (k bx:Nat) (hk:k<18) (hE:Es T E X) (hS:Sz X) (hW:WdOk G M) (hM:WI M) (hV:EvW M) (hl:M.l.length≤99000000) (hR:Rd ic 1 X a ns) (hn:ns.length=(cmdT.getD k ([],[],0)).2.1.length) (hcap:ns.length≤cap)
  (hbx:k<11→Has X bx (Zi8 (cmdT.getD k ([],[],0)).2.2)):HC Tryz.prog (fnOf k) ([pt p 0,.slice a ns.length cap]++capOf k bx) (Wa G M::Zx p (pt G.wp 0)::X) (DoQ T E G p X (doW k M ns)):=by
 have hel:=hM.evl
 have hcase:k=0∨k=1∨k=2∨k=3∨k=4∨k=5∨k=6∨k=7∨k=8∨k=9∨k=10∨k=11∨k=12∨k=13∨k=14∨k=15∨k=16∨k=17:=by omega
 rcases hcase with rfl|rfl|rfl|rfl|rfl|rfl|rfl|rfl|rfl|rfl|rfl|rfl|rfl|rfl|rfl|rfl|rfl|rfl
 ·exact Zad T E G M p a cap ns X 0 bx _ (by decide) (hbx (by decide)) (Zth T E G M p a cap ns X hE hW hM (by omega) hR (by rw [hn];decide) hcap (by rw [hn];decide))
 ·exact Zad T E G M p a cap ns X 1 bx _ (by decide) (hbx (by decide)) (Zti T E G M p a cap ns X hE hW hM (by omega) hR (by rw [hn];decide) hcap (by rw [hn];decide))
 ·exact Zad T E G M p a cap ns X 2 bx _ (by decide) (hbx (by decide)) (Ztj T E G M p a cap ns X hE hW hM (by omega) hR (by rw [hn];decide) hcap (by rw [hn];decide))
 ·exact Zad T E G M p a cap ns X 3 bx _ (by decide) (hbx (by decide)) (Ztk T E G M p a cap ns X hE hW hM (by omega) hR (by rw [hn];decide) hcap (by rw [hn];decide))
 ·exact Zad T E G M p a cap ns X 4 bx _ (by decide) (hbx (by decide)) (Ztl T E G M p a cap ns X hE hW hM (by omega) hR (by rw [hn];decide) hcap (by rw [hn];decide))
 ·exact Zad T E G M p a cap ns X 5 bx _ (by decide) (hbx (by decide)) (Ztm T E G M p a cap ns X hE hW hM (by omega) hR (by rw [hn];decide) hcap (by rw [hn];decide))
 ·exact Zad T E G M p a cap ns X 6 bx _ (by decide) (hbx (by decide)) (Ztn T E G M p a cap ns X hE hW hM (by omega) hR (by rw [hn];decide) hcap (by rw [hn];decide))
 ·exact Zad T E G M p a cap ns X 7 bx _ (by decide) (hbx (by decide)) (Zto T E G M p a cap ns X hE hW hM (by omega) hR (by rw [hn];decide) hcap (by rw [hn];decide))
 ·exact Zad T E G M p a cap ns X 8 bx _ (by decide) (hbx (by decide)) (Ztp T E G M p a cap ns X hE hW hM (by omega) hR (by rw [hn];decide) hcap (by rw [hn];decide))
 ·exact Zad T E G M p a cap ns X 9 bx _ (by decide) (hbx (by decide)) (Ztq T E G M p a cap ns X hE hW hM (by omega) hR (by rw [hn];decide) hcap (by rw [hn];decide))
 ·exact Zad T E G M p a cap ns X 10 bx _ (by decide) (hbx (by decide)) (Zpz T E G M p a cap ns X hE hW hM (by omega) hR (by rw [hn];decide) hcap (by rw [hn];decide))
 ·refine HC.emp (Zrh T E G M p X _ hE hS hW hM hl) ?_
  rintro v L' ⟨rfl,G2,e1,hW2,rfl⟩
  exact ⟨[],_,-1,rfl,FV.nil,G2,e1,hW2,rfl⟩
 ·refine HC.emp (Zri T E G M p X _ hE hS hW (by omega)) ?_
  rintro v L' ⟨rfl,rfl⟩
  exact ⟨[],_,-1,rfl,FV.nil,G,rfl,hW,rfl⟩
 ·refine HC.emp (Zrj T E G M p a cap ns X hE hS hW hM hR (by rw [hn];decide) hcap (by rw [hn];decide)) ?_
  rintro v L' ⟨rfl,rfl⟩
  exact ⟨[],_,-1,rfl,Zdz (Zw6 M _ _),G,rfl,hW,rfl⟩
 ·refine HC.emp (Zrk T E G M p a cap ns X hE hW hM hR (by rw [hn];decide) hcap (by rw [hn];decide)) ?_
  rintro v L' ⟨rfl,rfl⟩
  exact ⟨[],_,-1,rfl,Zdz (Zna M _ _),G,rfl,hW,rfl⟩
 ·refine HC.emp (Zrl T E G M p a cap ns X hE hW hR (by rw [hn];decide) hcap (by rw [hn];decide)) ?_
  rintro v L' ⟨rfl,rfl⟩
  refine ⟨[],_,-1,rfl,?_,G,rfl,hW,rfl⟩
  show FV T E _ (if (Zh5 M (ns.getD 0 0)).1 then 0 else cdN (Zh5 M (ns.getD 0 0)).2) _ _
  split
  ·exact FV.nil
  ·exact Zdz (sisE_ok M _)
 ·refine HC.emp (Zrm G M p X _ hS hW hM hV) ?_
  rintro v L' ⟨rfl,rfl⟩
  exact ⟨[],_,-1,rfl,FV.nil,G,rfl,hW,rfl⟩
 ·refine HC.mono (Zrn T E G M p X _ hE hW (by omega)) ?_
  rintro v L' ⟨c,fv,rfl,hf,rfl⟩
  exact ⟨c,fv,_,rfl,hf,G,rfl,hW,rfl⟩
end
end Go.HL
end
