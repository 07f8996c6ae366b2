/- Of the proof of ParseBreaks: Shelf, Scan1, Scan2. -/
import Derived.Shelf.Strings.Builder1
import Derived.Shelf.Strings.Builder2
import Derived.Shelf.Strings.OnBuilder
import Derived.Shelf.Small.Strs
import Derived.Shelf.Small.Wraps
import Derived.Shelf.Strings.BuilderF
import Derived.Shelf.Strings.BuilderK
import Derived.Shelf.Strings.Builder2Cap
import Derived.Shelf.Strings.Search1
import Derived.Shelf.Strings.Search2
import Derived.Shelf.Strings.Search3
import Derived.Shelf.Strings.Cut
import Derived.Shelf.LaysM
import Derived.Shelf.Strings.Shaped
import Derived.Shelf.Strings.Prefix
import Derived.Shelf.Bits.Mul64
import Derived.Shelf.Strings.Repeat
import Derived.Shelf.Strings.BuilderCap
import Derived.Shelf.Slices.Turned
import Derived.Test.YtgigdlhcjahejaaGreatDoorProg
import Derived.Test.YtgigdlhcjahejaaGreatDoorD00
import Derived.Test.YtgigdlhcjahejaaGreatDoorChecked
import Derived.BigQuiet
import Derived.Deep.DeepCutAuto
namespace Go.Proofs
open Go.Shelf
def Tryz.ti:Go.Shelf.Ren:=⟨fun|170=>19|n=>n,fun|70=>45|3=>3|0=>0|72=>47|37=>41|5=>5|n=>n,fun|n=>n⟩
theorem Tryz.Ch:Go.Proofs.Lays.n170 Tryz.prog Tryz.ti:={
 mixed:=by kernel_rfl
 f170:=Tryz.func19.trans (congrArg some (by kernel_rfl))
 t0:=Tryz.underlying0
 a0:=Tryz.isAgg0
 z0:=Tryz.sizeOf0
 v0:=Tryz.zeroValue0
 t3:=Tryz.underlying3
 a3:=Tryz.isAgg3
 z3:=Tryz.sizeOf3
 v3:=Tryz.zeroValue3
 t37:=Tryz.underlying41
 a37:=Tryz.isAgg41
 z37:=Tryz.sizeOf41
 v37:=Tryz.zeroValue41
 t70:=Tryz.underlying45
 a70:=Tryz.isAgg45
 z70:=Tryz.sizeOf45
 v70:=Tryz.zeroValue45
 t72:=Tryz.underlying47
 a72:=Tryz.isAgg47
 z72:=Tryz.sizeOf47
 v72:=Tryz.zeroValue47}
def Tryz.ni:Go.Shelf.Ren:=⟨fun|169=>18|n=>n,fun|70=>45|9=>9|0=>0|72=>47|37=>41|127=>95|3=>3|5=>5|n=>n,fun|n=>n⟩
theorem Tryz.Ct:Go.Proofs.Lays.n169 Tryz.prog Tryz.ni:={
 mixed:=by kernel_rfl
 f169:=Tryz.func18.trans (congrArg some (by kernel_rfl))
 t0:=Tryz.underlying0
 a0:=Tryz.isAgg0
 z0:=Tryz.sizeOf0
 v0:=Tryz.zeroValue0
 t3:=Tryz.underlying3
 a3:=Tryz.isAgg3
 z3:=Tryz.sizeOf3
 v3:=Tryz.zeroValue3
 t9:=Tryz.underlying9
 a9:=Tryz.isAgg9
 z9:=Tryz.sizeOf9
 v9:=Tryz.zeroValue9
 t37:=Tryz.underlying41
 a37:=Tryz.isAgg41
 z37:=Tryz.sizeOf41
 v37:=Tryz.zeroValue41
 t70:=Tryz.underlying45
 a70:=Tryz.isAgg45
 z70:=Tryz.sizeOf45
 v70:=Tryz.zeroValue45
 t72:=Tryz.underlying47
 a72:=Tryz.isAgg47
 z72:=Tryz.sizeOf47
 v72:=Tryz.zeroValue47
 t127:=Tryz.underlying95
 a127:=Tryz.isAgg95
 z127:=Tryz.sizeOf95
 v127:=Tryz.zeroValue95}
theorem Tryz.lH:Builder.Extra Tryz.prog Tryz.ni:={
 sizeBuilder:=by kernel_rfl
 liesBuilder:=by kernel_rfl
 t5:=Tryz.underlying5
 a5:=Tryz.isAgg5
 z5:=Tryz.sizeOf5
 v5:=Tryz.zeroValue5
 infoByte:=by kernel_rfl
 cellsByte:=by kernel_rfl
 sizeByte:=by kernel_rfl
 neB5:=by decide}
def Tryz.na:Go.Shelf.Ren:=⟨fun|156=>53|165=>48|166=>17|169=>18|240=>45|241=>74|276=>70|277=>83|n=>n,fun|31=>81|9=>9|3=>3|4=>4|0=>0|20=>20|72=>47|76=>52|70=>45|37=>41|75=>51|127=>95|164=>113|5=>5|80=>33|n=>n,fun|n=>n⟩
theorem Tryz.xN:Go.Proofs.Lays.n156 Tryz.prog Tryz.na:={
 mixed:=by kernel_rfl
 f156:=Tryz.func53.trans (congrArg some (by kernel_rfl))
 f165:=Tryz.func48.trans (congrArg some (by kernel_rfl))
 f166:=Tryz.func17.trans (congrArg some (by kernel_rfl))
 f169:=Tryz.func18.trans (congrArg some (by kernel_rfl))
 f240:=Tryz.func45.trans (congrArg some (by kernel_rfl))
 f241:=Tryz.func74.trans (congrArg some (by kernel_rfl))
 f276:=Tryz.func70.trans (congrArg some (by kernel_rfl))
 f277:=Tryz.func83.trans (congrArg some (by kernel_rfl))
 t0:=Tryz.underlying0
 a0:=Tryz.isAgg0
 z0:=Tryz.sizeOf0
 v0:=Tryz.zeroValue0
 t3:=Tryz.underlying3
 a3:=Tryz.isAgg3
 z3:=Tryz.sizeOf3
 v3:=Tryz.zeroValue3
 t4:=Tryz.underlying4
 a4:=Tryz.isAgg4
 z4:=Tryz.sizeOf4
 v4:=Tryz.zeroValue4
 t9:=Tryz.underlying9
 a9:=Tryz.isAgg9
 z9:=Tryz.sizeOf9
 v9:=Tryz.zeroValue9
 t20:=Tryz.underlying20
 a20:=Tryz.isAgg20
 z20:=Tryz.sizeOf20
 v20:=Tryz.zeroValue20
 t31:=Tryz.underlying81
 a31:=Tryz.isAgg81
 z31:=Tryz.sizeOf81
 v31:=Tryz.zeroValue81
 t37:=Tryz.underlying41
 a37:=Tryz.isAgg41
 z37:=Tryz.sizeOf41
 v37:=Tryz.zeroValue41
 t70:=Tryz.underlying45
 a70:=Tryz.isAgg45
 z70:=Tryz.sizeOf45
 v70:=Tryz.zeroValue45
 t72:=Tryz.underlying47
 a72:=Tryz.isAgg47
 z72:=Tryz.sizeOf47
 v72:=Tryz.zeroValue47
 t75:=Tryz.underlying51
 a75:=Tryz.isAgg51
 z75:=Tryz.sizeOf51
 v75:=Tryz.zeroValue51
 t76:=Tryz.underlying52
 a76:=Tryz.isAgg52
 z76:=Tryz.sizeOf52
 v76:=Tryz.zeroValue52
 t127:=Tryz.underlying95
 a127:=Tryz.isAgg95
 z127:=Tryz.sizeOf95
 v127:=Tryz.zeroValue95
 t164:=Tryz.underlying113
 a164:=Tryz.isAgg113
 z164:=Tryz.sizeOf113
 v164:=Tryz.zeroValue113}
theorem Tryz.gO:Builder.Extra Tryz.prog Tryz.na:={
 sizeBuilder:=by kernel_rfl
 liesBuilder:=by kernel_rfl
 t5:=Tryz.underlying5
 a5:=Tryz.isAgg5
 z5:=Tryz.sizeOf5
 v5:=Tryz.zeroValue5
 infoByte:=by kernel_rfl
 cellsByte:=by kernel_rfl
 sizeByte:=by kernel_rfl
 neB5:=by decide}
open Go.RowKit in
theorem Tryz.strings_Join_none (a:Option Addr) (c:Nat) (sep:ByteArray) (w:World):
  Calls Tryz.prog 53 #[.slice a 0 c,.string sep] w fun e w'=>e= .returned (.string ⟨#[]⟩)∧w'=w:=Any.strings_Join_none Tryz.xN Tryz.gO a c sep w
open Go.RowKit in
theorem Tryz.strings_Join (bk o c:Nat) (xs:List ByteArray) (sep:ByteArray) (w:World) (hcells:∀(j:Nat) x,xs[j]? =some x→w.cell? ⟨bk,o+j,none⟩=some (.string x)) (hbk:bk<w.heap.size) (hN:xs.length≤140737488355328) (hcap:xs.length≤c) (hlen:(Lib.join (xs.map (·.data.toList)) sep.data.toList).length≤140737488355328):
  Calls Tryz.prog 53 #[.slice (some ⟨bk,o,none⟩) xs.length c,.string sep] w fun e w'=>e= .returned (.string ⟨(Lib.join (xs.map (·.data.toList)) sep.data.toList).toArray⟩)∧Below w.heap.size w w':=Any.strings_Join Tryz.xN Tryz.gO bk o c xs sep w hcells hbk hN hcap hlen
def Tryz.uy:Go.Shelf.Ren:=⟨fun|137=>41|217=>62|266=>78|n=>n,fun|9=>9|5=>5|3=>3|n=>n,fun|n=>n⟩
theorem Tryz.CW:Go.Proofs.Lays.n137 Tryz.prog Tryz.uy:={
 mixed:=by kernel_rfl
 f137:=Tryz.func41.trans (congrArg some (by kernel_rfl))
 f217:=Tryz.func62.trans (congrArg some (by kernel_rfl))
 f266:=Tryz.func78.trans (congrArg some (by kernel_rfl))
 t3:=Tryz.underlying3
 a3:=Tryz.isAgg3
 z3:=Tryz.sizeOf3
 v3:=Tryz.zeroValue3
 t5:=Tryz.underlying5
 a5:=Tryz.isAgg5
 z5:=Tryz.sizeOf5
 v5:=Tryz.zeroValue5
 t9:=Tryz.underlying9
 a9:=Tryz.isAgg9
 z9:=Tryz.sizeOf9
 v9:=Tryz.zeroValue9}
open Go.RowKit in
theorem Tryz.strings_IndexByte (s:ByteArray) (c:Int) (w:World):
  Calls Tryz.prog 41 #[.string s,.int .u8 c] w fun e w'=>e= .returned (.int .i64 (Lib.indexByte s.data.toList c.toNat.toUInt8))∧w'=w:=Any.strings_IndexByte Tryz.CW s c w
def Tryz.C8:Go.Shelf.Ren:=⟨fun|210=>119|206=>73|n=>n,fun|9=>9|4=>4|3=>3|n=>n,fun|n=>n⟩
open Go.RowKit in
theorem Tryz.Builder_Len_f (B b:Nat) (bs:List Value) (w:World) (h:Lib.IsBuilderF 47 5 B b bs w):
  Calls Tryz.prog 19 #[.pointer (some ⟨b,0,none⟩)] w fun e w'=>e= .returned (.int .i64 bs.length)∧w'=w:=Any.Builder_Len_f Tryz.Ch B b bs w h
open Go.RowKit in
theorem Tryz.Builder_String_any_f (B b:Nat) (l:List UInt8) (w:World) (h:Lib.IsBuilderF 47 5 B b (Lib.byteCells l) w) (hBw:B≤w.heap.size):
  Calls Tryz.prog 18 #[.pointer (some ⟨b,0,none⟩)] w fun e w'=>e= .returned (.string ⟨l.toArray⟩)∧(Lib.IsBuilderF 47 5 B b (Lib.byteCells l) w'∧Below B w w'):=Any.Builder_String_any_f Tryz.Ct Tryz.lH B b l w h hBw
def Tryz.Di:Go.Shelf.Ren:=⟨fun|219=>79|217=>62|225=>87|224=>88|267=>89|266=>78|314=>95|n=>n,fun|9=>9|3=>3|4=>4|5=>5|46=>96|146=>116|51=>115|n=>n,fun|1=>4|n=>n⟩
def Tryz.tU:Go.Shelf.Ren:=⟨fun|144=>96|143=>104|219=>79|217=>62|225=>87|224=>88|267=>89|266=>78|314=>95|n=>n,fun|9=>9|4=>4|3=>3|5=>5|46=>96|146=>116|51=>115|n=>n,fun|1=>4|n=>n⟩
theorem Tryz.xM:Go.Proofs.Lays.n144 Tryz.prog Tryz.tU:={
 mixed:=by kernel_rfl
 f143:=Tryz.func104.trans (congrArg some (by kernel_rfl))
 f144:=Tryz.func96.trans (congrArg some (by kernel_rfl))
 f217:=Tryz.func62.trans (congrArg some (by kernel_rfl))
 f219:=Tryz.func79.trans (congrArg some (by kernel_rfl))
 f224:=Tryz.func88.trans (congrArg some (by kernel_rfl))
 f225:=Tryz.func87.trans (congrArg some (by kernel_rfl))
 f266:=Tryz.func78.trans (congrArg some (by kernel_rfl))
 f267:=Tryz.func89.trans (congrArg some (by kernel_rfl))
 f314:=Tryz.func95.trans (congrArg some (by kernel_rfl))
 t3:=Tryz.underlying3
 a3:=Tryz.isAgg3
 z3:=Tryz.sizeOf3
 v3:=Tryz.zeroValue3
 t4:=Tryz.underlying4
 a4:=Tryz.isAgg4
 z4:=Tryz.sizeOf4
 v4:=Tryz.zeroValue4
 t5:=Tryz.underlying5
 a5:=Tryz.isAgg5
 z5:=Tryz.sizeOf5
 v5:=Tryz.zeroValue5
 t9:=Tryz.underlying9
 a9:=Tryz.isAgg9
 z9:=Tryz.sizeOf9
 v9:=Tryz.zeroValue9
 t46:=Tryz.underlying96
 a46:=Tryz.isAgg96
 z46:=Tryz.sizeOf96
 v46:=Tryz.zeroValue96
 t51:=Tryz.underlying115
 a51:=Tryz.isAgg115
 z51:=Tryz.sizeOf115
 v51:=Tryz.zeroValue115
 t146:=Tryz.underlying116
 a146:=Tryz.isAgg116
 z146:=Tryz.sizeOf116
 v146:=Tryz.zeroValue116
 g1:=by kernel_rfl}
open Go.RowKit Go.Lib in
theorem Tryz.strings_Contains_one (s:ByteArray) (c:UInt8) (w:World):
  Calls Tryz.prog 96 #[.string s,.string ⟨#[c]⟩] w fun e w'=>e= .returned (.bool (decide (0≤Lib.indexByte s.data.toList c)))∧w'=w:=Any.strings_Contains_one Tryz.xM s c w
open Go.RowKit Go.Lib in
theorem Tryz.strings_Contains (s sub:ByteArray) (m:Int) (w:World) (hs:s.size<4294967281) (hm:w.cell? ⟨4,0,none⟩=some (.int .i64 m)):
  Calls Tryz.prog 96 #[.string s,.string sub] w fun e w'=>e= .returned (.bool (Lib.contains s.data.toList sub.data.toList))∧w'=w:=Any.strings_Contains Tryz.xM s sub m w hs hm
def Tryz.tZ:Go.Shelf.Ren:=⟨fun|145=>42|220=>63|219=>79|217=>62|225=>87|224=>88|267=>89|266=>78|314=>95|n=>n,fun|9=>9|4=>4|59=>88|3=>3|5=>5|46=>96|146=>116|51=>115|n=>n,fun|1=>4|n=>n⟩
theorem Tryz.Cj:Go.Proofs.Lays.n145 Tryz.prog Tryz.tZ:={
 mixed:=by kernel_rfl
 f145:=Tryz.func42.trans (congrArg some (by kernel_rfl))
 f217:=Tryz.func62.trans (congrArg some (by kernel_rfl))
 f219:=Tryz.func79.trans (congrArg some (by kernel_rfl))
 f220:=Tryz.func63.trans (congrArg some (by kernel_rfl))
 f224:=Tryz.func88.trans (congrArg some (by kernel_rfl))
 f225:=Tryz.func87.trans (congrArg some (by kernel_rfl))
 f266:=Tryz.func78.trans (congrArg some (by kernel_rfl))
 f267:=Tryz.func89.trans (congrArg some (by kernel_rfl))
 f314:=Tryz.func95.trans (congrArg some (by kernel_rfl))
 t3:=Tryz.underlying3
 a3:=Tryz.isAgg3
 z3:=Tryz.sizeOf3
 v3:=Tryz.zeroValue3
 t4:=Tryz.underlying4
 a4:=Tryz.isAgg4
 z4:=Tryz.sizeOf4
 v4:=Tryz.zeroValue4
 t5:=Tryz.underlying5
 a5:=Tryz.isAgg5
 z5:=Tryz.sizeOf5
 v5:=Tryz.zeroValue5
 t9:=Tryz.underlying9
 a9:=Tryz.isAgg9
 z9:=Tryz.sizeOf9
 v9:=Tryz.zeroValue9
 t46:=Tryz.underlying96
 a46:=Tryz.isAgg96
 z46:=Tryz.sizeOf96
 v46:=Tryz.zeroValue96
 t51:=Tryz.underlying115
 a51:=Tryz.isAgg115
 z51:=Tryz.sizeOf115
 v51:=Tryz.zeroValue115
 t59:=Tryz.underlying88
 a59:=Tryz.isAgg88
 z59:=Tryz.sizeOf88
 v59:=Tryz.zeroValue88
 t146:=Tryz.underlying116
 a146:=Tryz.isAgg116
 z146:=Tryz.sizeOf116
 v146:=Tryz.zeroValue116
 g1:=by kernel_rfl}
open Go.RowKit Go.Lib in
theorem Tryz.strings_Cut (s sep:ByteArray) (m:Int) (w:World) (hs:s.size<4294967281) (hm:w.cell? ⟨4,0,none⟩=some (.int .i64 m)):
  Calls Tryz.prog 42 #[.string s,.string sep] w fun e w'=>e= .returned (.tuple #[.string ⟨(Lib.cut s.data.toList sep.data.toList).1.toArray⟩,.string ⟨(Lib.cut s.data.toList sep.data.toList).2.1.toArray⟩,.bool (Lib.cut s.data.toList sep.data.toList).2.2])∧∃n,w'=w.drewN n:=Any.strings_Cut Tryz.Cj s sep m w hs hm
def Tryz.vM:Go.Shelf.Ren:=⟨fun|99=>47|206=>73|n=>n,fun|9=>9|4=>4|3=>3|n=>n,fun|n=>n⟩
theorem Tryz.DM:Go.Proofs.Lays.n99 Tryz.prog Tryz.vM:={
 mixed:=by kernel_rfl
 f99:=Tryz.func47.trans (congrArg some (by kernel_rfl))
 f206:=Tryz.func73.trans (congrArg some (by kernel_rfl))
 t3:=Tryz.underlying3
 a3:=Tryz.isAgg3
 z3:=Tryz.sizeOf3
 v3:=Tryz.zeroValue3
 t4:=Tryz.underlying4
 a4:=Tryz.isAgg4
 z4:=Tryz.sizeOf4
 v4:=Tryz.zeroValue4
 t9:=Tryz.underlying9
 a9:=Tryz.isAgg9
 z9:=Tryz.sizeOf9
 v9:=Tryz.zeroValue9}
open Go.RowKit Go.Lib in
theorem Tryz.strings_HasPrefix (s p:ByteArray) (w:World):
  Calls Tryz.prog 47 #[.string s,.string p] w fun e w'=>e= .returned (.bool (Lib.hasPrefix s.data.toList p.data.toList))∧w'=w:=Any.strings_HasPrefix Tryz.DM s p w
end Go.Proofs
namespace Go.Proofs.YtgigdlhcjahejaaGreatDoor
open Go Go.RowKit Go.Lw
set_option maxRecDepth 100000
set_option linter.unusedVariables false
set_option linter.unusedSimpArgs false
attribute [local go_sem] av
def bu (w:World) (g:Nat) (s:List UInt8) (a d e:Nat):Prop:=w.heap[g]? =some (.cells #[.string (BA s),.int .i64 (a:Int),.int .i64 (d:Int),.int .i64 (e:Int)] 86 (0,0))
theorem bu.cells {w:World} {g:Nat} {s:List UInt8} {a d e:Nat} (h:bu w g s a d e):
  (w.cell? ⟨g,0,none⟩=some (.string (BA s))∧w.cell? ⟨g,1,none⟩=some (.int .i64 (a:Int))∧w.cell? ⟨g,2,none⟩=some (.int .i64 (d:Int))∧w.cell? ⟨g,3,none⟩=some (.int .i64 (e:Int)))∧
  (w.frozen? ⟨g,1,none⟩=false∧w.frozen? ⟨g,2,none⟩=false∧w.frozen? ⟨g,3,none⟩=false):=
 ⟨⟨au h 0,au h 1,au h 2,au h 3⟩,aP h 1,aP h 2,aP h 3⟩
theorem bu.kept {S:Nat→Prop} {w w':World} {g:Nat} {s:List UInt8} {a d e:Nat} (h:bu w g s a d e) (k:Kept S w w') (hg:¬S g):bu w' g s a d e:=k.heap h hg
theorem bu.drewN {w:World} {g:Nat} {s:List UInt8} {a d e:Nat} (h:bu w g s a d e) (n:Nat):bu (w.drewN n) g s a d e:=h
theorem bu.lt {w:World} {g:Nat} {s:List UInt8} {a d e:Nat} (h:bu w g s a d e):g<w.heap.size:=aj h
theorem bu.at' {w:World} {g:Nat} {s:List UInt8} {a d e:Nat} (h:bu w g s a d e) (b:Nat):bu (w.setCell ⟨g,1,none⟩ (.int .i64 (b:Int))) g s b d e:=heap_set h 1 _
theorem bu.qZ {w:World} {g:Nat} {s:List UInt8} {a d e:Nat} (h:bu w g s a d e) (b:Nat):bu (w.setCell ⟨g,2,none⟩ (.int .i64 (b:Int))) g s a b e:=heap_set h 2 _
theorem bu.Eg {w:World} {g:Nat} {s:List UInt8} {a d e:Nat} (h:bu w g s a d e) (b:Nat):bu (w.setCell ⟨g,3,none⟩ (.int .i64 (b:Int))) g s a d b:=heap_set h 3 _
theorem bu.cp {w:World} {g:Nat} {s:List UInt8} {a d e n:Nat} {B:Int} (h:bu w g s a d e) (b:Nat) (hB:B=(b:Int)):bu ((w.drewN n).setCell ⟨g,1,none⟩ (.int .i64 B)) g s b d e:=by
 subst hB;exact(h.drewN n).at' b
theorem bu.xE {w:World} {g:Nat} {s:List UInt8} {a d e:Nat} {B:Int} (h:bu w g s a d e) (b:Nat) (hB:B=(b:Int)):bu (w.setCell ⟨g,1,none⟩ (.int .i64 B)) g s b d e:=by
 subst hB;exact h.at' b
theorem dT {P:Program} {f:FuncId} {args:Array Value} {w:World} {a n:Nat} {v:Value}
  (h:Calls P f args (w.drewN (a+n)) fun e w'=>e= .returned v∧w'=w.drewN (a+n)):
  Calls P f args (w.drewN (a+n)) fun e w''=>e= .returned v∧∃m,w''=w.drewN (a+m):=
 h.mono fun _ _ ⟨he,hm⟩=>⟨he,n,hm⟩
abbrev K1 (g:Nat):World→World→Prop:=Kept (fun k=>k=g)
theorem K1.refl (g:Nat) (w:World):K1 g w w:=Kept.refl _ w
theorem K1.set {g i:Nat} {a b:World} (h:K1 g a b) (u:Value):K1 g a (b.setCell ⟨g,i,none⟩ u):=Kept.set h g i (fun _=>rfl) u
theorem K1.drewN (g:Nat) (w:World) (n:Nat):K1 g w (w.drewN n):=⟨rfl,rfl,rfl,Nat.le_refl _,fun _ _ _=>rfl⟩
theorem K1.then {g:Nat} {a b c:World} (h:K1 g a b) (k:K1 g b c):K1 g a c:=h.trans k (fun _ _ h=>h)
def nx (e er:Nat):Nat:=if e=0 then er else e
set_option maxHeartbeats 1000000 in
theorem cx (w:World) (g:Nat) (s:List UInt8) (a d e:Nat) (h:bu w g s a d e) (er:Nat) (E:Int) (hE:E=(er:Int)):
  Calls Tryz.prog 69 #[.pointer (some ⟨g,0,none⟩),.int .i64 E] w fun x w'=>x= .returned (.tuple #[])∧bu w' g s a d (nx e er)∧K1 g w w':=by
 subst hE
 obtain⟨⟨c0,c1,c2,c3⟩,f1,f2,f3⟩:=h.cells
 have H:=jd h
 clear h
 by_cases he:e=0
 ·have hb:((e:Int)==0)=true:=by rw[he];rfl
  have HE:Hid (nx e er=er):=jd (if_pos he)
  clear he
  go_enter Tryz.func69,Tryz.ntmps69
  go_wp2_with fail
  go_end0
  rw[HE.o]
  exact⟨rfl,H.o.Eg er,K1.set (Kept.refl _ _) _⟩
 ·have hb:((e:Int)==0)=false:=by simp;omega
  have HE:Hid (nx e er=e):=jd (if_neg he)
  clear he
  go_enter Tryz.func69,Tryz.ntmps69
  go_wp2_with fail
  go_end0
  rw[HE.o]
  exact⟨rfl,H.o,Kept.refl _ _⟩
set_option maxHeartbeats 1000000 in
theorem bL (w:World) (g:Nat) (s:List UInt8) (a d e:Nat) (h:bu w g s a d e) (b:Bool) (hb:(decide (e=0)&&decide (a<s.length))=b):
  Calls Tryz.prog 40 #[.pointer (some ⟨g,0,none⟩)] w fun x w'=>x= .returned (.bool b)∧∃n,w'=w.drewN n:=by
 obtain⟨⟨c0,c1,c2,c3⟩,f1,f2,f3⟩:=h.cells
 have hs:=ai s
 obtain⟨N,hN⟩:∃N,s.length=N:=⟨_,rfl⟩
 rw[hN] at hs hb
 have HB:=jd hb
 clear h hN hb
 by_cases he:e=0
 ·have hb:((e:Int)==0)=true:=by rw[he];rfl
  by_cases ha:a<N
  ·have HE:Hid (b=true):=jd (by rw[←HB.o];simp[he,ha])
   have ha2:decide (a<N)=true:=decide_eq_true ha
   clear he
   go_enter Tryz.func40,Tryz.ntmps40
   go_wp2_with fail
   go_quiet (fail)
   go_wp2_with fail
   go_ret
   rw[HE.o]
   exact⟨rfl,_,rfl⟩
  ·have HE:Hid (b=false):=jd (by rw[←HB.o];simp[ha])
   have ha2:decide (a<N)=false:=decide_eq_false ha
   clear he
   go_enter Tryz.func40,Tryz.ntmps40
   go_wp2_with fail
   go_quiet (fail)
   go_wp2_with fail
   go_ret
   rw[HE.o]
   exact⟨rfl,_,rfl⟩
 ·have hb:((e:Int)==0)=false:=by simp;omega
  have HE:Hid (b=false):=jd (by rw[←HB.o];simp[he])
  clear he
  go_enter Tryz.func40,Tryz.ntmps40
  go_wp2_with fail
  go_quiet (fail)
  go_wp2_with fail
  go_ret
  rw[HE.o]
  exact⟨rfl,_,rfl⟩
theorem kI (w:World) (c:UInt8) (first:Bool):
  Calls Tryz.prog 82 #[.int .u8 (c.toNat:Int),.bool first] w fun x w'=>x= .returned (.bool (bJ c first))∧w'=w:=by
 have hc:=c.toNat_lt
 cases first
 all_goals
  go_enter Tryz.func82,Tryz.ntmps82
  go_wp2_with fail
  all_goals
   go_ret
   refine⟨congrArg (fun b=>Ending.returned (.bool b)) ?_,rfl⟩
   (try simp only[beq_iff_eq,beq_eq_false_iff_ne,ne_eq,Bool.or_eq_true,Bool.or_eq_false_iff,Bool.and_eq_true,Bool.and_eq_false_iff,decide_eq_true_eq,decide_eq_false_iff_not] at*)
   rw[Bool.eq_iff_iff]
   simp only[bJ,A5,AE,beq_iff_eq,Bool.or_eq_true,Bool.and_eq_true,decide_eq_true_eq,Bool.not_true,Bool.not_false,Bool.false_eq_true,false_and,true_and,or_false,true_iff,false_iff,iff_true]
   omega
theorem gb {c k:UInt8} {n:Int} (hn:n=(k.toNat:Int)) (h:¬c=k):((c.toNat:Int)==n)=false:=by
 subst hn
 apply beq_eq_false_iff_ne.2
 intro e
 exact h (UInt8.toNat_inj.1 (by omega))
theorem yQ {c k:UInt8} {n:Int} (hn:n=(k.toNat:Int)) (h:c=k):((c.toNat:Int)==n)=true:=by
 subst hn;subst h;simp
def j8 (w:World) (g:Nat) (s:List UInt8) (d e:Nat):Prop:=∃a' d',a'≤s.length∧d≤d'∧d'≤17∧bu w g s a' d' e∧e≠0
def j9 (w:World) (g:Nat) (s:List UInt8) (d:Nat):Rs→Prop
 |.ok r'=>bu w g s (s.length -r'.length) d 0
 |.error e=>j8 w g s d e
theorem jj (c:UInt8):∀l:List UInt8,(Lib.indexByte l c=-1∧cY c l= .error 5)∨∃i:Nat,Lib.indexByte l c=(i:Int)∧i<l.length∧cY c l= .ok (l.drop (i+1))
 |[]=>.inl ⟨rfl,rfl⟩
 |b::l=>by
  unfold Lib.indexByte cY
  by_cases h:b=c
  ·subst h
   right
   exact⟨0,by simp,by simp,by simp⟩
  ·have hb:(b==c)=false:=beq_eq_false_iff_ne.2 h
   rw[hb,if_neg h]
   rcases jj c l with⟨h1,h2⟩|⟨i,h1,h2,h3⟩
   ·left
    exact⟨by simp[h1],h2⟩
   ·right
    refine⟨i+1,?_,by simp;omega,by rw[h3];simp⟩
    have hne:((i:Int)==-1)=false:=beq_eq_false_iff_ne.2 (by omega)
    simp[h1,hne]
theorem dB (l:List UInt8) (c:UInt8) (k:Int) (hk:Lib.indexByte l c=k) (w:World):Calls Tryz.prog 41 #[.string (BA l),.int .u8 (c.toNat:Int)] w fun e w'=>e= .returned (.int .i64 k)∧w'=w:=by
 refine(Tryz.strings_IndexByte _ _ w).mono ?_
 rintro e w' ⟨rfl,rfl⟩
 refine⟨?_,rfl⟩
 have:((c.toNat:Int).toNat).toUInt8=c:=by simp
 rw[this,eG,hk]
theorem gT (l:List UInt8) (c:UInt8):(l.contains c=true→∃i:Nat,Lib.indexByte l c=(i:Int))∧(l.contains c=false→Lib.indexByte l c=-1):=by
 induction l with
 |nil=>exact⟨fun h=>by simp at h,fun _=>rfl⟩
 |cons b l ih=>
  unfold Lib.indexByte
  by_cases h:b=c
  ·subst h
   exact⟨fun _=>⟨0,by simp⟩,fun h=>by simp at h⟩
  ·have hb:(b==c)=false:=beq_eq_false_iff_ne.2 h
   have hc:(b::l).contains c=l.contains c:=by simp[Ne.symm h]
   rw[hb,hc]
   refine⟨fun h=>?_,fun h=>?_⟩
   ·obtain⟨i,hi⟩:=ih.1 h
    have hne:((i:Int)==-1)=false:=beq_eq_false_iff_ne.2 (by omega)
    exact⟨i+1,by simp[hi,hne]⟩
   ·simp[ih.2 h]
set_option maxHeartbeats 1000000 in
theorem ou (w:World) (g:Nat) (s:List UInt8) (a d:Nat) (h:bu w g s a d 0) (ha:a≤s.length) (hs9:s.length≤1000000) (hd:d≤17) (c:UInt8):
  Calls Tryz.prog 65 #[.pointer (some ⟨g,0,none⟩),.int .u8 (c.toNat:Int)] w fun x w'=>x= .returned (.tuple #[])∧j9 w' g s d (cY c (s.drop a))∧K1 g w w':=by
 obtain⟨⟨c0,c1,c2,c3⟩,f1,f2,f3⟩:=h.cells
 have hs:=ai s
 have ht:=eJ s a s.length rfl
 have HL:Hid ((s.drop a).length=s.length -a):=jd (by rw[List.length_drop])
 have H:=jd h
 obtain⟨R,hR⟩:∃R,s.drop a=R:=⟨_,rfl⟩
 rw[hR] at ht HL⊢
 obtain⟨N,hN⟩:∃N,s.length=N:=⟨_,rfl⟩
 have HN:=jd hN
 rw[hN] at hs ht ha hs9 HL
 clear h hR hN
 rcases jj c R with⟨h1,h2⟩|⟨i,h1,h2,h3⟩
 ·have HI:=jd h1;have HU:=jd h2
  clear h1 h2
  go_enter Tryz.func65,Tryz.ntmps65
  go_wp2_with fail
  go_quiet ((go_at_call 41;exact Calls.quiet_of_same (dB R c (-1) HI.o _)))
  go_wp2_with fail
  refine(cx _ g s a d 0 (H.o.drewN _) 5 5 rfl).mono ?_
  rintro e w' ⟨rfl,h',k'⟩
  go_wp2_with fail
  refine bodyPost_ret (results_none rfl _ _ _) rfl ?_
  rw[HU.o]
  exact⟨rfl,⟨a,d,by rw[HN.o];exact ha,Nat.le_refl _,hd,h',by decide⟩,(K1.drewN g w nq).then k'⟩
 ·have HI:=jd h1;have HU:=jd h3
  have hi9:a+i+1≤N:=by have:=HL.o;omega
  have HE:Hid (N -(R.drop (i+1)).length=a+(i+1)):=jd (by rw[List.length_drop,HL.o];omega)
  clear h1 h2 h3
  go_enter Tryz.func65,Tryz.ntmps65
  go_wp2_with fail
  go_quiet ((go_at_call 41;exact Calls.quiet_of_same (dB R c (i:Int) HI.o _)))
  go_wp2_with fail
  go_end0
  rw[HU.o]
  refine⟨rfl,?_,(K1.drewN g w nq).set _⟩
  show bu _ g s _ d 0
  rw[HN.o,HE.o]
  have:=(H.o.drewN nq).at' (a+(i+1))
  simpa using this
def ri (w':World) (g:Nat) (s:List UInt8) (a d e:Nat) (c:UInt8):Prop:=
 (cY c (s.drop a)= .error 5∧bu w' g s a d (nx e 5))∨∃i,a+i+1≤s.length∧bu w' g s (a+(i+1)) d e
set_option maxHeartbeats 1000000 in
theorem zF (w:World) (g:Nat) (s:List UInt8) (a d e:Nat) (h:bu w g s a d e) (ha:a≤s.length) (hs9:s.length≤1000000) (c:UInt8):
  Calls Tryz.prog 65 #[.pointer (some ⟨g,0,none⟩),.int .u8 (c.toNat:Int)] w fun x w'=>x= .returned (.tuple #[])∧ri w' g s a d e c∧K1 g w w':=by
 obtain⟨⟨c0,c1,c2,c3⟩,f1,f2,f3⟩:=h.cells
 have hs:=ai s
 have ht:=eJ s a s.length rfl
 have HL:Hid ((s.drop a).length=s.length -a):=jd (by rw[List.length_drop])
 have H:=jd h
 have HUP:Hid (∀w',(cY c (s.drop a)= .error 5∧bu w' g s a d (nx e 5))∨(∃i,a+i+1≤s.length∧bu w' g s (a+(i+1)) d e)→ri w' g s a d e c):=jd (fun w' h=>h)
 obtain⟨R,hR⟩:∃R,s.drop a=R:=⟨_,rfl⟩
 rw[hR] at ht HL HUP
 obtain⟨N,hN⟩:∃N,s.length=N:=⟨_,rfl⟩
 rw[hN] at hs ht ha hs9 HL HUP
 clear h hR hN
 rcases jj c R with⟨h1,h2⟩|⟨i,h1,h2,h3⟩
 ·have HI:=jd h1;have HU:=jd h2
  clear h1 h2
  go_enter Tryz.func65,Tryz.ntmps65
  go_wp2_with fail
  go_quiet ((go_at_call 41;exact Calls.quiet_of_same (dB R c (-1) HI.o _)))
  go_wp2_with fail
  refine(cx _ g s a d e (H.o.drewN _) 5 5 rfl).mono ?_
  rintro x w' ⟨rfl,h',k'⟩
  go_wp2_with fail
  refine bodyPost_ret (results_none rfl _ _ _) rfl ?_
  exact⟨rfl,HUP.o _ (.inl ⟨HU.o,h'⟩),(K1.drewN g w nq).then k'⟩
 ·have HI:=jd h1
  have hi9:a+i+1≤N:=by have:=HL.o;omega
  clear h1 h2 h3
  go_enter Tryz.func65,Tryz.ntmps65
  go_wp2_with fail
  go_quiet ((go_at_call 41;exact Calls.quiet_of_same (dB R c (i:Int) HI.o _)))
  go_wp2_with fail
  go_end0
  refine⟨rfl,HUP.o _ (.inr ⟨i,hi9,?_⟩),(K1.drewN g w nq).set _⟩
  have:=(H.o.drewN nq).at' (a+(i+1))
  simpa using this
theorem zf (w:World) (g:Nat) (s:List UInt8) (d e:Nat) (h:j8 w g s d e) (hs9:s.length≤1000000) (c:UInt8):
  Calls Tryz.prog 65 #[.pointer (some ⟨g,0,none⟩),.int .u8 (c.toNat:Int)] w fun x w'=>x= .returned (.tuple #[])∧j8 w' g s d e∧K1 g w w':=by
 obtain⟨a,d',ha,hd,hd',hsc,he⟩:=h
 refine(zF w g s a d' e hsc ha hs9 c).mono ?_
 rintro x w' ⟨rfl,h',k'⟩
 refine⟨rfl,?_,k'⟩
 rcases h' with⟨_,h'⟩|⟨i,hi,h'⟩
 ·rw[show nx e 5=e from if_neg he] at h'
  exact⟨a,d',ha,hd,hd',h',he⟩
 ·exact⟨a+(i+1),d',by omega,hd,hd',h',he⟩
set_option maxHeartbeats 1000000 in
theorem xl (w:World) (g:Nat) (s:List UInt8) (a d:Nat) (h:bu w g s a d 0) (ha:a≤s.length) (hs9:s.length≤1000000) (hd:d≤17):
  Calls Tryz.prog 64 #[.pointer (some ⟨g,0,none⟩)] w fun x w'=>x= .returned (.tuple #[])∧j9 w' g s d (fj (s.drop a))∧K1 g w w':=by
 obtain⟨⟨c0,c1,c2,c3⟩,f1,f2,f3⟩:=h.cells
 have hs:=ai s
 have H:=jd h
 have HL:Hid ((s.drop a).length=s.length -a):=jd (by rw[List.length_drop])
 obtain⟨R,hR⟩:∃R,s.drop a=R:=⟨_,rfl⟩
 rw[hR] at HL⊢
 obtain⟨N,hN⟩:∃N,s.length=N:=⟨_,rfl⟩
 have HN:=jd hN
 rw[hN] at hs ha hs9 HL
 have HR:=jd hR
 clear h hN hR
 cases R with
 |nil=>
  have hb:decide (N≤a)=true:=decide_eq_true (by have:=HL.o;simp at this;omega)
  have hna:N≤a:=by have:=HL.o;simp at this;omega
  go_enter Tryz.func64,Tryz.ntmps64
  go_wp2_with fail
  go_quiet (fail)
  go_wp2_with fail
  refine(cx _ g s a d 0 (H.o.drewN _) 5 5 rfl).mono ?_
  rintro x w' ⟨rfl,h',k'⟩
  go_wp2_with fail
  refine bodyPost_ret (results_none rfl _ _ _) rfl ?_
  exact⟨rfl,⟨a,d,by rw[HN.o];exact ha,Nat.le_refl _,hd,h',by decide⟩,(K1.drewN g w nq).then k'⟩
 |cons c r=>
  have hlt:a<N:=by have:=HL.o;simp at this;omega
  have hb:decide (N≤a)=false:=decide_eq_false (by omega)
  have g0:=fp (l:=s) (k:=a) (c:=c) (by have:=HR.o;rw[←List.head?_drop,this];rfl)
  have HE:Hid (N -r.length=a+1):=jd (by have:=HL.o;simp at this;omega)
  by_cases hc:c=10
  ·have hb2:((c.toNat:Int)==10)=true:=yQ (k:=10) rfl hc
   have HP:Hid (fj (c::r)= .error 5):=jd (if_pos hc)
   clear hc
   go_enter Tryz.func64,Tryz.ntmps64
   go_wp2_with fail
   go_quiet (fail)
   go_wp2_with fail
   refine(cx _ g s a d 0 (H.o.drewN _) 5 5 rfl).mono ?_
   rintro x w' ⟨rfl,h',k'⟩
   go_wp2_with fail
   refine bodyPost_ret (results_none rfl _ _ _) rfl ?_
   rw[HP.o]
   exact⟨rfl,⟨a,d,by rw[HN.o];exact ha,Nat.le_refl _,hd,h',by decide⟩,(K1.drewN g w nq).then k'⟩
  ·have hb2:((c.toNat:Int)==10)=false:=gb (k:=10) rfl hc
   have HP:Hid (fj (c::r)= .ok r):=jd (if_neg hc)
   clear hc
   go_enter Tryz.func64,Tryz.ntmps64
   go_wp2_with fail
   go_quiet (fail)
   go_wp2_with fail
   go_end0
   rw[HP.o]
   refine⟨rfl,?_,(K1.drewN g w nq).set _⟩
   show bu _ g s _ d 0
   rw[HN.o,HE.o]
   have:=(H.o.drewN nq).at' (a+1)
   simpa using this
end Go.Proofs.YtgigdlhcjahejaaGreatDoor
