/- The library's contract of strconv.AppendInt at base 10, laid by a tool of the kit. -/
import Derived.Shelf.LaysM
import Derived.Shelf.Strconv.AppendIntPublic10
import Derived.Test.YtomahedcdcnnhaaGreatDoorProg
namespace Go.Proofs
open Go.Shelf
def Tryz.laysM176_ren:Go.Shelf.Ren:=⟨fun | 176=>48 | 249=>66 | 288=>84 | 283=>95 | 284=>96 | 285=>97 | 286=>98 | 129=>126 | 317=>125 | 318=>127 | 319=>128 | 320=>129 | 337=>137 | 338=>138 | n=>n,fun | 37=>81 | 2=>2 | 3=>3 | 53=>40 | 4=>4 | 9=>9 | 171=>125 | 0=>0 | 173=>128 | 212=>143 | 51=>136 | 5=>5 | 20=>20 | 213=>144 | 46=>96 | 232=>155 | 233=>156 | n=>n,fun | 17=>0 | 18=>1 | 19=>2 | n=>n⟩
theorem Tryz.laysM176:Go.Proofs.LaysM.n176 Tryz.prog Tryz.laysM176_ren:={
  mixed:=by kernel_rfl
  f129:=Tryz.func126.trans (congrArg some (by kernel_rfl))
  f176:=Tryz.func48.trans (congrArg some (by kernel_rfl))
  f249:=Tryz.func66.trans (congrArg some (by kernel_rfl))
  f283:=Tryz.func95.trans (congrArg some (by kernel_rfl))
  f284:=Tryz.func96.trans (congrArg some (by kernel_rfl))
  f285:=Tryz.func97.trans (congrArg some (by kernel_rfl))
  f286:=Tryz.func98.trans (congrArg some (by kernel_rfl))
  f288:=Tryz.func84.trans (congrArg some (by kernel_rfl))
  f317:=Tryz.func125.trans (congrArg some (by kernel_rfl))
  f318:=Tryz.func127.trans (congrArg some (by kernel_rfl))
  f319:=Tryz.func128.trans (congrArg some (by kernel_rfl))
  f320:=Tryz.func129.trans (congrArg some (by kernel_rfl))
  f337:=Tryz.func137.trans (congrArg some (by kernel_rfl))
  f338:=Tryz.func138.trans (congrArg some (by kernel_rfl))
  t0:=Tryz.underlying0
  a0:=Tryz.isAgg0
  z0:=Tryz.sizeOf0
  v0:=Tryz.zeroValue0
  t2:=Tryz.underlying2
  a2:=Tryz.isAgg2
  z2:=Tryz.sizeOf2
  v2:=Tryz.zeroValue2
  t3:=Tryz.underlying3
  a3:=Tryz.isAgg3
  z3:=Tryz.sizeOf3
  v3:=Tryz.zeroValue3
  t4:=Tryz.underlying4
  a4:=Tryz.isAgg4
  z4:=Tryz.sizeOf4
  v4:=Tryz.zeroValue4
  t5:=Tryz.underlying5
  a5:=Tryz.isAgg5
  z5:=Tryz.sizeOf5
  v5:=Tryz.zeroValue5
  t9:=Tryz.underlying9
  a9:=Tryz.isAgg9
  z9:=Tryz.sizeOf9
  v9:=Tryz.zeroValue9
  t20:=Tryz.underlying20
  a20:=Tryz.isAgg20
  z20:=Tryz.sizeOf20
  v20:=Tryz.zeroValue20
  t37:=Tryz.underlying81
  a37:=Tryz.isAgg81
  z37:=Tryz.sizeOf81
  v37:=Tryz.zeroValue81
  t46:=Tryz.underlying96
  a46:=Tryz.isAgg96
  z46:=Tryz.sizeOf96
  v46:=Tryz.zeroValue96
  t51:=Tryz.underlying136
  a51:=Tryz.isAgg136
  z51:=Tryz.sizeOf136
  v51:=Tryz.zeroValue136
  t53:=Tryz.underlying40
  a53:=Tryz.isAgg40
  z53:=Tryz.sizeOf40
  v53:=Tryz.zeroValue40
  t171:=Tryz.underlying125
  a171:=Tryz.isAgg125
  z171:=Tryz.sizeOf125
  v171:=Tryz.zeroValue125
  t173:=Tryz.underlying128
  a173:=Tryz.isAgg128
  z173:=Tryz.sizeOf128
  v173:=Tryz.zeroValue128
  t212:=Tryz.underlying143
  a212:=Tryz.isAgg143
  z212:=Tryz.sizeOf143
  v212:=Tryz.zeroValue143
  t213:=Tryz.underlying144
  a213:=Tryz.isAgg144
  z213:=Tryz.sizeOf144
  t232:=Tryz.underlying155
  a232:=Tryz.isAgg155
  z232:=Tryz.sizeOf155
  v232:=Tryz.zeroValue155
  t233:=Tryz.underlying156
  a233:=Tryz.isAgg156
  z233:=Tryz.sizeOf156
  v233:=Tryz.zeroValue156
  g17:=by kernel_rfl
  g18:=by kernel_rfl
  g19:=by kernel_rfl
  i0:=by kernel_rfl
  i2:=by kernel_rfl
  i3:=by kernel_rfl
  i4:=by kernel_rfl
  i5:=by kernel_rfl
  i9:=by kernel_rfl
  i20:=by kernel_rfl
  i37:=by kernel_rfl
  i46:=by kernel_rfl
  i51:=by kernel_rfl
  i53:=by kernel_rfl
  i171:=by kernel_rfl
  i173:=by kernel_rfl
  i212:=by kernel_rfl
  i232:=by kernel_rfl
  i233:=by kernel_rfl
  m17:=by kernel_rfl
  m18:=by kernel_rfl
  m19:=by kernel_rfl }
open Go.RowKit Go.Sort Go.Lib in
theorem Tryz.strconv_AppendInt_10 (B n : Nat) (i : Int) (h0 : -9223372036854775808 ≤ i) (h1 : i ≤ 9223372036854775807) (sv : Value) (xs : List Value) (w : World) (hown : w.ownsRow B 5 1 sv n xs) (hBw : B ≤ w.heap.size) (hlim : n + 21 ≤ 140737488355328) (htab : Lib.TabBelow Tryz.prog B w "internal/strconv.uint64pow10" .u64 Lib.pow10Tab) :
    Calls Tryz.prog 48 #[sv,.int .i64 i,.int .i64 10] w fun e w'=>∃ v',e=.returned v'∧w'.ownsRow B 5 1 v' (n + (Lib.itoa i).length) (xs++Lib.byteCells (Lib.itoa i))∧Below B w w'∧Lib.OthersKept 5 none w w':=Any.strconv_AppendInt_10 Tryz.laysM176 B n i h0 h1 sv xs w hown hBw hlim htab
end Go.Proofs
