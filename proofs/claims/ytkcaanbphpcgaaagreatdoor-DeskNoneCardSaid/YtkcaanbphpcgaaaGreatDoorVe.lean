import Derived.Shelf.Strings.Search2
import Derived.Ground.NamesProg
import Derived.Test.YtkcaanbphpcgaaaGreatDoorProg
set_option linter.all false
namespace Go.Proofs
open Go.Shelf
def Tryz.lays219_ren : Go.Shelf.Ren := ⟨fun | 219 => 142 | 217 => 333 | 225 => 334 | 224 => 335 | 267 => 336 | 266 => 541 | 314 => 542 | n => n, fun | 9 => 9 | 3 => 3 | 4 => 4 | 5 => 5 | 46 => 513 | 146 => 680 | 51 => 525 | n => n, fun | 1 => 1 | n => n⟩
theorem Tryz.lays219 : Go.Proofs.Lays.n219 Tryz.prog Tryz.lays219_ren := {
  mixed := by kernel_rfl
  f217 := Tryz.func333.trans (congrArg some (by kernel_rfl))
  f219 := Tryz.func142.trans (congrArg some (by kernel_rfl))
  f224 := Tryz.func335.trans (congrArg some (by kernel_rfl))
  f225 := Tryz.func334.trans (congrArg some (by kernel_rfl))
  f266 := Tryz.func541.trans (congrArg some (by kernel_rfl))
  f267 := Tryz.func336.trans (congrArg some (by kernel_rfl))
  f314 := Tryz.func542.trans (congrArg some (by kernel_rfl))
  t3 := Tryz.underlying3
  a3 := Tryz.isAgg3
  z3 := Tryz.sizeOf3
  v3 := Tryz.zeroValue3
  t4 := Tryz.underlying4
  a4 := Tryz.isAgg4
  z4 := Tryz.sizeOf4
  v4 := Tryz.zeroValue4
  t5 := Tryz.underlying5
  a5 := Tryz.isAgg5
  z5 := Tryz.sizeOf5
  v5 := Tryz.zeroValue5
  t9 := Tryz.underlying9
  a9 := Tryz.isAgg9
  z9 := Tryz.sizeOf9
  v9 := Tryz.zeroValue9
  t46 := Tryz.underlying513
  a46 := Tryz.isAgg513
  z46 := Tryz.sizeOf513
  v46 := Tryz.zeroValue513
  t51 := Tryz.underlying525
  a51 := Tryz.isAgg525
  z51 := Tryz.sizeOf525
  v51 := Tryz.zeroValue525
  t146 := Tryz.underlying680
  a146 := Tryz.isAgg680
  z146 := Tryz.sizeOf680
  v146 := Tryz.zeroValue680
  g1 := by kernel_rfl }
end Go.Proofs
