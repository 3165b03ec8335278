import Derived.Test.YtjjnjnnfebifnaaGreatDoorRows
import Derived.JoinedCond
import Derived.KernelRfl
set_option linter.all false
namespace Go.Proofs.YtjjnjnnfebifnaaGreatDoor.reachNormal
theorem j13 : (Rows.reachNormalRow.named == Tryz.prog.varsNamed 4) = true := by kernel_rfl
end Go.Proofs.YtjjnjnnfebifnaaGreatDoor.reachNormal
