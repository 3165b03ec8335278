import Derived.Test.YtjjnjnnfebifnaaGreatDoorRows
import Derived.JoinedCond
import Derived.KernelRfl
set_option linter.all false
namespace Go.Proofs.YtjjnjnnfebifnaaGreatDoor.reachNormal
theorem j12 : (Rows.reachNormalRow.recurses == Tryz.prog.recurses 4) = true := by kernel_rfl
end Go.Proofs.YtjjnjnnfebifnaaGreatDoor.reachNormal
