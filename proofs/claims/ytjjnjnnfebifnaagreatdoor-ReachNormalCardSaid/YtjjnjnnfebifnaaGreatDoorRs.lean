import Derived.Test.YtjjnjnnfebifnaaGreatDoorRows
import Derived.JoinedCond
import Derived.KernelRfl
set_option linter.all false
namespace Go.Proofs.YtjjnjnnfebifnaaGreatDoor.reachNormal
theorem j10 : (Rows.reachNormalRow.inPlace == Tryz.prog.inPlace 4) = true := by kernel_rfl
end Go.Proofs.YtjjnjnnfebifnaaGreatDoor.reachNormal
