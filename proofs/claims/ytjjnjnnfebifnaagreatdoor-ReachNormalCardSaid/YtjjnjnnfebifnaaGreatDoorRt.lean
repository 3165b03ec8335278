import Derived.Test.YtjjnjnnfebifnaaGreatDoorRows
import Derived.JoinedCond
import Derived.KernelRfl
set_option linter.all false
namespace Go.Proofs.YtjjnjnnfebifnaaGreatDoor.reachNormal
theorem j11 : (Rows.reachNormalRow.unfollowed == Tryz.prog.unfollowed 4) = true := by kernel_rfl
end Go.Proofs.YtjjnjnnfebifnaaGreatDoor.reachNormal
