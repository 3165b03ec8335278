import Derived.Test.YtjjnjnnfebifnaaGreatDoorCards
import Derived.SevenTiedAt
import Derived.KernelRfl
set_option linter.all false
namespace Go.Proofs.YtjjnjnnfebifnaaGreatDoor.reachNormal
theorem goes4 : false = Rows.reachNormalRow.goesBy Tryz.pinned.checked.prog := by kernel_rfl
end Go.Proofs.YtjjnjnnfebifnaaGreatDoor.reachNormal
