import Derived.Test.YtjjnjnnfebifnaaGreatDoorRows
import Derived.JoinedCond
import Derived.KernelRfl
set_option linter.all false
namespace Go.Proofs.YtjjnjnnfebifnaaGreatDoor.reachNormal
theorem closed (j10 : (Rows.reachNormalRow.inPlace == Tryz.prog.inPlace 4) = true) (j11 : (Rows.reachNormalRow.unfollowed == Tryz.prog.unfollowed 4) = true)
    (j12 : (Rows.reachNormalRow.recurses == Tryz.prog.recurses 4) = true) (j13 : (Rows.reachNormalRow.named == Tryz.prog.varsNamed 4) = true) :
    joinedFacts Tryz.prog 4 Tryz.f4 (OpenSpec.ofChange Rows.reachNormalSpec).bare Rows.reachNormalRow = true := by
  unfold joinedFacts
  rw [j10, j11, j12, j13]
  kernel_rfl
end Go.Proofs.YtjjnjnnfebifnaaGreatDoor.reachNormal
