import Derived.Test.YtjjnjnnfebifnaaGreatDoorRr
import Derived.Test.YtjjnjnnfebifnaaGreatDoorRs
import Derived.Test.YtjjnjnnfebifnaaGreatDoorRt
import Derived.Test.YtjjnjnnfebifnaaGreatDoorRu
import Derived.Test.YtjjnjnnfebifnaaGreatDoorRv
import Derived.Test.YtjjnjnnfebifnaaGreatDoorRw
set_option linter.all false
namespace Go.Proofs.YtjjnjnnfebifnaaGreatDoor.reachNormal
open Go.ChangeShapes Go.WideShapes Go.ChangeAt Go.RowKit
open Go.Proofs.YtjjnjnnfebifnaaGreatDoorW.PrintWords Go.Proofs.YtjjnjnnfebifnaaGreatDoorW.PrintLast Go.Proofs.YtjjnjnnfebifnaaGreatDoor.PReachNormal Go.Proofs.YtjjnjnnfebifnaaGreatDoor.Rn

theorem said_of (HRN : Walked) : Rows.ReachNormalSaid :=
  OpenClaim.holds_of_cond 4 Tryz.f4 rfl rfl rfl rfl rfl rfl rfl ⟨rfl, rfl, rfl, rfl, rfl⟩ rfl rfl rfl rfl rfl (by kernel_rfl) Tryz.func4 (closed j10 j11 j12 j13)
    (of_decide_eq_true (by kernel_rfl)) (by unfold Func.isWrapper; rw [if_neg (of_decide_eq_false (by kernel_rfl))]; exact ⟨rfl, rfl⟩)
    (fun os started H enc _ F => by rw [OpenClaim.pre_eq_preRow]; exact lifted HRN os started H enc F)

end Go.Proofs.YtjjnjnnfebifnaaGreatDoor.reachNormal
