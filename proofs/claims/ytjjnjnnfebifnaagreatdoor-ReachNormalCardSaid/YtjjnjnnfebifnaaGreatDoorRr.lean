import Derived.Test.YtjjnjnnfebifnaaGreatDoorRp
import Derived.Test.YtjjnjnnfebifnaaGreatDoorRq
set_option linter.all false
namespace Go.Proofs.YtjjnjnnfebifnaaGreatDoor.reachNormal
open Go.ChangeShapes Go.WideShapes Go.ChangeAt Go.RowKit
open Go.Proofs.YtjjnjnnfebifnaaGreatDoorW.PrintWords Go.Proofs.YtjjnjnnfebifnaaGreatDoorW.PrintLast Go.Proofs.YtjjnjnnfebifnaaGreatDoor.PReachNormal Go.Proofs.YtjjnjnnfebifnaaGreatDoor.Rn

set_option maxRecDepth 100000 in
theorem lifted (HRN : Walked) (os : Os) (started : os.Started) (H : Type) (enc : TypeId × Value → H) (F : Stop.Interp) :
    ReturnsInHanded {} Tryz.checked os 4 .any ((OpenSpec.ofChange Rows.reachNormalSpec).preRow enc Tryz.prog Tryz.f4 Rows.reachNormalRow.domain false Rows.reachNormalRow.laid) (((OpenSpec.ofChange Rows.reachNormalSpec).at F).post enc Tryz.prog Tryz.f4 false true false false) := by
  obtain ⟨places, hx⟩ := reads os enc
  refine returnsInHanded_of_row (C := Tryz.checked) (s := OpenSpec.ofChange Rows.reachNormalSpec) own started (by kernel_rfl) Tryz.func4
    (witness_row_at (enc := enc) (C := Tryz.checked) false (laidWorld os) #[zeroF] rfl (by kernel_rfl) (by kernel_rfl) (by kernel_rfl)
      (OpenSpec.preRow_of_cond 8 hx (by kernel_rfl) (fun k hk => by cases hk) (by kernel_rfl) (laid_met os))) ?_
  intro W base args ds gs before hval hW _ _ hsz hL _ _
  exact contract HRN H enc W base args ds gs before hval hW hsz

end Go.Proofs.YtjjnjnnfebifnaaGreatDoor.reachNormal
