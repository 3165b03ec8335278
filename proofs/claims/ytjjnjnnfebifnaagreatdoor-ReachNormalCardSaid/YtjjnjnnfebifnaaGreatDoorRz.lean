import Derived.Test.YtjjnjnnfebifnaaGreatDoorRy
import Derived.Test.YtjjnjnnfebifnaaGreatDoorRx4
set_option linter.all false
namespace Go.Proofs.YtjjnjnnfebifnaaGreatDoor.reachNormal
open Go.ChangeShapes Go.WideShapes Go.ChangeAt Go.RowKit
open Go.Proofs.YtjjnjnnfebifnaaGreatDoorW.PrintWords Go.Proofs.YtjjnjnnfebifnaaGreatDoorW.PrintLast Go.Proofs.YtjjnjnnfebifnaaGreatDoor.PReachNormal Go.Proofs.YtjjnjnnfebifnaaGreatDoor.Rn

theorem looks4 : true = Tryz.pinned.checked.prog.looks [] := by kernel_rfl
theorem stand4 : Tryz.prog.wantsStandIn 25 = false := by kernel_rfl
theorem named4 : Tryz.prog.funcNamed "paraphrast/paraphrastlaw13.ReachNormal" = some 4 := by kernel_rfl
theorem byText4 : Rows.reachNormalRow.wfByText (OpenSpec.ofChange Rows.reachNormalSpec) = true := by kernel_rfl
theorem main4 : Tryz.pinned.checked.prog.mainIs = some (true, "01c2ddbdeea9ed653584e4d19a59d0f0c64126a11f291d5a3f0cd17a3186afd9".toList) := by kernel_rfl
/-- No parameter wants a stand-in; the program's own looks are on. -/
theorem plain (f : FuncId) (fn : Func) (hf : Tryz.pinned.checked.prog.funcNamed "paraphrast/paraphrastlaw13.ReachNormal" = some f) (hfn : Tryz.pinned.checked.prog.funcs[f]? = some fn) :
    true = Tryz.pinned.checked.prog.looks [] ∧ ∀ (j : Nat) t, fn.params[j]? = some t → Tryz.pinned.checked.prog.wantsStandIn t = false := by
  obtain rfl : f = 4 := Option.some.inj (named4.symm.trans hf) |>.symm
  obtain rfl : fn = Tryz.f4 := (Option.some.inj (Tryz.func4.symm.trans hfn)).symm
  refine ⟨looks4, fun j t ht => ?_⟩
  rw [Tryz.params4] at ht
  obtain rfl : t = 25 := by simpa using Array.mem_of_getElem? ht
  exact stand4

theorem card_of (HRN : Walked) : Rows.ReachNormalCardSaid :=
  Claim7.holds_tied_plain_at .later [] _ _ _ _ (said_of HRN) (fun _ h => by cases h) byText4 (fun _ h => by cases h) reachNormal_row_tie rfl ⟨rfl, rfl⟩ main4 rfl plain goes4
end Go.Proofs.YtjjnjnnfebifnaaGreatDoor.reachNormal
