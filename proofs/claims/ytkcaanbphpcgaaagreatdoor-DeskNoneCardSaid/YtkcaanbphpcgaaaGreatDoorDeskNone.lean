/- For every line that is handed in, the call paraphrastlaw24.DeskNone returns true (the methods of a nil and of a zero Desk answer ErrState and zero values), and the line reads behind the call as it read before. Conditions: those of the given card alone (what the row's cells list: nine library variables start as the program's text lays them, which the card ties to that text); no further hypothesis. -/
import Derived.Test.YtkcaanbphpcgaaaGreatDoorCards
import Derived.SevenTiedAt
import Derived.KernelRfl
import Derived.Test.YtkcaanbphpcgaaaGreatDoorHd
import Derived.Test.YtkcaanbphpcgaaaGreatDoorCc
import Derived.Test.YtkcaanbphpcgaaaGreatDoorCd
import Derived.Test.YtkcaanbphpcgaaaGreatDoorKd
import Derived.Test.YtkcaanbphpcgaaaGreatDoorTe
set_option linter.all false
namespace Go.Proofs.YtkcaanbphpcgaaaGreatDoor.Dn
set_option maxRecDepth 100000
open Go.ChangeShapes Go.WideShapes Go.ChangeAt Go.RowKit

theorem said : Rows.DeskNoneSaid :=
  OpenClaim.holds_of_cond 3 Tryz.f3 rfl rfl rfl rfl rfl rfl rfl ⟨rfl, rfl, rfl, rfl, rfl⟩ rfl rfl rfl rfl rfl named3 Tryz.func3 (closed j10 j11 j12 j13)
    (of_decide_eq_true (by kernel_rfl)) (by unfold Func.isWrapper; rw [if_neg (of_decide_eq_false (by kernel_rfl))]; exact ⟨rfl, rfl⟩)
    (fun os started H enc _ F => by rw [OpenClaim.pre_eq_preRow]; exact lifted os started H enc F)
end Go.Proofs.YtkcaanbphpcgaaaGreatDoor.Dn
namespace Go.Proofs.YtkcaanbphpcgaaaGreatDoor.Dn
set_option maxRecDepth 100000
theorem looks4 : true = Tryz.pinned.checked.prog.looks [] := by kernel_rfl
theorem stand9 : Tryz.prog.wantsStandIn 9 = false := by kernel_rfl
theorem byText3 : Rows.deskNoneRow.wfByText (OpenSpec.ofChange Rows.deskNoneSpec) = true := by kernel_rfl
theorem main3 : Tryz.pinned.checked.prog.mainIs = some (true, "2063d19126af47dff1e3f79f94ffc716d5276d702a4437f1cf20b4abff3521ca".toList) := by kernel_rfl
theorem goesP : false = Rows.deskNoneRow.goesBy Tryz.pinned.checked.prog := goes4
/-- No parameter wants a stand-in; the program's own looks are on. -/
theorem plain3 (f : FuncId) (fn : Func) (hf : Tryz.pinned.checked.prog.funcNamed "paraphrast/paraphrastlaw24.DeskNone" = some f) (hfn : Tryz.pinned.checked.prog.funcs[f]? = some fn) :
    true = Tryz.pinned.checked.prog.looks [] ∧ ∀ (j : Nat) t, fn.params[j]? = some t → Tryz.pinned.checked.prog.wantsStandIn t = false := by
  obtain rfl : f = 3 := Option.some.inj (named3.symm.trans hf) |>.symm
  obtain rfl : fn = Tryz.f3 := (Option.some.inj (Tryz.func3.symm.trans hfn)).symm
  refine ⟨looks4, fun j t ht => ?_⟩
  rw [Tryz.params3] at ht
  obtain rfl : t = 9 := by simpa using Array.mem_of_getElem? ht
  exact stand9
end Go.Proofs.YtkcaanbphpcgaaaGreatDoor.Dn
namespace Go.Proofs.YtkcaanbphpcgaaaGreatDoor.Dn
set_option maxRecDepth 100000
theorem card : Rows.DeskNoneCardSaid :=
  Claim7.holds_tied_plain_at .later [] _ _ _ _ said (fun _ h => by cases h) byText3 (fun _ h => by cases h) row_tie rfl ⟨rfl, rfl⟩ main3 rfl plain3 goesP
#print axioms card
end Go.Proofs.YtkcaanbphpcgaaaGreatDoor.Dn
