import Derived.Test.YtkcaanbphpcgaaaGreatDoorRows
import Derived.JoinedCond
import Derived.KernelRfl
import Derived.Test.YtkcaanbphpcgaaaGreatDoorCb
import Derived.Test.YtkcaanbphpcgaaaGreatDoorTa
set_option linter.all false
namespace Go.Proofs.YtkcaanbphpcgaaaGreatDoor.Dn
open Go
set_option maxRecDepth 100000
theorem j10 : (Rows.deskNoneRow.inPlace == Tryz.prog.inPlace 3) = true := by unfold Program.inPlace; rw [closure3]; kernel_rfl
theorem unf3 : Tryz.prog.unfollowed 3 = true := by unfold Program.unfollowed; rw [closure3]; kernel_rfl
theorem j11 : (Rows.deskNoneRow.unfollowed == Tryz.prog.unfollowed 3) = true := by rw [unf3]; rfl
theorem j12 : (Rows.deskNoneRow.recurses == Tryz.prog.recurses 3) = true := by unfold Program.recurses; rw [unf3]; rfl
theorem j13 : (Rows.deskNoneRow.named == Tryz.prog.varsNamed 3) = true := by unfold Program.varsNamed; rw [closure3]; kernel_rfl
end Go.Proofs.YtkcaanbphpcgaaaGreatDoor.Dn
