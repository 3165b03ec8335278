import Derived.Test.YtkcaanbphpcgaaaGreatDoorRows
import Derived.JoinedCond
import Derived.KernelRfl
import Derived.Test.YtkcaanbphpcgaaaGreatDoorKb
import Derived.Test.YtkcaanbphpcgaaaGreatDoorKc
set_option linter.all false
namespace Go.Proofs.YtkcaanbphpcgaaaGreatDoor.Dn
set_option maxRecDepth 100000
theorem closed (j10 : (Rows.deskNoneRow.inPlace == Tryz.prog.inPlace 3) = true) (j11 : (Rows.deskNoneRow.unfollowed == Tryz.prog.unfollowed 3) = true)
    (j12 : (Rows.deskNoneRow.recurses == Tryz.prog.recurses 3) = true) (j13 : (Rows.deskNoneRow.named == Tryz.prog.varsNamed 3) = true) :
    joinedFacts Tryz.prog 3 Tryz.f3 (OpenSpec.ofChange Rows.deskNoneSpec).bare Rows.deskNoneRow = true := by
  unfold joinedFacts
  rw [j10, j11, j12, j13, laidOut, rowed, heard, enters]
  kernel_rfl
end Go.Proofs.YtkcaanbphpcgaaaGreatDoor.Dn
