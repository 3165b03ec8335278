import Derived.Test.YtkcaanbphpcgaaaGreatDoorProg
import GoSem.ClaimOpen
import Derived.KernelRfl
import Derived.Test.YtkcaanbphpcgaaaGreatDoorKa
set_option linter.all false
namespace Go.Proofs.YtkcaanbphpcgaaaGreatDoor.Dn
theorem enters : Tryz.prog.mayEnter = true := by kernel_rfl
end Go.Proofs.YtkcaanbphpcgaaaGreatDoor.Dn
