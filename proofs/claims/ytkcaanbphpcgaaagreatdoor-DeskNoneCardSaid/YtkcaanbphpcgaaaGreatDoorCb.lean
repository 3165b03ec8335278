import Derived.Test.YtkcaanbphpcgaaaGreatDoorCa
set_option linter.all false
namespace Go.Proofs.YtkcaanbphpcgaaaGreatDoor.Dn
open Go
set_option maxRecDepth 100000
theorem fuel3 : decide (2733 ≤ 1 + (Tryz.prog.funcs.toList.map fun g => (Tryz.prog.leadsTo g).length + 1).sum) = true := by kernel_rfl
theorem closure3 : Tryz.prog.closure 3 = L3 := clos_ok clos3 fuel3
end Go.Proofs.YtkcaanbphpcgaaaGreatDoor.Dn
