import Derived.Test.YtkcaanbphpcgaaaGreatDoorHa
set_option linter.all false
namespace Go.Proofs.YtkcaanbphpcgaaaGreatDoor.Dn
open Go
set_option maxRecDepth 100000
theorem met2 (os : Os) : ((DataW.laidRun Tryz.prog (laidW os).memory 8 (Rows.deskNoneRow.laid.map (·.1))).map fun x => nodupBits 257 x.2 0 && laidRowsB Tryz.prog (laidW os).memory x.2) = some true := by kernel_rfl
end Go.Proofs.YtkcaanbphpcgaaaGreatDoor.Dn
