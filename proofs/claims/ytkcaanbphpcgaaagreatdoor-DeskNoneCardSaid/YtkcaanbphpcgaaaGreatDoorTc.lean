import Derived.Test.YtkcaanbphpcgaaaGreatDoorTb
set_option linter.all false
namespace Go.Proofs.YtkcaanbphpcgaaaGreatDoor.Dn
open Go
set_option maxRecDepth 100000
theorem hn0 : varsNamedLaterB Tryz.prog 799 laid8 = true := by kernel_rfl
theorem hn : varsNamedLaterB Tryz.prog (varsId Tryz.prog) laid8 = true := by rw [vid]; exact hn0
end Go.Proofs.YtkcaanbphpcgaaaGreatDoor.Dn
