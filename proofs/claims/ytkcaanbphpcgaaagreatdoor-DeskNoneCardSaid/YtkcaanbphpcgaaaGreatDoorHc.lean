import Derived.Test.YtkcaanbphpcgaaaGreatDoorHa
set_option linter.all false
namespace Go.Proofs.YtkcaanbphpcgaaaGreatDoor.Dn
open Go
set_option maxRecDepth 100000
theorem varsB (os : Os) : (laidW os).variablesRefB Tryz.prog = true := by kernel_rfl
theorem tail5 (os : Os) : ((laidW os).heap.toList.drop Tryz.prog.globals.size).take ((begin Tryz.prog (fun _ _ => 0) default).world.heap.size - Tryz.prog.globals.size) =
      (begin Tryz.prog (fun _ _ => 0) default).world.heap.toList.drop Tryz.prog.globals.size := by kernel_rfl
theorem okIn (os : Os) : Input.okWideB Tryz.prog (laidW os) 3 ⟨#[], #[.string ⟨#[]⟩], []⟩ = true := by kernel_rfl
end Go.Proofs.YtkcaanbphpcgaaaGreatDoor.Dn
