import Derived.Test.YtkcaanbphpcgaaaGreatDoorKa
set_option linter.all false
namespace Go.Proofs.YtkcaanbphpcgaaaGreatDoor.Dn
set_option maxRecDepth 100000
noncomputable def rowedAt (t : Nat) : Bool := match Tryz.prog.underlying t with | some (.map _ e) => decide (e < 889) | _ => true
theorem rowed1 : (List.range' 0 500).all rowedAt = true := by kernel_rfl
theorem rowed2 : (List.range' 500 389).all rowedAt = true := by kernel_rfl
theorem rowed : mapsRowed Tryz.prog = true := mapsRowed_parts types889 500 389 rfl (rowed1) (rowed2)
end Go.Proofs.YtkcaanbphpcgaaaGreatDoor.Dn
