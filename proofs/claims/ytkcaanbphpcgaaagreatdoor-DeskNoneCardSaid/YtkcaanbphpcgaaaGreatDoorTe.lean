import Derived.Test.YtkcaanbphpcgaaaGreatDoorTc
import Derived.Test.YtkcaanbphpcgaaaGreatDoorTd
set_option linter.all false
namespace Go.Proofs.YtkcaanbphpcgaaaGreatDoor.Dn
open Go
set_option maxRecDepth 100000
theorem tie8 : Tryz.prog.laidByTextLater laid8 kinds8 true := Program.laidByTextLater_by_one 96 8 257 hw hw' hroot hk hg hn hr
theorem row_tie : Rows.deskNoneRow.laidByTextAt .later Tryz.pinned [.data, .data, .data, .data, .sentinel, .sentinel, .listed, .data, .pinned] true :=
  OpenClaim.laidByTextAt_pinned (l := laid8) (k := kinds8) rfl rfl tie8 rfl rfl rfl rfl (fun y hy e => by
    simp only [Rows.deskNoneRow, List.zip_cons_cons, List.zip_nil_right, List.mem_cons, List.mem_nil_iff, or_false] at hy
    rcases hy with rfl | rfl | rfl | rfl | rfl | rfl | rfl | rfl | rfl
    · cases e
    · cases e
    · cases e
    · cases e
    · cases e
    · cases e
    · cases e
    · cases e
    · exact ⟨pin8, by kernel_rfl⟩) fits8
end Go.Proofs.YtkcaanbphpcgaaaGreatDoor.Dn
