import Derived.LaidOnce
import Derived.Test.YtkcaanbphpcgaaaGreatDoorTb
set_option linter.all false
namespace Go
/-- what the door's run leaves, the door's number given -/
noncomputable def leavesAt (P : Program) (g : FuncId) (n fuel M : Nat) (laid : List (String × DataW Unit)) (os : Os) (tape : Tape) : Option (List (String × DataW Unit) × List (DataW (List UInt8))) :=
  match runN P n (Machine.entering P (World.unlaid P os) tape g ⟨#[], #[], []⟩) with
  | .ended (.done _) w =>
    (DataW.laidRun P w.memory fuel ((laid.filter fun x => x.2.handleName?.isNone).map (·.1))).bind fun x =>
      if nodupBits M x.2 0 && laidRowsB P w.memory x.2 && (laid.filter fun x => x.2.handleName?.isSome && x.2.funcsIn?.isNone).all (handleAtB P w.memory)
      then (funcsRun P w.memory fuel ((funcsListed laid).map (·.1))).map fun y => (x.1, y) else none
  | _ => none
theorem leavesAt_eq {P : Program} {g : FuncId} (hg : varsId P = g) (n fuel M : Nat) (laid : List (String × DataW Unit)) (os : Os) (tape : Tape) : doorLeaves P n fuel M laid os tape = leavesAt P g n fuel M laid os tape := by
  subst hg; rfl
end Go
namespace Go.Proofs.YtkcaanbphpcgaaaGreatDoor.Dn
open Go
set_option maxRecDepth 100000
theorem hr0 : ∀ os tape, leavesAt Tryz.prog 799 96 8 257 laid8 os tape = some (laid8.filter fun x => x.2.handleName?.isNone, (funcsListed laid8).map (·.2.funcsOut)) := fun _ _ => by kernel_rfl
theorem hr : ∀ os tape, doorLeaves Tryz.prog 96 8 257 laid8 os tape = some (laid8.filter fun x => x.2.handleName?.isNone, (funcsListed laid8).map (·.2.funcsOut)) := fun os tape =>
  (leavesAt_eq vid 96 8 257 laid8 os tape).trans (hr0 os tape)
end Go.Proofs.YtkcaanbphpcgaaaGreatDoor.Dn
