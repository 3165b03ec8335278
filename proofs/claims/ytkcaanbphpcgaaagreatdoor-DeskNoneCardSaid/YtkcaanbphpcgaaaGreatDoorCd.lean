import GoSem.ClaimGoes
import Derived.Test.YtkcaanbphpcgaaaGreatDoorRows
import Derived.KernelRfl
import Derived.Test.YtkcaanbphpcgaaaGreatDoorTa
set_option linter.all false
namespace Go
theorem goes_none {P : Program} (h : P.funcs.any Func.goes = false) (f : FuncId) : P.goes f = false := by
  have hg : ∀ g : Nat, (P.funcs[g]?).any Func.goes = false := fun g => by
    cases e : P.funcs[g]? with
    | none => rfl
    | some x =>
      rw [← Array.any_toList] at h
      have := List.any_eq_false.1 h x (by rw [← Array.getElem?_toList] at e; exact List.mem_of_getElem? e)
      simpa using this
  unfold Program.goes
  rw [h, Bool.and_false, Bool.or_false, List.any_eq_false]
  intro g _
  rw [hg g]
  simp
theorem goesBy_none {c : OpenClaim} {P : Program} (hs : c.start = .entering) (h : P.funcs.any Func.goes = false) : false = c.goesBy P := by
  unfold OpenClaim.goesBy Program.goesAt Program.goesFrom
  rw [hs]
  cases P.funcNamed c.func with
  | none => rfl
  | some f => simp [goes_none h f]
end Go
namespace Go.Proofs.YtkcaanbphpcgaaaGreatDoor.Dn
open Go
set_option maxRecDepth 100000
theorem named3 : Tryz.prog.funcNamed "paraphrast/paraphrastlaw24.DeskNone" = some 3 := (funcNamed_idxs _ _).trans (by kernel_rfl)
theorem goesAny : Tryz.prog.funcs.any Func.goes = false := by rw [← Array.any_toList]; kernel_rfl
theorem goes4 : false = Rows.deskNoneRow.goesBy Tryz.prog := goesBy_none rfl goesAny
end Go.Proofs.YtkcaanbphpcgaaaGreatDoor.Dn
