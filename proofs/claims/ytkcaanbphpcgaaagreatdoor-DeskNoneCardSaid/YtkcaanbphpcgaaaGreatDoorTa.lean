import GoSem.Claims
import GoSem.ClaimLaidByText
import Derived.LaidByText
import Derived.KernelRfl
import Derived.Test.YtkcaanbphpcgaaaGreatDoorProg
import Derived.LaidByTextLater
import Derived.SevenTiedAt
import Derived.LaidSub
import Derived.LaidOnce
set_option linter.all false
namespace Go
/-- the places of a list at which a test holds -/
def idxs {α : Type} (p : α → Bool) : List α → Nat → List Nat
  | [], _ => []
  | x :: l, n => bif p x then n :: idxs p l (n + 1) else idxs p l (n + 1)

theorem idxs_range {α : Type} (p : α → Bool) : ∀ (l : List α) (n : Nat), (List.range' n l.length).filter (fun i => (l[i - n]?).any p) = idxs p l n
  | [], n => rfl
  | x :: l, n => by
    rw [List.length_cons, List.range'_succ, List.filter_cons]
    have e : (List.range' (n + 1) l.length).filter (fun i => ((x :: l)[i - n]?).any p) = (List.range' (n + 1) l.length).filter (fun i => (l[i - (n + 1)]?).any p) := by
      refine List.filter_congr (fun i hi => ?_)
      have : n + 1 ≤ i := (List.mem_range'_1.1 hi).1
      obtain ⟨j, rfl⟩ : ∃ j, i = n + 1 + j := ⟨i - (n + 1), by omega⟩
      rw [show n + 1 + j - n = j + 1 by omega, show n + 1 + j - (n + 1) = j by omega]
      rfl
    rw [e, idxs_range p l (n + 1)]
    simp only [Nat.sub_self, List.getElem?_cons_zero, Option.any_some]
    show _ = (bif p x then n :: idxs p l (n + 1) else idxs p l (n + 1))
    cases p x <;> rfl

def one? : List Nat → Option Nat
  | [i] => some i
  | _ => none

theorem funcNamed_idxs (P : Program) (name : String) : P.funcNamed name = one? (idxs (fun f : Func => f.name == name) P.funcs.toList 0) := by
  unfold Program.funcNamed one?
  have := idxs_range (fun f : Func => f.name == name) P.funcs.toList 0
  simp only [Nat.sub_zero, Array.length_toList, Array.getElem?_toList] at this
  rw [List.range_eq_range', this]
  rfl

theorem worded_list (P : Program) (w : String) : P.worded w = P.funcs.toList.any fun fn => fn.body.isNone && fn.name == w := by
  unfold Program.worded
  rw [Array.any_toList]
end Go
namespace Go.Proofs.YtkcaanbphpcgaaaGreatDoor.Dn
open Go
set_option maxRecDepth 100000
theorem hw : Tryz.prog.worded (varsWordLater true) = true := (worded_list _ _).trans (by kernel_rfl)
theorem hw' : Tryz.prog.worded (varsWordLater !true) = false := (worded_list _ _).trans (by kernel_rfl)
theorem hroot : Tryz.prog.worded rootWordLater = true := (worded_list _ _).trans (by kernel_rfl)
theorem vnamed : Tryz.prog.funcNamed "gosem.cut.vars" = some 799 := (funcNamed_idxs _ _).trans (by kernel_rfl)
theorem vid : varsId Tryz.prog = 799 := by unfold varsId; rw [vnamed]; rfl
end Go.Proofs.YtkcaanbphpcgaaaGreatDoor.Dn
