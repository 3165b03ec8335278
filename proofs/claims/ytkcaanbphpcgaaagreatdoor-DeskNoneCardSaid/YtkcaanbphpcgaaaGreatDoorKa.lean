import GoSem.ClaimJoined
import GoSem.ClaimStop
import GoSem.ClaimDataLaid
import Derived.Test.YtkcaanbphpcgaaaGreatDoorProg
import Derived.KernelRfl
set_option linter.all false
namespace Go
theorem range_parts {p : Nat → Bool} {n : Nat} (a b : Nat) (hn : n = a + b) (h1 : (List.range' 0 a).all p = true) (h2 : (List.range' a b).all p = true) : (List.range n).all p = true := by
  subst hn
  rw [List.range_eq_range', ← List.range'_append_1, List.all_append, Nat.zero_add, h1, h2]; rfl
theorem laidOut_parts {P : Program} {n : Nat} (hs : (P.types.size == n) = true) (a b : Nat) (hn : n = a + b) (h1 : (List.range' 0 a).all (rowFine P) = true) (h2 : (List.range' a b).all (rowFine P) = true)
    (hg : P.globals.all (fun g => decide (g.type < P.types.size)) = true) (hf : (P.funcs.toList.all fun f => f.params.all fun t => decide (t < n)) = true) : laidOutB P = true := by
  have hs := eq_of_beq hs
  unfold laidOutB
  rw [hg, ← Array.all_toList, hs, range_parts a b hn h1 h2, hf]; rfl
theorem mapsRowed_parts {P : Program} {n : Nat} (hs : (P.types.size == n) = true) (a b : Nat) (hn : n = a + b)
    (h1 : ((List.range' 0 a).all fun t => match P.underlying t with | some (.map _ e) => decide (e < n) | _ => true) = true)
    (h2 : ((List.range' a b).all fun t => match P.underlying t with | some (.map _ e) => decide (e < n) | _ => true) = true) : mapsRowed P = true := by
  have hs := eq_of_beq hs
  unfold mapsRowed
  rw [hs]
  exact range_parts a b hn h1 h2
theorem stopsHeard_list {P : Program} (h : (P.funcs.toList.all fun fn => (Stop.rowOf fn).isNone || !fn.norace) = true) : P.stopsHeard = true := by
  unfold Program.stopsHeard
  rw [← Array.all_toList]; exact h
end Go
namespace Go.Proofs.YtkcaanbphpcgaaaGreatDoor.Dn
theorem types889 : (Tryz.prog.types.size == 889) = true := by kernel_rfl
theorem fine1 : (List.range' 0 500).all (rowFine Tryz.prog) = true := by kernel_rfl
theorem fine2 : (List.range' 500 389).all (rowFine Tryz.prog) = true := by kernel_rfl
theorem globs : Tryz.prog.globals.all (fun g => decide (g.type < Tryz.prog.types.size)) = true := by kernel_rfl
theorem pars : (Tryz.prog.funcs.toList.all fun f => f.params.all fun t => decide (t < 889)) = true := by kernel_rfl
theorem laidOut : laidOutB Tryz.prog = true := laidOut_parts types889 500 389 rfl fine1 fine2 globs pars
theorem heard : Tryz.prog.stopsHeard = true := stopsHeard_list (by kernel_rfl)
end Go.Proofs.YtkcaanbphpcgaaaGreatDoor.Dn
