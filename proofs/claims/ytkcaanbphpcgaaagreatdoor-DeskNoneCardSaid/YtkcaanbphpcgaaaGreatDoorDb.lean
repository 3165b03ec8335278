import Derived.Test.YtkcaanbphpcgaaaGreatDoorDa
import Derived.Test.YtkcaanbphpcgaaaGreatDoorVf
set_option linter.all false
namespace Go.Proofs.YtkcaanbphpcgaaaGreatDoor.Dn
open Go.RowKit

theorem block_of_shapedOpen_int {P : Program} {w : World} {g : Nat} {t : TypeId} {zero : Array Value} {k : IntKind}
    (h : w.ShapedOpen P) (hg : g < P.globals.size)
    (h0 : ((begin P (fun _ _ => 0) default).world.heap[g]?).bind Obj.row? = some (zero, t)) (hz : zero.size = 1)
    (hb : P.buildable t = true) (hc : P.cellTypes P.depth t = some [t]) (hu : P.underlying t = some (.int k)) :
    ∃ m, w.heap[g]? = some (.cells #[.int k m] t) := by
  obtain ⟨cs, hh, hs, hr⟩ := h.1 g zero t hg h0
  obtain ⟨ts, hts, _, hall⟩ := hr hb
  rw [hc] at hts
  cases hts
  have h1 : 0 < cs.size := by omega
  obtain ⟨u, hu', hok⟩ := hall 0 cs[0] (by simp [h1])
  have : u = t := by simpa using hu'.symm
  subst this
  unfold Cell.ok at hok
  rw [hu] at hok
  have hcs : cs = #[cs[0]] := by
    refine Array.ext (by simp; omega) (fun i h1 h2 => ?_)
    have : i = 0 := by simp at h2; omega
    subst this; rfl
  cases hv : cs[0] <;> rw [hv] at hok <;> simp at hok
  case int k' n => exact ⟨n, by rw [hh, hcs, hv, hok.1]⟩

theorem good_of_shaped {w : World} (h : w.ShapedOpen Tryz.prog) : GoodW w := by
  obtain ⟨m, hm⟩ := block_of_shapedOpen_int (zero := #[.int .i64 0]) (t := 3) h (of_decide_eq_true (by kernel_rfl)) (show ((begin Tryz.prog (fun _ _ => 0) default).world.heap[1]?).bind Obj.row? = some (#[.int .i64 0], 3) by kernel_rfl) rfl (by kernel_rfl) (by kernel_rfl) Tryz.underlying3
  exact ⟨m, _, _, hm⟩

theorem alive_holds : AliveHolds := fun w hG => (Go.Ev.alive24.2.2 ⟨fun _ => none, w, hG⟩ w [] hG rfl).mono (by
  rintro e w' ⟨v', rfl, hv, hg⟩
  simp only [Go.Ev.R] at hv
  subst hv
  exact ⟨rfl, ⟨hg.wd.os, hg.wd.tape, hg.wd.out, hg.sz, hg.old⟩⟩)

theorem law_calls (s : ByteArray) (w : World) (hG : GoodW w) : Calls Tryz.prog 3 #[.string s] w fun e w' => e = .returned (.bool true) ∧ Below w.heap.size w w' :=
  none_calls alive_holds s w hG
end Go.Proofs.YtkcaanbphpcgaaaGreatDoor.Dn
