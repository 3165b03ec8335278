import Derived.Test.YtkcaanbphpcgaaaGreatDoorProg
import Derived.Below
import Derived.Laws.Rows
import Derived.WalkKit
import Derived.KernelRfl
import Derived.RowKit3
import Derived.Deep.LoopGhost
import Derived.Deep.QuietTactic
import Derived.BigQuiet
import Derived.WideLaws
import Derived.Deep.DeepCutAuto
import Derived.Deep.CutBlock
import Derived.Deep.RegionHeld3
import Derived.RowKit
set_option linter.all false
namespace Go.Proofs.YtkcaanbphpcgaaaGreatDoor.Dn
open Go.RowKit

/-- A fact that the walk's simp does not look into. -/
structure Aside0 (p : Prop) : Prop where mk :: (out : p)
theorem ret_bool {a b : Bool} (h : a = b) : Ending.returned (.bool a) = .returned (.bool b) := by rw [h]
theorem below_alloc {w W : World} (h : Below w.heap.size w W) (o : Obj) : Below w.heap.size w (W.alloc o) := h.alloc h.size o
theorem pw_below_drewN {B : Nat} {w W : World} (h : Below B w W) (n : Nat) : Below B w (W.drewN n) := ⟨h.os, h.tape, h.output, h.size, h.block⟩
theorem below_step {w W w2 : World} (h : Below w.heap.size w W) (k : Below W.heap.size W w2) : Below w.heap.size w w2 :=
  ⟨k.os.trans h.os, k.tape.trans h.tape, k.output.trans h.output, Nat.le_trans h.size k.size, fun b hb => (k.block b (Nat.lt_of_lt_of_le hb h.size)).trans (h.block b hb)⟩
theorem blk_lt {w : World} {g : Nat} {o : Obj} (h : w.heap[g]? = some o) : g < w.heap.size := (Array.getElem?_eq_some_iff.1 h).1
theorem blk_cell {w : World} {g : Nat} {t : TypeId} {cs : Array Value} (h : w.heap[g]? = some (.cells cs t (0, 0))) (i : Nat) : w.cell? ⟨g, i, none⟩ = cs[i]? := cell_of_row w g i cs t (0, 0) h
theorem blk_new (w : World) (o : Obj) : (w.alloc o).heap[w.heap.size]? = some o := heap_alloc_new w o
theorem blk_below {w w1 : World} {g : Nat} {o : Obj} (h : w.heap[g]? = some o) (hb : Below w.heap.size w w1) : w1.heap[g]? = some o := (hb.block g (blk_lt h)).trans h

/-- the nil desk, and a desk whose first cell is false -/
inductive Dsk (w : World) : Value → Prop
  | nil : Dsk w (.pointer none)
  | zero {b : Nat} (h : w.cell? ⟨b, 0, none⟩ = some (.bool false)) : Dsk w (.pointer (some ⟨b, 0, none⟩))

set_option maxHeartbeats 800000 in
set_option maxRecDepth 100000 in
theorem do_calls {d : Value} {w : World} (hd : Dsk w d) (s : ByteArray) : Calls Tryz.prog 5 #[d, .string s] w fun e w' => e = .returned (.tuple #[.string ⟨#[]⟩, .int .i64 7]) ∧ Below w.heap.size w w' := by
  have hu27 := Tryz.underlying27
  cases hd with
  | nil =>
    go_enter Tryz.func5, Tryz.ntmps5
    go_wp2
    go_ret2
    exact ⟨rfl, by first | exact Below.refl _ _ | exact pw_below_drewN (Below.refl _ _) _⟩
  | zero h =>
    go_enter Tryz.func5, Tryz.ntmps5
    go_wp2
    go_ret2
    exact ⟨rfl, by first | exact Below.refl _ _ | exact pw_below_drewN (Below.refl _ _) _⟩

set_option maxHeartbeats 800000 in
set_option maxRecDepth 100000 in
theorem script_calls {d : Value} {w : World} (hd : Dsk w d) (a : Option Addr) (n c : Nat) : Calls Tryz.prog 6 #[d, .slice a n c] w fun e w' => e = .returned (.tuple #[.slice none 0 0, .int .i64 7]) ∧ Below w.heap.size w w' := by
  have hu27 := Tryz.underlying27
  cases hd with
  | nil =>
    go_enter Tryz.func6, Tryz.ntmps6
    go_wp2
    go_ret2
    exact ⟨rfl, by first | exact Below.refl _ _ | exact pw_below_drewN (Below.refl _ _) _⟩
  | zero h =>
    go_enter Tryz.func6, Tryz.ntmps6
    go_wp2
    go_ret2
    exact ⟨rfl, by first | exact Below.refl _ _ | exact pw_below_drewN (Below.refl _ _) _⟩

set_option maxHeartbeats 800000 in
set_option maxRecDepth 100000 in
theorem clone_calls {d : Value} {w : World} (hd : Dsk w d) : Calls Tryz.prog 7 #[d] w fun e w' => e = .returned (.pointer none) ∧ Below w.heap.size w w' := by
  have hu27 := Tryz.underlying27
  cases hd with
  | nil =>
    go_enter Tryz.func7, Tryz.ntmps7
    go_wp2
    go_ret
    exact ⟨rfl, by first | exact Below.refl _ _ | exact pw_below_drewN (Below.refl _ _) _⟩
  | zero h =>
    go_enter Tryz.func7, Tryz.ntmps7
    go_wp2
    go_ret
    exact ⟨rfl, by first | exact Below.refl _ _ | exact pw_below_drewN (Below.refl _ _) _⟩
end Go.Proofs.YtkcaanbphpcgaaaGreatDoor.Dn
namespace Go.Proofs.YtkcaanbphpcgaaaGreatDoor.Dn
open Go.RowKit

/-- the variable internal/bytealg.MaxLen holds an int -/
def GoodW (w : World) : Prop := ∃ (m : Int) (T : TypeId) (fr : Nat × Nat), w.heap[1]? = some (.cells #[.int .i64 m] T fr)
theorem GoodW.below {w w' : World} (h : GoodW w) (hb : Below w.heap.size w w') : GoodW w' := by
  obtain ⟨m, T, fr, h⟩ := h
  exact ⟨m, T, fr, blk_below h hb⟩

def AliveHolds : Prop := ∀ w : World, GoodW w → Calls Tryz.prog 4 #[] w fun e w' => e = .returned (.bool true) ∧ Below w.heap.size w w'

/-- the two desks -/
structure Two (b : Nat) (w : World) : Prop where
  zero : ∃ cs : Array Value, cs[0]? = some (.bool false) ∧ w.heap[b]? = some (.cells cs 27 (0, 0))
  row : w.heap[b + 1]? = some (.cells #[.pointer none, .pointer (some ⟨b, 0, none⟩)] 23 (0, 0))

theorem Two.below {b : Nat} {w w' : World} (h : Two b w) (hb : Below w.heap.size w w') : Two b w' := by
  obtain ⟨⟨cs, h1, h2⟩, h3⟩ := h
  exact ⟨⟨cs, h1, blk_below h2 hb⟩, blk_below h3 hb⟩
theorem Two.at_ {b : Nat} {w : World} (h : Two b w) (k : Nat) (hk : k < 2) : ∃ d, ∀ w', Below w.heap.size w w' → w'.cell? ⟨b + 1, k, none⟩ = some d ∧ Dsk w' d := by
  suffices H : ∃ d, ∀ w' : World, Two b w' → w'.cell? ⟨b + 1, k, none⟩ = some d ∧ Dsk w' d by
    obtain ⟨d, H⟩ := H
    exact ⟨d, fun w' hb => H w' (h.below hb)⟩
  obtain ⟨⟨cs, h1, h2⟩, h3⟩ := h
  have : k = 0 ∨ k = 1 := by omega
  rcases this with rfl | rfl
  · exact ⟨_, fun w' h' => ⟨(blk_cell h'.row 0).trans rfl, .nil⟩⟩
  · exact ⟨_, fun w' h' => ⟨(blk_cell h'.row 1).trans rfl, by obtain ⟨cs', g1, g2⟩ := h'.zero; exact .zero ((blk_cell g2 0).trans g1)⟩⟩

set_option maxHeartbeats 4000000 in
set_option maxRecDepth 100000 in
theorem none_calls (HA : AliveHolds) (s : ByteArray) (w : World) (hG : GoodW w) :
    Calls Tryz.prog 3 #[.string s] w fun e w' => e = .returned (.bool true) ∧ Below w.heap.size w w' := by
  have hu27 := Tryz.underlying27
  have HA' : Aside0 (∀ w : World, GoodW w → Calls Tryz.prog 4 #[] w fun e w' => e = .returned (.bool true) ∧ Below w.heap.size w w') := ⟨HA⟩
  clear HA
  have HG := Aside0.mk hG
  clear hG
  go_enter Tryz.func3, Tryz.ntmps3
  go_wp2_with (first
    | (go_at_call 4; with_reducible refine (HA'.out _ HG.out).mono ?_; rintro e w1 ⟨rfl, hb⟩; have HB := Aside0.mk hb; clear hb)
    | fail)
  · go_ret
    exact ⟨rfl, HB.out⟩
  · go_loopw [5] (fun i wr => ∃ k : Nat, k ≤ 2 ∧ i = .int .i64 k ∧ Aside0 (Below w.heap.size w wr) ∧ Aside0 (Two w.heap.size wr)) (fun i _ => 2 - (intOf i).toNat)
    case atStart =>
      refine ⟨0, by omega, rfl, ⟨below_alloc (below_alloc (Below.refl _ _) _) _⟩, ⟨⟨⟨_, rfl, blk_below (blk_new _ _) (below_alloc (Below.refl _ _) _)⟩, ?_⟩⟩⟩
      have := blk_new (w.alloc (Obj.cells #[Value.bool false, Value.map none, Value.slice none 0 0] 27)) (Obj.cells #[Value.pointer none, Value.pointer (some { block := w.heap.size, off := 0 })] 23)
      simpa using this
    case round =>
      obtain ⟨k, hk, rfl, hB, hT⟩ := hrel
      by_cases hlt : k < 2
      · obtain ⟨d, hD⟩ := hT.out.at_ k hlt
        have HD := Aside0.mk hD
        have c0 := (hD _ (Below.refl _ _)).1
        clear hD
        go_wp2_with (first
          | (go_at_call 5; (refine (do_calls (HD.out _ (Below.refl _ _)).2 s).mono ?_); rintro e w1 ⟨rfl, hb⟩; have HB1 := Aside0.mk hb; have c1 := (HD.out _ hb).1; clear hb)
          | (go_at_call 6; (with_reducible refine (script_calls (HD.out _ (below_alloc HB1.out _)).2 _ _ _).mono ?_); rintro e w2 ⟨rfl, hb⟩; have HB2 := Aside0.mk (below_step (below_alloc HB1.out _) hb); have c2 := (HD.out _ HB2.out).1; clear hb)
          | (go_at_call 6; (with_reducible refine (script_calls (HD.out _ HB2.out).2 _ _ _).mono ?_); rintro e w3 ⟨rfl, hb⟩; have HB3 := Aside0.mk (below_step HB2.out hb); have c3 := (HD.out _ HB3.out).1; clear hb)
          | (go_at_call 7; (with_reducible refine (clone_calls (HD.out _ HB3.out).2).mono ?_); rintro e w4 ⟨rfl, hb⟩; have HB4 := Aside0.mk (below_step HB3.out hb); clear hb)
          | fail)
        exact ⟨⟨k + 1, by omega, by go_num, ⟨below_step hB.out HB4.out⟩, ⟨hT.out.below HB4.out⟩⟩, by simp [intOf]; omega⟩
      · go_wp2_with (first
          | (go_at_call 4; with_reducible refine (HA'.out _ (HG.out.below hB.out)).mono ?_; rintro e w1 ⟨rfl, hb⟩; have HB := Aside0.mk (below_step hB.out hb); clear hb)
          | fail)
        go_ret
        exact ⟨rfl, HB.out⟩
end Go.Proofs.YtkcaanbphpcgaaaGreatDoor.Dn
