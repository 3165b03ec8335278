/- For every formula that is handed in, the call paraphrastlaw13.ReachNormal returns true, and the formula reads behind the call as it read before. Conditions: those of the given card alone (what the row's cells list: the five library variables start as the program's text lays them, which the card ties to that text); no further hypothesis. -/
import Derived.Test.YtjjnjnnfebifnaaGreatDoorRo
import Derived.Test.YtjjnjnnfebifnaaGreatDoorRl
import Derived.Test.YtjjnjnnfebifnaaGreatDoorV4
import Derived.Test.YtjjnjnnfebifnaaGreatDoorRz
import Derived.Test.YtjjnjnnfebifnaaGreatDoorRb
set_option linter.all false
namespace Go.Proofs.YtjjnjnnfebifnaaGreatDoor.Rn
open Go.RowKit Go.Proofs.YtjjnjnnfebifnaaGreatDoorW.PrintWords Go.Proofs.YtjjnjnnfebifnaaGreatDoorW.PrintLast Go.Proofs.YtjjnjnnfebifnaaGreatDoor.PReachNormal

theorem awake_calls (w : World) : Calls Tryz.prog 34 #[] w fun e w' => e = .returned (.bool true) ∧ Below w.heap.size w w' :=
  (Go.Ev.awake13.2.2 ⟨fun _ => none, w⟩ w [] rfl).mono (by
    rintro e w' ⟨v', rfl, hv, hg⟩
    simp only [Go.Ev.R] at hv
    subst hv
    exact ⟨rfl, ⟨hg.wd.os, hg.wd.tape, hg.wd.out, hg.sz, hg.old⟩⟩)

set_option maxHeartbeats 4000000 in
set_option maxRecDepth 100000 in
/-- the law's function -/
theorem rn_calls (ho : OneKid shpP) (x : S25) (A3 : Option Addr) (c3 : Nat) (A4 : Option Addr) (c4 : Nat) (A5 : Option Addr) (c5 : Nat) (w : World) (hf : fineB 140737488355328 x = true) (hL : Lay w x A3 c3 A4 c4 A5 c5) :
    Calls Tryz.prog 4 #[ag x A3 c3 A4 c4 A5 c5] w fun e w' => e = .returned (.bool true) ∧ Below w.heap.size w w' := by
  have hu25 := Tryz.underlying25
  have HX := Aside0.mk (blk_new w (bx x A3 c3 A4 c4 A5 c5))
  have HB := Aside0.mk (bel_a w (bx x A3 c3 A4 c4 A5 c5))
  have HL := Aside0.mk hL
  have H33 := Aside0.mk (great_calls x A3 c3 A4 c4 A5 c5 (w.alloc (bx x A3 c3 A4 c4 A5 c5)) hf (hL.below HB.out))
  have HGR := Aside0.mk (fun h : great x = false => cq_no x 0 0 h)
  have HO := Aside0.mk ho
  clear hf hL ho
  go_enter Tryz.func4, Tryz.ntmps4
  go_upto_region 1 with fail
  generalize w.alloc (bx x A3 c3 A4 c4 A5 c5) = W1 at HX HB H33 ⊢
  have a0 := (blk_cell HX.out 0).trans rfl
  have a1 := (blk_cell HX.out 1).trans rfl
  have a2 := (blk_cell HX.out 2).trans rfl
  have a3 := (blk_cell HX.out 3).trans rfl
  have a4 := (blk_cell HX.out 4).trans rfl
  have a5 := (blk_cell HX.out 5).trans rfl
  generalize great x = g at H33 HGR ⊢
  cases g
  · obtain ⟨g1, g2, hf⟩ := HGR.out rfl
    have hsz : size x ≤ 12000 := by omega
    have H35 : Aside0 (∀ w', Below w.heap.size w w' → Calls Tryz.prog 35 #[ag x A3 c3 A4 c4 A5 c5] w' fun e w'' => e = .returned (.tuple #[.bool (pvalid shpP x && (normF x && !pfB x [])), .int .i64 (if pvalid shpP x then 0 else 1)]) ∧ Below w'.heap.size w' w'') := ⟨fun w' hb => pNormal_calls HO.out x A3 c3 A4 c4 A5 c5 w' hf hsz (HL.out.below hb)⟩
    have H9 : Aside0 (∀ w', Below w.heap.size w w' → Calls Tryz.prog 9 #[ag x A3 c3 A4 c4 A5 c5] w' fun e w'' => e = .returned (.bool (pvalid shpP x)) ∧ Below w'.heap.size w' w'') := ⟨fun w' hb => rvalid_calls HO.out x A3 c3 A4 c4 A5 c5 w' hf hsz (HL.out.below hb)⟩
    have H36 : Aside0 (pvalid shpP x = true → ∀ w', Below w.heap.size w w' → Calls Tryz.prog 36 #[ag x A3 c3 A4 c4 A5 c5] w' fun e w'' => e = .returned (.bool (normF x && !pfB x [])) ∧ Below w'.heap.size w' w'') := ⟨fun hv w' hb => by
      have hsh := ((pvalid_iff shpP HO.out x).1 hv).2.2.1
      have := rNormal_calls HO.out x A3 c3 A4 c4 A5 c5 w' hf hsz hsh (HL.out.below hb)
      rw [norm_eq shpP HO.out x hsh] at this
      exact this⟩
    clear g1 g2 hf hsz HGR
    generalize (normF x && !pfB x []) = p at H35 H36
    generalize pvalid shpP x = v at H35 H9 H36
    cases v
    · go_wp2_with (first
        | (go_at_call 33; with_reducible refine H33.out.mono ?_; rintro e w1 ⟨rfl, hb⟩; have HB1 := Aside0.mk (below_step HB.out hb); have HX1 := Aside0.mk (blk_below HX.out hb); clear hb; have b0 := (blk_cell HX1.out 0).trans rfl; have b1 := (blk_cell HX1.out 1).trans rfl; have b2 := (blk_cell HX1.out 2).trans rfl; have b3 := (blk_cell HX1.out 3).trans rfl; have b4 := (blk_cell HX1.out 4).trans rfl; have b5 := (blk_cell HX1.out 5).trans rfl)
        | (go_at_call 35; with_reducible refine (H35.out _ HB1.out).mono ?_; rintro e w2 ⟨rfl, hb⟩; have HB2 := Aside0.mk (below_step HB1.out hb); have HX2 := Aside0.mk (blk_below HX1.out hb); clear hb; have d0 := (blk_cell HX2.out 0).trans rfl; have d1 := (blk_cell HX2.out 1).trans rfl; have d2 := (blk_cell HX2.out 2).trans rfl; have d3 := (blk_cell HX2.out 3).trans rfl; have d4 := (blk_cell HX2.out 4).trans rfl; have d5 := (blk_cell HX2.out 5).trans rfl)
        | (go_at_call 9; with_reducible refine (H9.out _ HB2.out).mono ?_; rintro e w3 ⟨rfl, hb⟩; have HB3 := Aside0.mk (below_step HB2.out hb); clear hb)
        | (go_at_call 34; with_reducible refine (awake_calls _).mono ?_; rintro e w4 ⟨rfl, hb⟩; have HB4 := Aside0.mk (below_step HB3.out hb); clear hb))
      go_ret
      exact ⟨rfl, HB4.out⟩
    · have H36' := Aside0.mk (H36.out rfl)
      clear H36
      cases p
      all_goals go_wp2_with (first
        | (go_at_call 33; with_reducible refine H33.out.mono ?_; rintro e w1 ⟨rfl, hb⟩; have HB1 := Aside0.mk (below_step HB.out hb); have HX1 := Aside0.mk (blk_below HX.out hb); clear hb; have b0 := (blk_cell HX1.out 0).trans rfl; have b1 := (blk_cell HX1.out 1).trans rfl; have b2 := (blk_cell HX1.out 2).trans rfl; have b3 := (blk_cell HX1.out 3).trans rfl; have b4 := (blk_cell HX1.out 4).trans rfl; have b5 := (blk_cell HX1.out 5).trans rfl)
        | (go_at_call 35; with_reducible refine (H35.out _ HB1.out).mono ?_; rintro e w2 ⟨rfl, hb⟩; have HB2 := Aside0.mk (below_step HB1.out hb); have HX2 := Aside0.mk (blk_below HX1.out hb); clear hb; have d0 := (blk_cell HX2.out 0).trans rfl; have d1 := (blk_cell HX2.out 1).trans rfl; have d2 := (blk_cell HX2.out 2).trans rfl; have d3 := (blk_cell HX2.out 3).trans rfl; have d4 := (blk_cell HX2.out 4).trans rfl; have d5 := (blk_cell HX2.out 5).trans rfl)
        | (go_at_call 9; with_reducible refine (H9.out _ HB2.out).mono ?_; rintro e w3 ⟨rfl, hb⟩; have HB3 := Aside0.mk (below_step HB2.out hb); have HX3 := Aside0.mk (blk_below HX2.out hb); clear hb; have f0 := (blk_cell HX3.out 0).trans rfl; have f1 := (blk_cell HX3.out 1).trans rfl; have f2 := (blk_cell HX3.out 2).trans rfl; have f3 := (blk_cell HX3.out 3).trans rfl; have f4 := (blk_cell HX3.out 4).trans rfl; have f5 := (blk_cell HX3.out 5).trans rfl)
        | (go_at_call 36; with_reducible refine (H36'.out _ HB3.out).mono ?_; rintro e w4 ⟨rfl, hb⟩; have HB4 := Aside0.mk (below_step HB3.out hb); clear hb)
        | (go_at_call 34; with_reducible refine (awake_calls _).mono ?_; rintro e w5 ⟨rfl, hb⟩; have HB5 := Aside0.mk (below_step HB4.out hb); clear hb))
      all_goals go_ret
      all_goals exact ⟨rfl, HB5.out⟩
  · clear HGR
    go_wp2_with (first
      | (go_at_call 33; with_reducible refine H33.out.mono ?_; rintro e w1 ⟨rfl, hb⟩; have HB1 := Aside0.mk (below_step HB.out hb); clear hb)
      | (go_at_call 34; with_reducible refine (awake_calls _).mono ?_; rintro e w2 ⟨rfl, hb⟩; have HB2 := Aside0.mk (below_step HB1.out hb); clear hb))
    go_ret
    exact ⟨rfl, HB2.out⟩
end Go.Proofs.YtjjnjnnfebifnaaGreatDoor.Rn
namespace Go.Proofs.YtjjnjnnfebifnaaGreatDoor.reachNormal
open Go.ChangeShapes Go.WideShapes Go.ChangeAt Go.RowKit
open Go.Proofs.YtjjnjnnfebifnaaGreatDoorW.PrintWords Go.Proofs.YtjjnjnnfebifnaaGreatDoorW.PrintLast Go.Proofs.YtjjnjnnfebifnaaGreatDoor.PReachNormal Go.Proofs.YtjjnjnnfebifnaaGreatDoor.Rn

/-- **The law's row, and its card.** -/
theorem walked : Walked := fun x A3 c3 A4 c4 A5 c5 w hf hL => rn_calls oneKid x A3 c3 A4 c4 A5 c5 w hf hL
theorem said : Rows.ReachNormalSaid := said_of walked
theorem card : Rows.ReachNormalCardSaid := card_of walked
#print axioms card
end Go.Proofs.YtjjnjnnfebifnaaGreatDoor.reachNormal
