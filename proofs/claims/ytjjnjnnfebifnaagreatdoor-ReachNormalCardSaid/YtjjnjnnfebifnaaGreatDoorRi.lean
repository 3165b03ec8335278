import Derived.Test.YtjjnjnnfebifnaaGreatDoorRh
set_option linter.all false
namespace Go.Proofs.YtjjnjnnfebifnaaGreatDoor.Rn
open Go.RowKit Go.Proofs.YtjjnjnnfebifnaaGreatDoorW.PrintWords Go.Proofs.YtjjnjnnfebifnaaGreatDoorW.PrintLast Go.Proofs.YtjjnjnnfebifnaaGreatDoor.PReachNormal

set_option maxHeartbeats 8000000 in
set_option maxRecDepth 100000 in
theorem rshape_calls (x : S25) (A3 : Option Addr) (c3 : Nat) (A4 : Option Addr) (c4 : Nat) (A5 : Option Addr) (c5 : Nat) (w : World) (hf : fine x = true) (hL : Lay w x A3 c3 A4 c4 A5 c5) :
    Calls Tryz.prog 110 #[ag x A3 c3 A4 c4 A5 c5] w fun e w' => e = .returned (.bool (shpP x)) ∧ Below w.heap.size w w' := by
  have hu25 := Tryz.underlying25
  have HF := Aside0.mk hf
  have HL := Aside0.mk hL
  have hl3 : x.f3.length ≤ 12000 := (fine_len hf).2.1
  have hl4 : x.f4.length ≤ 12000 := (fine_len hf).2.2.1
  have hl5 : x.f5.length ≤ 12000 := (fine_len hf).2.2.2
  have HX := Aside0.mk (blk_new w (bx x A3 c3 A4 c4 A5 c5))
  have HB := Aside0.mk (bel_a w (bx x A3 c3 A4 c4 A5 c5))
  clear hf hL
  go_enter Tryz.func110, Tryz.ntmps110
  go_upto_region 1 with fail
  generalize w.alloc (bx x A3 c3 A4 c4 A5 c5) = W1 at HX HB ⊢
  have a2 := (blk_cell HX.out 2).trans rfl
  have a3 := (blk_cell HX.out 3).trans rfl
  have a4 := (blk_cell HX.out 4).trans rfl
  have a5 := (blk_cell HX.out 5).trans rfl
  go_quiet (fail)
  go_upto_region 2 with fail
  have HX2 : Aside0 ((W1.drewN nq).heap[w.heap.size]? = some (bx x A3 c3 A4 c4 A5 c5)) := ⟨HX.out⟩
  have HB2 := Aside0.mk (pw_below_drewN HB.out nq)
  clear a2 a3 a4 a5 HX HB
  generalize W1.drewN nq = W2 at HX2 HB2 ⊢
  have HL2 := Aside0.mk (HL.out.below HB2.out)
  have a0 := (blk_cell HX2.out 0).trans rfl
  have a1 := (blk_cell HX2.out 1).trans rfl
  have a3 := (blk_cell HX2.out 3).trans rfl
  have a4 := (blk_cell HX2.out 4).trans rfl
  go_cut [53] from 7 (fun v wc => v = .bool (preB x) ∧ Aside0 (wc.heap[w.heap.size]? = some (bx x A3 c3 A4 c4 A5 c5)) ∧ Aside0 (Below w.heap.size w wc))
  case first =>
    have hz3 : (x.f3.length : Int) ≤ 12000 := by omega
    cases hA : x.f4.all nmB <;> cases hB : x.f3.all nmB <;> cases hD : difG [] x.f3
    all_goals
      go_wp2_with (first
        | (go_at_call 177; with_reducible refine (rnames_calls A4 c4 x.f4 _ (by omega) HL2.out.g4).mono ?_; rintro e w1 ⟨rfl, hw⟩; obtain rfl := hw.symm)
        | (go_at_call 177; with_reducible refine (rnames_calls A3 c3 x.f3 _ (by omega) HL2.out.g3).mono ?_; rintro e w1 ⟨rfl, hw⟩; obtain rfl := hw.symm)
        | (go_at_call 59; with_reducible refine (rdiff_calls A3 c3 x.f3 _ (by omega) HL2.out.l3 HL2.out.g3).mono ?_; rintro e w3 ⟨rfl, hb⟩; have HB3 := Aside0.mk hb; clear hb; have HX3 := Aside0.mk (blk_below HX2.out HB3.out); have d0 := (blk_cell HX3.out 0).trans rfl; have d1 := (blk_cell HX3.out 1).trans rfl))
    all_goals go_meet
    all_goals first
      | exact ⟨by simp [preB, *] <;> (intros; omega), HX2, HB2⟩
      | exact ⟨by simp [preB, bne, *] <;> (intros; omega), HX3, ⟨below_step HB2.out HB3.out⟩⟩
  case rest =>
    clear HX2 HB2 a0 a1 a3 a4 HL2
    obtain ⟨rfl, HX, HB⟩ := hcut
    have a0 := (blk_cell HX.out 0).trans rfl
    have a1 := (blk_cell HX.out 1).trans rfl
    have a2 := (blk_cell HX.out 2).trans rfl
    cases hp : preB x
    · have HSH := Aside0.mk (show shpP x = kindB x by rw [← shape_eq HF.out, hp]; simp)
      have hk : x.f0 = 0 ∨ x.f0 = 1 ∨ x.f0 = 2 ∨ x.f0 = 3 ∨ x.f0 = 4 ∨ x.f0 = 5 ∨ x.f0 = 6 ∨ x.f0 = 7 ∨ x.f0 = 8 ∨ x.f0 = 9 ∨ x.f0 = 10 ∨ x.f0 = 11 ∨ (x.f0 ≠ 0 ∧ x.f0 ≠ 1 ∧ x.f0 ≠ 2 ∧ x.f0 ≠ 3 ∧ x.f0 ≠ 4 ∧ x.f0 ≠ 5 ∧ x.f0 ≠ 6 ∧ x.f0 ≠ 7 ∧ x.f0 ≠ 8 ∧ x.f0 ≠ 9 ∧ x.f0 ≠ 10 ∧ x.f0 ≠ 11) := by omega
      rcases hk with h | h | h | h | h | h | h | h | h | h | h | h | h
      · have HK := Aside0.mk h
        have e0 : (x.f0 == 0) = true := by rw [h]; rfl
        clear h
        cases hN : nmB x.f2
        all_goals go_wp2_with (first | (go_at_call 178; with_reducible refine (rname_calls _ _).mono ?_; rintro e w1 ⟨rfl, hw⟩; obtain rfl := hw.symm))
        all_goals go_ret
        all_goals first
          | exact ⟨ret_bool (by rw [HSH.out]; unfold kindB; rw [HK.out]; simp [*] <;> (intros; omega)), HB.out⟩
      · have HK := Aside0.mk h
        have e0 : (x.f0 == 0) = false := by rw [h]; rfl
        have e1 : (x.f0 == 1) = true := by rw [h]; rfl
        clear h
        cases hE : x.f2.toList.isEmpty
        all_goals go_wp2_with (first | (go_at_call 178; with_reducible refine (rname_calls _ _).mono ?_; rintro e w1 ⟨rfl, hw⟩; obtain rfl := hw.symm))
        all_goals go_ret
        all_goals first
          | exact ⟨ret_bool (by rw [HSH.out]; unfold kindB; rw [HK.out]; simp [*] <;> (intros; omega)), HB.out⟩
      · have HK := Aside0.mk h
        have e0 : (x.f0 == 0) = false := by rw [h]; rfl
        have e1 : (x.f0 == 1) = false := by rw [h]; rfl
        have e2 : (x.f0 == 2) = true := by rw [h]; rfl
        clear h
        cases hE : x.f2.toList.isEmpty
        all_goals go_wp2_with (first | (go_at_call 178; with_reducible refine (rname_calls _ _).mono ?_; rintro e w1 ⟨rfl, hw⟩; obtain rfl := hw.symm))
        all_goals go_ret
        all_goals first
          | exact ⟨ret_bool (by rw [HSH.out]; unfold kindB; rw [HK.out]; simp [*] <;> (intros; omega)), HB.out⟩
      · have HK := Aside0.mk h
        have e0 : (x.f0 == 0) = false := by rw [h]; rfl
        have e1 : (x.f0 == 1) = false := by rw [h]; rfl
        have e2 : (x.f0 == 2) = false := by rw [h]; rfl
        have e3 : (x.f0 == 3) = true := by rw [h]; rfl
        clear h
        cases hE : x.f2.toList.isEmpty
        all_goals go_wp2_with (first | (go_at_call 178; with_reducible refine (rname_calls _ _).mono ?_; rintro e w1 ⟨rfl, hw⟩; obtain rfl := hw.symm))
        all_goals go_ret
        all_goals first
          | exact ⟨ret_bool (by rw [HSH.out]; unfold kindB; rw [HK.out]; simp [*] <;> (intros; omega)), HB.out⟩
      · have HK := Aside0.mk h
        have e0 : (x.f0 == 0) = false := by rw [h]; rfl
        have e1 : (x.f0 == 1) = false := by rw [h]; rfl
        have e2 : (x.f0 == 2) = false := by rw [h]; rfl
        have e3 : (x.f0 == 3) = false := by rw [h]; rfl
        have e4 : (x.f0 == 4) = true := by rw [h]; rfl
        clear h
        cases hE : x.f2.toList.isEmpty
        all_goals go_wp2_with (first | (go_at_call 178; with_reducible refine (rname_calls _ _).mono ?_; rintro e w1 ⟨rfl, hw⟩; obtain rfl := hw.symm))
        all_goals go_ret
        all_goals first
          | exact ⟨ret_bool (by rw [HSH.out]; unfold kindB; rw [HK.out]; simp [*] <;> (intros; omega)), HB.out⟩
      · have HK := Aside0.mk h
        have e0 : (x.f0 == 0) = false := by rw [h]; rfl
        have e1 : (x.f0 == 1) = false := by rw [h]; rfl
        have e2 : (x.f0 == 2) = false := by rw [h]; rfl
        have e3 : (x.f0 == 3) = false := by rw [h]; rfl
        have e4 : (x.f0 == 4) = false := by rw [h]; rfl
        have e5 : (x.f0 == 5) = true := by rw [h]; rfl
        clear h
        cases hE : x.f2.toList.isEmpty
        all_goals go_wp2_with (first | (go_at_call 178; with_reducible refine (rname_calls _ _).mono ?_; rintro e w1 ⟨rfl, hw⟩; obtain rfl := hw.symm))
        all_goals go_ret
        all_goals first
          | exact ⟨ret_bool (by rw [HSH.out]; unfold kindB; rw [HK.out]; simp [*] <;> (intros; omega)), HB.out⟩
      · have HK := Aside0.mk h
        have e0 : (x.f0 == 0) = false := by rw [h]; rfl
        have e1 : (x.f0 == 1) = false := by rw [h]; rfl
        have e2 : (x.f0 == 2) = false := by rw [h]; rfl
        have e3 : (x.f0 == 3) = false := by rw [h]; rfl
        have e4 : (x.f0 == 4) = false := by rw [h]; rfl
        have e5 : (x.f0 == 5) = false := by rw [h]; rfl
        have e6 : (x.f0 == 6) = true := by rw [h]; rfl
        clear h
        cases hE : x.f2.toList.isEmpty
        all_goals go_wp2_with (first | (go_at_call 178; with_reducible refine (rname_calls _ _).mono ?_; rintro e w1 ⟨rfl, hw⟩; obtain rfl := hw.symm))
        all_goals go_ret
        all_goals first
          | exact ⟨ret_bool (by rw [HSH.out]; unfold kindB; rw [HK.out]; simp [*] <;> (intros; omega)), HB.out⟩
      · have HK := Aside0.mk h
        have e0 : (x.f0 == 0) = false := by rw [h]; rfl
        have e1 : (x.f0 == 1) = false := by rw [h]; rfl
        have e2 : (x.f0 == 2) = false := by rw [h]; rfl
        have e3 : (x.f0 == 3) = false := by rw [h]; rfl
        have e4 : (x.f0 == 4) = false := by rw [h]; rfl
        have e5 : (x.f0 == 5) = false := by rw [h]; rfl
        have e6 : (x.f0 == 6) = false := by rw [h]; rfl
        have e7 : (x.f0 == 7) = true := by rw [h]; rfl
        clear h
        cases hE : x.f2.toList.isEmpty
        all_goals go_wp2_with (first | (go_at_call 178; with_reducible refine (rname_calls _ _).mono ?_; rintro e w1 ⟨rfl, hw⟩; obtain rfl := hw.symm))
        all_goals go_ret
        all_goals first
          | exact ⟨ret_bool (by rw [HSH.out]; unfold kindB; rw [HK.out]; simp [*] <;> (intros; omega)), HB.out⟩
      · have HK := Aside0.mk h
        have e0 : (x.f0 == 0) = false := by rw [h]; rfl
        have e1 : (x.f0 == 1) = false := by rw [h]; rfl
        have e2 : (x.f0 == 2) = false := by rw [h]; rfl
        have e3 : (x.f0 == 3) = false := by rw [h]; rfl
        have e4 : (x.f0 == 4) = false := by rw [h]; rfl
        have e5 : (x.f0 == 5) = false := by rw [h]; rfl
        have e6 : (x.f0 == 6) = false := by rw [h]; rfl
        have e7 : (x.f0 == 7) = false := by rw [h]; rfl
        have e8 : (x.f0 == 8) = true := by rw [h]; rfl
        clear h
        cases hN : nmB x.f2
        all_goals go_wp2_with (first | (go_at_call 178; with_reducible refine (rname_calls _ _).mono ?_; rintro e w1 ⟨rfl, hw⟩; obtain rfl := hw.symm))
        all_goals go_ret
        all_goals first
          | exact ⟨ret_bool (by rw [HSH.out]; unfold kindB; rw [HK.out]; simp [*] <;> (intros; omega)), HB.out⟩
      · have HK := Aside0.mk h
        have e0 : (x.f0 == 0) = false := by rw [h]; rfl
        have e1 : (x.f0 == 1) = false := by rw [h]; rfl
        have e2 : (x.f0 == 2) = false := by rw [h]; rfl
        have e3 : (x.f0 == 3) = false := by rw [h]; rfl
        have e4 : (x.f0 == 4) = false := by rw [h]; rfl
        have e5 : (x.f0 == 5) = false := by rw [h]; rfl
        have e6 : (x.f0 == 6) = false := by rw [h]; rfl
        have e7 : (x.f0 == 7) = false := by rw [h]; rfl
        have e8 : (x.f0 == 8) = false := by rw [h]; rfl
        have e9 : (x.f0 == 9) = true := by rw [h]; rfl
        clear h
        cases hN : nmB x.f2
        all_goals go_wp2_with (first | (go_at_call 178; with_reducible refine (rname_calls _ _).mono ?_; rintro e w1 ⟨rfl, hw⟩; obtain rfl := hw.symm))
        all_goals go_ret
        all_goals first
          | exact ⟨ret_bool (by rw [HSH.out]; unfold kindB; rw [HK.out]; simp [*] <;> (intros; omega)), HB.out⟩
      · have HK := Aside0.mk h
        have e0 : (x.f0 == 0) = false := by rw [h]; rfl
        have e1 : (x.f0 == 1) = false := by rw [h]; rfl
        have e2 : (x.f0 == 2) = false := by rw [h]; rfl
        have e3 : (x.f0 == 3) = false := by rw [h]; rfl
        have e4 : (x.f0 == 4) = false := by rw [h]; rfl
        have e5 : (x.f0 == 5) = false := by rw [h]; rfl
        have e6 : (x.f0 == 6) = false := by rw [h]; rfl
        have e7 : (x.f0 == 7) = false := by rw [h]; rfl
        have e8 : (x.f0 == 8) = false := by rw [h]; rfl
        have e9 : (x.f0 == 9) = false := by rw [h]; rfl
        have e10 : (x.f0 == 10) = true := by rw [h]; rfl
        clear h
        cases hE : x.f2.toList.isEmpty
        all_goals go_wp2_with (first | (go_at_call 178; with_reducible refine (rname_calls _ _).mono ?_; rintro e w1 ⟨rfl, hw⟩; obtain rfl := hw.symm))
        all_goals go_ret
        all_goals first
          | exact ⟨ret_bool (by rw [HSH.out]; unfold kindB; rw [HK.out]; simp [*] <;> (intros; omega)), HB.out⟩
      · have HK := Aside0.mk h
        have e0 : (x.f0 == 0) = false := by rw [h]; rfl
        have e1 : (x.f0 == 1) = false := by rw [h]; rfl
        have e2 : (x.f0 == 2) = false := by rw [h]; rfl
        have e3 : (x.f0 == 3) = false := by rw [h]; rfl
        have e4 : (x.f0 == 4) = false := by rw [h]; rfl
        have e5 : (x.f0 == 5) = false := by rw [h]; rfl
        have e6 : (x.f0 == 6) = false := by rw [h]; rfl
        have e7 : (x.f0 == 7) = false := by rw [h]; rfl
        have e8 : (x.f0 == 8) = false := by rw [h]; rfl
        have e9 : (x.f0 == 9) = false := by rw [h]; rfl
        have e10 : (x.f0 == 10) = false := by rw [h]; rfl
        have e11 : (x.f0 == 11) = true := by rw [h]; rfl
        clear h
        cases hN : nmB x.f2
        all_goals go_wp2_with (first | (go_at_call 178; with_reducible refine (rname_calls _ _).mono ?_; rintro e w1 ⟨rfl, hw⟩; obtain rfl := hw.symm))
        all_goals go_ret
        all_goals first
          | exact ⟨ret_bool (by rw [HSH.out]; unfold kindB; rw [HK.out]; simp [*] <;> (intros; omega)), HB.out⟩
      · have HK := Aside0.mk h
        obtain ⟨h0, h1, h2, h3, h4, h5, h6, h7, h8, h9, h10, h11⟩ := h
        replace h0 : (x.f0 == 0) = false := by rw [beq_eq_false_iff_ne]; exact h0
        replace h1 : (x.f0 == 1) = false := by rw [beq_eq_false_iff_ne]; exact h1
        replace h2 : (x.f0 == 2) = false := by rw [beq_eq_false_iff_ne]; exact h2
        replace h3 : (x.f0 == 3) = false := by rw [beq_eq_false_iff_ne]; exact h3
        replace h4 : (x.f0 == 4) = false := by rw [beq_eq_false_iff_ne]; exact h4
        replace h5 : (x.f0 == 5) = false := by rw [beq_eq_false_iff_ne]; exact h5
        replace h6 : (x.f0 == 6) = false := by rw [beq_eq_false_iff_ne]; exact h6
        replace h7 : (x.f0 == 7) = false := by rw [beq_eq_false_iff_ne]; exact h7
        replace h8 : (x.f0 == 8) = false := by rw [beq_eq_false_iff_ne]; exact h8
        replace h9 : (x.f0 == 9) = false := by rw [beq_eq_false_iff_ne]; exact h9
        replace h10 : (x.f0 == 10) = false := by rw [beq_eq_false_iff_ne]; exact h10
        replace h11 : (x.f0 == 11) = false := by rw [beq_eq_false_iff_ne]; exact h11
        go_wp2_with fail
        go_ret
        exact ⟨ret_bool (by rw [HSH.out]; have := HK.out; unfold kindB; simp [this]), HB.out⟩
    · go_wp2_with fail
      go_ret
      exact ⟨ret_bool (by rw [← shape_eq HF.out, hp]; rfl), HB.out⟩
end Go.Proofs.YtjjnjnnfebifnaaGreatDoor.Rn
