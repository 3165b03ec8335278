import Derived.Test.YtjjnjnnfebifnaaGreatDoorRh
set_option linter.all false
namespace Go.Proofs.YtjjnjnnfebifnaaGreatDoor.Rn
open Go.RowKit Go.Proofs.YtjjnjnnfebifnaaGreatDoorW.PrintWords Go.Proofs.YtjjnjnnfebifnaaGreatDoorW.PrintLast Go.Proofs.YtjjnjnnfebifnaaGreatDoor.PReachNormal

theorem shapesL_at {l : List S25} {k : Nat} {y : S25} (h : l[k]? = some y) : shapesL shpP (l.drop k) = (shapes shpP y && shapesL shpP (l.drop (k + 1))) := by
  rw [drop_at h]; conv => lhs; unfold shapesL
theorem shapes_eq (x : S25) : shapes shpP x = (shpP x && shapesL shpP x.f5) := by cases x; conv => lhs; unfold shapes

/-- what is asked of the reference's shape -/
def ShapeAll : Prop := ∀ (x : S25) (A3 : Option Addr) (c3 : Nat) (A4 : Option Addr) (c4 : Nat) (A5 : Option Addr) (c5 : Nat) (w : World), fine x = true → Lay w x A3 c3 A4 c4 A5 c5 →
    Calls Tryz.prog 110 #[ag x A3 c3 A4 c4 A5 c5] w fun e w' => e = .returned (.bool (shpP x)) ∧ Below w.heap.size w w'
def ShapesOk (N : Nat) : Prop := ∀ (x : S25) (A3 : Option Addr) (c3 : Nat) (A4 : Option Addr) (c4 : Nat) (A5 : Option Addr) (c5 : Nat) (w : World), size x ≤ N → fine x = true → Lay w x A3 c3 A4 c4 A5 c5 →
    Calls Tryz.prog 49 #[ag x A3 c3 A4 c4 A5 c5] w fun e w' => e = .returned (.bool (shapes shpP x)) ∧ Below w.heap.size w w'

set_option maxHeartbeats 4000000 in
set_option maxRecDepth 100000 in
theorem rshapes_calls (HS : ShapeAll) (N : Nat) : ShapesOk N := by
  induction N with
  | zero => intro x A3 c3 A4 c4 A5 c5 w hn; cases x; unfold size at hn; omega
  | succ N ih =>
    intro x A3 c3 A4 c4 A5 c5 w hn hf hL
    have hu25 := Tryz.underlying25
    have HF := Aside0.mk hf
    have HL := Aside0.mk hL
    have HN := Aside0.mk hn
    have IH := Aside0.mk ih
    have HSA := Aside0.mk HS
    have hl5 : x.f5.length ≤ 12000 := (fine_len hf).2.2.2
    have HX := Aside0.mk (blk_new w (bx x A3 c3 A4 c4 A5 c5))
    have HB := Aside0.mk (bel_a w (bx x A3 c3 A4 c4 A5 c5))
    clear hf hL hn ih HS
    go_enter Tryz.func49, Tryz.ntmps49
    go_upto_region 1 with fail
    generalize w.alloc (bx x A3 c3 A4 c4 A5 c5) = W1 at HX HB ⊢
    go_wp2_with fail
    go_loopw [3] (fun i wr => ∃ k : Nat, k ≤ x.f5.length ∧ i = .int .i64 k ∧ Aside0 (wr.heap[w.heap.size]? = some (bx x A3 c3 A4 c4 A5 c5)) ∧ Aside0 (Below w.heap.size w wr) ∧ Aside0 (shapesL shpP x.f5 = shapesL shpP (x.f5.drop k))) (fun i _ => x.f5.length - (intOf i).toNat)
    case atStart => exact ⟨0, Nat.zero_le _, rfl, HX, HB, ⟨by rw [List.drop_zero]⟩⟩
    case round =>
      clear HX HB
      obtain ⟨k, hk, rfl, HX, HB, HI⟩ := hrel
      have a5 := (blk_cell HX.out 5).trans rfl
      by_cases hlt : k < x.f5.length
      · obtain ⟨y, ad, B3, e3, B4, e4, B5, e5, hx, rfl, h0, h1, h2, h3, h4, h5, hLy⟩ := kid_at (HL.out.below HB.out).g5 k hlt
        have HXX := Aside0.mk hx
        have hy := List.mem_of_getElem? hx
        have HIH := Aside0.mk (IH.out y B3 e3 B4 e4 B5 e5 wr (by have := size_mem hy; have := HN.out; omega) (fine_mem HF.out hy) hLy)
        clear hx hy hLy
        cases hs : shapes shpP y
        · rw [hs] at HIH
          go_wp2_with (first
            | (go_at_call 49; with_reducible refine HIH.out.mono ?_; rintro e w1 ⟨rfl, hb⟩; have HB1 := Aside0.mk hb; clear hb))
          go_ret
          exact ⟨ret_bool (by rw [shapes_eq, HI.out, shapesL_at HXX.out, hs]; simp), below_step HB.out HB1.out⟩
        · rw [hs] at HIH
          go_wp2_with (first
            | (go_at_call 49; with_reducible refine HIH.out.mono ?_; rintro e w1 ⟨rfl, hb⟩; have HB1 := Aside0.mk hb; clear hb))
          exact ⟨⟨k + 1, by omega, by go_num, ⟨blk_below HX.out HB1.out⟩, ⟨below_step HB.out HB1.out⟩, ⟨by rw [HI.out, shapesL_at HXX.out, hs]; rfl⟩⟩, by simp [intOf]; omega⟩
      · have a0 := (blk_cell HX.out 0).trans rfl
        have a1 := (blk_cell HX.out 1).trans rfl
        have a2 := (blk_cell HX.out 2).trans rfl
        have a3 := (blk_cell HX.out 3).trans rfl
        have a4 := (blk_cell HX.out 4).trans rfl
        have HSX := Aside0.mk (HSA.out x A3 c3 A4 c4 A5 c5 wr HF.out (HL.out.below HB.out))
        go_wp2_with (first
          | (go_at_call 110; with_reducible refine HSX.out.mono ?_; rintro e w1 ⟨rfl, hb⟩; have HB1 := Aside0.mk hb; clear hb))
        go_ret
        exact ⟨ret_bool (by rw [shapes_eq, HI.out, List.drop_eq_nil_of_le (by omega)]; simp [shapesL]), below_step HB.out HB1.out⟩
end Go.Proofs.YtjjnjnnfebifnaaGreatDoor.Rn
namespace Go.Proofs.YtjjnjnnfebifnaaGreatDoor.Rn
open Go.RowKit Go.Proofs.YtjjnjnnfebifnaaGreatDoorW.PrintWords Go.Proofs.YtjjnjnnfebifnaaGreatDoorW.PrintLast Go.Proofs.YtjjnjnnfebifnaaGreatDoor.PReachNormal

theorem rpos_zero {x : S25} {s : ByteArray} {odd part : Bool} (h : (x.f0 == 0) = true) : rpos s x odd part = (!(x.f2.toList == s.toList) || (!odd && !part)) := by
  obtain ⟨k, a, nm, vs, ar, ks⟩ := x
  simp only [beq_iff_eq] at h
  conv => lhs; unfold rpos
  rw [if_pos h, bytes_eq]
theorem rpos_bind {x : S25} {s : ByteArray} {odd part : Bool} (h0 : (x.f0 == 0) = false) (hb : bis x = true) (hn : (x.f2.toList == s.toList) = true) : rpos s x odd part = true := by
  obtain ⟨k, a, nm, vs, ar, ks⟩ := x
  simp only [beq_eq_false_iff_ne] at h0
  rw [bytes_eq] at hn
  simp only [decide_eq_true_eq] at hn
  conv => lhs; unfold rpos
  rw [if_neg h0, if_pos ⟨hb, hn⟩]
theorem rpos_kids {x : S25} {s : ByteArray} {odd part : Bool} (h0 : (x.f0 == 0) = false) (hb : bis x = false ∨ (x.f2.toList == s.toList) = false) : rpos s x odd part = rposL s x.f5 (if x.f0 = 3 then !odd else odd) (part || (x.f0 == 9)) := by
  obtain ⟨k, a, nm, vs, ar, ks⟩ := x
  simp only [beq_eq_false_iff_ne] at h0
  conv => lhs; unfold rpos
  rw [if_neg h0, if_neg]
  · rfl
  · rintro ⟨h1, h2⟩
    rcases hb with hb | hb
    · unfold bis at hb; rw [h1] at hb; cases hb
    · rw [bytes_eq] at hb; simp only [decide_eq_false_iff_not] at hb; exact hb h2
theorem rposL_at {s : ByteArray} {l : List S25} {k : Nat} {y : S25} {odd part : Bool} (h : l[k]? = some y) : rposL s (l.drop k) odd part = (rpos s y odd part && rposL s (l.drop (k + 1)) odd part) := by
  rw [drop_at h]; conv => lhs; unfold rposL

def RposOk (N : Nat) : Prop := ∀ (x : S25) (s : ByteArray) (odd part : Bool) (A3 : Option Addr) (c3 : Nat) (A4 : Option Addr) (c4 : Nat) (A5 : Option Addr) (c5 : Nat) (w : World), size x ≤ N → fine x = true → Lay w x A3 c3 A4 c4 A5 c5 →
    Calls Tryz.prog 113 #[ag x A3 c3 A4 c4 A5 c5, .string s, .bool odd, .bool part] w fun e w' => e = .returned (.bool (rpos s x odd part)) ∧ Below w.heap.size w w'

set_option maxHeartbeats 4000000 in
set_option maxRecDepth 100000 in
theorem rpos_calls (N : Nat) : RposOk N := by
  induction N with
  | zero => intro x s odd part A3 c3 A4 c4 A5 c5 w hn; cases x; unfold size at hn; omega
  | succ N ih =>
    intro x s odd part A3 c3 A4 c4 A5 c5 w hn hf hL
    have hu25 := Tryz.underlying25
    have HF := Aside0.mk hf
    have HL := Aside0.mk hL
    have HN := Aside0.mk hn
    have IH := Aside0.mk ih
    have hl5 : x.f5.length ≤ 12000 := (fine_len hf).2.2.2
    have HX := Aside0.mk (blk_new w (bx x A3 c3 A4 c4 A5 c5))
    have HB := Aside0.mk (bel_a w (bx x A3 c3 A4 c4 A5 c5))
    clear hf hL hn ih
    go_enter Tryz.func113, Tryz.ntmps113
    go_upto_region 1 with fail
    generalize w.alloc (bx x A3 c3 A4 c4 A5 c5) = W1 at HX HB ⊢
    have a0 := (blk_cell HX.out 0).trans rfl
    have a1 := (blk_cell HX.out 1).trans rfl
    have a2 := (blk_cell HX.out 2).trans rfl
    have a3 := (blk_cell HX.out 3).trans rfl
    have a4 := (blk_cell HX.out 4).trans rfl
    have a5 := (blk_cell HX.out 5).trans rfl
    cases e0 : (x.f0 == 0)
    · go_upto_region 4 with (first
        | (go_at_call 111; with_reducible refine (rbinds_calls x A3 c3 A4 c4 A5 c5 _).mono ?_; rintro e w1 ⟨rfl, hb⟩; have HB1 := Aside0.mk hb; clear hb))
      have HX1 := Aside0.mk (blk_below HX.out HB1.out)
      have HBB := Aside0.mk (below_step HB.out HB1.out)
      clear a0 a1 a2 a3 a4 a5 HX HB HB1
      have a2 := (blk_cell HX1.out 2).trans rfl
      by_cases hh : bis x = true ∧ (x.f2.toList == s.toList) = true
      · obtain ⟨hb1, hb2⟩ := hh
        go_wp2_with fail
        go_ret
        exact ⟨ret_bool (rpos_bind e0 hb1 hb2).symm, HBB.out⟩
      · have hh2 : bis x = false ∨ (x.f2.toList == s.toList) = false := by
          cases h1 : bis x
          · exact .inl rfl
          · cases h2 : (x.f2.toList == s.toList)
            · exact .inr rfl
            · exact (hh ⟨h1, h2⟩).elim
        have HK := Aside0.mk (fun odd part => rpos_kids (odd := odd) (part := part) e0 hh2)
        clear hh
        go_cut [9, 38] from 12 (fun v9 v wc => v = .bool false ∧ wc = w1)
        case first =>
          rcases hh2 with hh2 | hh2
          · go_wp2_with fail
            all_goals go_meet
            all_goals exact ⟨by first | rfl | simp [*], rfl⟩
          · go_wp2_with fail
            all_goals go_meet
            all_goals exact ⟨by first | rfl | simp [*], rfl⟩
        case rest =>
          obtain ⟨rfl, rfl⟩ := hcut
          clear hh2
          have a0 := (blk_cell HX1.out 0).trans rfl
          go_upto_if 41 with fail
          go_cut [2] from 12 (fun v wc' => v = .bool (if x.f0 = 3 then !odd else odd) ∧ wc' = wc)
          case first =>
            by_cases h3 : x.f0 = 3
            · have e3 : (x.f0 == 3) = true := by rw [h3]; rfl
              have H3 := Aside0.mk h3
              clear h3
              go_wp2_with fail
              go_meet
              exact ⟨by rw [if_pos H3.out], rfl⟩
            · have e3 : (x.f0 == 3) = false := by rw [beq_eq_false_iff_ne]; exact h3
              have H3 := Aside0.mk h3
              clear h3
              go_wp2_with fail
              go_meet
              exact ⟨by rw [if_neg H3.out], rfl⟩
          case rest =>
            obtain ⟨rfl, rfl⟩ := hcut
            have HO := Aside0.mk (HK.out odd part)
            clear HK
            generalize (if x.f0 = 3 then !odd else odd) = od at HO ⊢
            generalize hpt : (part || (x.f0 == 9)) = pt at HO
            have HPT := Aside0.mk hpt
            clear hpt a0 a2
            go_wp2_with fail
            go_loopw [11] (fun i wr => ∃ k : Nat, k ≤ x.f5.length ∧ i = .int .i64 k ∧ Aside0 (wr.heap[w.heap.size]? = some (bx x A3 c3 A4 c4 A5 c5)) ∧ Aside0 (Below w.heap.size w wr) ∧ Aside0 (rpos s x odd part = rposL s (x.f5.drop k) od pt)) (fun i _ => x.f5.length - (intOf i).toNat)
            case atStart => exact ⟨0, Nat.zero_le _, rfl, HX1, HBB, ⟨by rw [List.drop_zero]; exact HO.out⟩⟩
            case round =>
              clear HX1 HBB HO
              obtain ⟨k, hk, rfl, HX, HB, HI⟩ := hrel
              have a0 := (blk_cell HX.out 0).trans rfl
              have a5 := (blk_cell HX.out 5).trans rfl
              by_cases hlt : k < x.f5.length
              · obtain ⟨y, ad, B3, e3, B4, e4, B5, e5, hx, rfl, h0, h1, h2, h3, h4, h5, hLy⟩ := kid_at (HL.out.below HB.out).g5 k hlt
                have HXX := Aside0.mk hx
                have hy := List.mem_of_getElem? hx
                have HIH := Aside0.mk (IH.out y s od pt B3 e3 B4 e4 B5 e5 wr.drew (by have := size_mem hy; have := HN.out; omega) (fine_mem HF.out hy) (hLy.below ((Below.refl _ wr).drew)))
                clear hx hy hLy
                go_upto_region 11 with fail
                cases part
                · have hpt2 := HPT.out
                  rw [Bool.false_or] at hpt2
                  refine wp_region_still_tail 13 (by kernel_rfl) (by kernel_rfl) ?_
                  simp only [List.take_succ_cons, List.take_zero, List.drop_succ_cons, List.drop_zero]
                  change wpStill _ _ (World.drew wr) _ _ _
                  repeat still_step
                  refine wpStill_nil ?_
                  change wpList _ _ _ _ _ (World.drew wr)
                  cases hs : rpos s y od pt
                  · rw [hs] at HIH
                    go_wp2_with (first
                      | (go_at_call 113; with_reducible refine HIH.out.mono ?_; rintro e w3 ⟨rfl, hb⟩; have HB1 := Aside0.mk hb; clear hb))
                    go_ret
                    exact ⟨ret_bool (by rw [HI.out, rposL_at HXX.out, hs]; simp), below_step HB.out.drew HB1.out⟩
                  · rw [hs] at HIH
                    go_wp2_with (first
                      | (go_at_call 113; with_reducible refine HIH.out.mono ?_; rintro e w3 ⟨rfl, hb⟩; have HB1 := Aside0.mk hb; clear hb))
                    exact ⟨⟨k + 1, by omega, by go_num, ⟨blk_below (show (World.drew wr).heap[w.heap.size]? = _ from HX.out) HB1.out⟩, ⟨below_step HB.out.drew HB1.out⟩, ⟨by rw [HI.out, rposL_at HXX.out, hs]; rfl⟩⟩, by simp [intOf]; omega⟩
                · obtain rfl : pt = true := by have := HPT.out; rw [Bool.true_or] at this; exact this.symm
                  clear HPT
                  refine wp_region_still_tail 13 (by kernel_rfl) (by kernel_rfl) ?_
                  simp only [List.take_succ_cons, List.take_zero, List.drop_succ_cons, List.drop_zero]
                  change wpStill _ _ (World.drew wr) _ _ _
                  repeat still_step
                  refine wpStill_nil ?_
                  change wpList _ _ _ _ _ (World.drew wr)
                  cases hs : rpos s y od true
                  · rw [hs] at HIH
                    go_wp2_with (first
                      | (go_at_call 113; with_reducible refine HIH.out.mono ?_; rintro e w3 ⟨rfl, hb⟩; have HB1 := Aside0.mk hb; clear hb))
                    go_ret
                    exact ⟨ret_bool (by rw [HI.out, rposL_at HXX.out, hs]; simp), below_step HB.out.drew HB1.out⟩
                  · rw [hs] at HIH
                    go_wp2_with (first
                      | (go_at_call 113; with_reducible refine HIH.out.mono ?_; rintro e w3 ⟨rfl, hb⟩; have HB1 := Aside0.mk hb; clear hb))
                    exact ⟨⟨k + 1, by omega, by go_num, ⟨blk_below (show (World.drew wr).heap[w.heap.size]? = _ from HX.out) HB1.out⟩, ⟨below_step HB.out.drew HB1.out⟩, ⟨by rw [HI.out, rposL_at HXX.out, hs]; rfl⟩⟩, by simp [intOf]; omega⟩
              · go_wp2_with fail
                go_ret
                exact ⟨ret_bool (by rw [HI.out, List.drop_eq_nil_of_le (by omega)]; rfl), HB.out⟩
    · go_wp2_with fail
      all_goals go_ret
      all_goals exact ⟨ret_bool (by rw [rpos_zero e0]; simp [*]), HB.out⟩
end Go.Proofs.YtjjnjnnfebifnaaGreatDoor.Rn
namespace Go.Proofs.YtjjnjnnfebifnaaGreatDoor.Rn
open Go.RowKit Go.Proofs.YtjjnjnnfebifnaaGreatDoorW.PrintWords Go.Proofs.YtjjnjnnfebifnaaGreatDoorW.PrintLast Go.Proofs.YtjjnjnnfebifnaaGreatDoor.PReachNormal

set_option maxHeartbeats 1600000 in
set_option maxRecDepth 100000 in
theorem rPos_calls (x : S25) (s : ByteArray) (A3 : Option Addr) (c3 : Nat) (A4 : Option Addr) (c4 : Nat) (A5 : Option Addr) (c5 : Nat) (w : World) (hf : fine x = true) (hL : Lay w x A3 c3 A4 c4 A5 c5) :
    Calls Tryz.prog 58 #[ag x A3 c3 A4 c4 A5 c5, .string s] w fun e w' => e = .returned (.bool (rpos s x false false)) ∧ Below w.heap.size w w' := by
  have hu25 := Tryz.underlying25
  have HR := Aside0.mk (rpos_calls _ x s false false A3 c3 A4 c4 A5 c5 (w.alloc (bx x A3 c3 A4 c4 A5 c5)) (Nat.le_refl _) hf (lay_alloc hL _))
  clear hf hL
  go_enter Tryz.func58, Tryz.ntmps58
  go_wp2_with (first
    | (go_at_call 113; with_reducible refine HR.out.mono ?_; rintro e w3 ⟨rfl, hb⟩; have HB1 := Aside0.mk hb; clear hb))
  go_ret
  exact ⟨rfl, below_step (bel_a w _) HB1.out⟩

theorem rgrow_eq (x : S25) : rgrow x = ((!decide (x.f0 = 8) || rposL x.f2 (x.f5.take 1) false false) && rgrowL x.f5) := by cases x; conv => lhs; unfold rgrow
theorem rgrowL_at {l : List S25} {k : Nat} {y : S25} (h : l[k]? = some y) : rgrowL (l.drop k) = (rgrow y && rgrowL (l.drop (k + 1))) := by
  rw [drop_at h]; conv => lhs; unfold rgrowL

def GrowOk (N : Nat) : Prop := ∀ (x : S25) (A3 : Option Addr) (c3 : Nat) (A4 : Option Addr) (c4 : Nat) (A5 : Option Addr) (c5 : Nat) (w : World), size x ≤ N → fine x = true → shapes shpP x = true → Lay w x A3 c3 A4 c4 A5 c5 →
    Calls Tryz.prog 51 #[ag x A3 c3 A4 c4 A5 c5] w fun e w' => e = .returned (.bool (rgrow x)) ∧ Below w.heap.size w w'

set_option maxHeartbeats 4000000 in
set_option maxRecDepth 100000 in
theorem rgrow_calls (ho : OneKid shpP) (N : Nat) : GrowOk N := by
  induction N with
  | zero => intro x A3 c3 A4 c4 A5 c5 w hn; cases x; unfold size at hn; omega
  | succ N ih =>
    intro x A3 c3 A4 c4 A5 c5 w hn hf hsh hL
    have hu25 := Tryz.underlying25
    have HF := Aside0.mk hf
    have HL := Aside0.mk hL
    have HN := Aside0.mk hn
    have IH := Aside0.mk ih
    have HSH := Aside0.mk (shapes_kids hsh)
    have HO := Aside0.mk ho
    have hl5 : x.f5.length ≤ 12000 := (fine_len hf).2.2.2
    have HX := Aside0.mk (blk_new w (bx x A3 c3 A4 c4 A5 c5))
    have HB := Aside0.mk (bel_a w (bx x A3 c3 A4 c4 A5 c5))
    clear hf hL hn ih hsh ho
    go_enter Tryz.func51, Tryz.ntmps51
    go_upto_region 1 with fail
    generalize w.alloc (bx x A3 c3 A4 c4 A5 c5) = W1 at HX HB ⊢
    have a0 := (blk_cell HX.out 0).trans rfl
    go_cut [16] from 4 (fun v wc => v = .bool (decide (x.f0 = 8) && !rposL x.f2 (x.f5.take 1) false false) ∧ Aside0 (wc.heap[w.heap.size]? = some (bx x A3 c3 A4 c4 A5 c5)) ∧ Aside0 (Below w.heap.size w wc))
    case first =>
      by_cases hk8 : x.f0 = 8
      · have e8 : (x.f0 == 8) = true := by rw [hk8]; rfl
        obtain ⟨y, hy1⟩ := (HO.out x HSH.out.1).1 (by omega)
        have hy0 : x.f5[0]? = some y := by rw [hy1]; rfl
        have hl1 : 0 < x.f5.length := by rw [hy1]; simp
        have HP1 := Aside0.mk (show rposL x.f2 (x.f5.take 1) false false = rpos x.f2 y false false by rw [hy1]; simp [rposL])
        obtain ⟨y', ad, B3, e3, B4, e4, B5, e5, hx, rfl, h0, h1, h2, h3, h4, h5, hLy⟩ := kid_at (HL.out.below HB.out).g5 0 hl1
        obtain rfl : y' = y := by rw [hy0] at hx; exact (Option.some.inj hx).symm
        have HK8 := Aside0.mk hk8
        have HPC := Aside0.mk (rPos_calls y' x.f2 B3 e3 B4 e4 B5 e5 (W1.drew) (fine_mem HF.out (List.mem_of_getElem? hy0)) (hLy.below ((Below.refl _ W1).drew)))
        simp only [Nat.zero_mul, Addr.add_zero'] at h0 h1 h2 h3 h4 h5
        have a2 := (blk_cell HX.out 2).trans rfl
        have a5 := (blk_cell HX.out 5).trans rfl
        clear hx hy0 hy1 hLy hk8
        refine wp_region_still_tail 10 (by kernel_rfl) (by kernel_rfl) ?_
        simp only [List.take_succ_cons, List.take_zero, List.drop_succ_cons, List.drop_zero]
        change wpStill _ _ (World.drew W1) _ _ _
        repeat still_step
        refine wpStill_nil ?_
        change wpList _ _ _ _ _ (World.drew W1)
        go_wp2_with (first
          | (go_at_call 58; with_reducible refine HPC.out.mono ?_; rintro e w2 ⟨rfl, hb2⟩; have HB2 := Aside0.mk hb2; clear hb2))
        go_meet
        exact ⟨by rw [HP1.out]; simp [HK8.out], ⟨blk_below (show (World.drew W1).heap[w.heap.size]? = _ from HX.out) HB2.out⟩, ⟨below_step HB.out.drew HB2.out⟩⟩
      · have e8 : (x.f0 == 8) = false := by rw [beq_eq_false_iff_ne]; exact hk8
        have HK8 := Aside0.mk hk8
        clear hk8
        go_quiet (fail)
        go_wp2_with fail
        go_meet
        exact ⟨by simp [HK8.out], ⟨HX.out⟩, ⟨pw_below_drewN HB.out _⟩⟩
    case rest =>
      clear HX HB a0
      obtain ⟨rfl, HX, HB⟩ := hcut
      have HRG := Aside0.mk (rgrow_eq x)
      cases hq : (decide (x.f0 = 8) && !rposL x.f2 (x.f5.take 1) false false)
      · have HQ := Aside0.mk (show rgrow x = rgrowL x.f5 by rw [HRG.out]; cases h1 : decide (x.f0 = 8) <;> cases h2 : rposL x.f2 (x.f5.take 1) false false <;> rw [h1, h2] at hq <;> simp_all)
        go_wp2_with fail
        go_loopw [3] (fun i wr => ∃ k : Nat, k ≤ x.f5.length ∧ i = .int .i64 k ∧ Aside0 (wr.heap[w.heap.size]? = some (bx x A3 c3 A4 c4 A5 c5)) ∧ Aside0 (Below w.heap.size w wr) ∧ Aside0 (rgrow x = rgrowL (x.f5.drop k))) (fun i _ => x.f5.length - (intOf i).toNat)
        case atStart => exact ⟨0, Nat.zero_le _, rfl, HX, HB, ⟨by rw [List.drop_zero]; exact HQ.out⟩⟩
        case round =>
          clear HX HB HQ
          obtain ⟨k, hk, rfl, HX, HB, HI⟩ := hrel
          have a5 := (blk_cell HX.out 5).trans rfl
          by_cases hlt : k < x.f5.length
          · obtain ⟨y, ad, B3, e3, B4, e4, B5, e5, hx, rfl, h0, h1, h2, h3, h4, h5, hLy⟩ := kid_at (HL.out.below HB.out).g5 k hlt
            have HXX := Aside0.mk hx
            have hy := List.mem_of_getElem? hx
            have HIH := Aside0.mk (IH.out y B3 e3 B4 e4 B5 e5 wr (by have := size_mem hy; have := HN.out; omega) (fine_mem HF.out hy) (shapesL_mem HSH.out.2 hy) hLy)
            clear hx hy hLy
            cases hs : rgrow y
            · rw [hs] at HIH
              go_wp2_with (first
                | (go_at_call 51; with_reducible refine HIH.out.mono ?_; rintro e w1 ⟨rfl, hb⟩; have HB1 := Aside0.mk hb; clear hb))
              go_ret
              exact ⟨ret_bool (by rw [HI.out, rgrowL_at HXX.out, hs]; simp), below_step HB.out HB1.out⟩
            · rw [hs] at HIH
              go_wp2_with (first
                | (go_at_call 51; with_reducible refine HIH.out.mono ?_; rintro e w1 ⟨rfl, hb⟩; have HB1 := Aside0.mk hb; clear hb))
              exact ⟨⟨k + 1, by omega, by go_num, ⟨blk_below HX.out HB1.out⟩, ⟨below_step HB.out HB1.out⟩, ⟨by rw [HI.out, rgrowL_at HXX.out, hs]; rfl⟩⟩, by simp [intOf]; omega⟩
          · go_wp2_with fail
            go_ret
            exact ⟨ret_bool (by rw [HI.out, List.drop_eq_nil_of_le (by omega)]; rfl), HB.out⟩
      · go_wp2_with fail
        go_ret
        exact ⟨ret_bool (by rw [HRG.out]; cases h1 : decide (x.f0 = 8) <;> cases h2 : rposL x.f2 (x.f5.take 1) false false <;> rw [h1, h2] at hq <;> simp_all), HB.out⟩
end Go.Proofs.YtjjnjnnfebifnaaGreatDoor.Rn
namespace Go.Proofs.YtjjnjnnfebifnaaGreatDoor.Rn
open Go.RowKit Go.Proofs.YtjjnjnnfebifnaaGreatDoorW.PrintWords Go.Proofs.YtjjnjnnfebifnaaGreatDoorW.PrintLast Go.Proofs.YtjjnjnnfebifnaaGreatDoor.PReachNormal

mutual
theorem cnt_le : ∀ (F : Fm) (lv : Nat), (cnt F lv).1 ≤ size F
  | ⟨k, a, n, vs, ar, ks⟩, 0 => by unfold cnt size; simp only; omega
  | ⟨k, a, n, vs, ar, ks⟩, lv + 1 => by
    unfold cnt size
    have := cnt_leL ks lv
    simp only; omega
theorem cnt_leL : ∀ (l : List Fm) (lv : Nat), (cntL l lv).1 ≤ sizeL l
  | [], lv => by unfold cntL; exact Nat.zero_le _
  | f :: l, lv => by
    unfold cntL sizeL
    have h1 := cnt_le f lv
    have h2 := cnt_leL l lv
    simp only; omega
end
theorem cntL_at {l : List S25} {k : Nat} {y : S25} {lv : Nat} (h : l[k]? = some y) : cntL (l.drop k) lv = ((cnt y lv).1 + (cntL (l.drop (k + 1)) lv).1, max (cnt y lv).2 (cntL (l.drop (k + 1)) lv).2) := by
  rw [drop_at h]; conv => lhs; unfold cntL
theorem cntL_nil (l : Nat) : cntL [] l = (0, 0) := by unfold cntL; rfl
theorem cnt_zero (x : S25) : cnt x 0 = (1, 1) := by cases x; unfold cnt; rfl
theorem cnt_succ (x : S25) (l : Nat) : cnt x (l + 1) = (1 + (cntL x.f5 l).1, (cntL x.f5 l).2 + 1) := by cases x; conv => lhs; unfold cnt
theorem cnt_d (x : S25) (l : Nat) : (cnt x l).2 ≤ l + 1 := by rw [cnt_deep]; omega
theorem size_eq' (x : S25) : size x = 1 + sizeL x.f5 := by cases x; conv => lhs; unfold size
theorem retII {b b' c c' : Int} (h1 : b = b') (h2 : c = c') : Ending.returned (.tuple #[.int .i64 b, .int .i64 c]) = .returned (.tuple #[.int .i64 b', .int .i64 c']) := by rw [h1, h2]

def CntR (N : Nat) : Prop := ∀ (x : S25) (lv : Nat) (A3 : Option Addr) (c3 : Nat) (A4 : Option Addr) (c4 : Nat) (A5 : Option Addr) (c5 : Nat) (w : World), size x ≤ N → size x ≤ 12000 → lv ≤ 61 → fine x = true → Lay w x A3 c3 A4 c4 A5 c5 →
    Calls Tryz.prog 48 #[ag x A3 c3 A4 c4 A5 c5, .int .i64 lv] w fun e w' => e = .returned (.tuple #[.int .i64 (cnt x lv).1, .int .i64 (cnt x lv).2]) ∧ Below w.heap.size w w'

set_option maxHeartbeats 4000000 in
set_option maxRecDepth 100000 in
theorem rcnt_calls (N : Nat) : CntR N := by
  induction N with
  | zero => intro x lv A3 c3 A4 c4 A5 c5 w hn; cases x; unfold size at hn; omega
  | succ N ih =>
    intro x lv A3 c3 A4 c4 A5 c5 w hn hsz hlv hf hL
    have hu25 := Tryz.underlying25
    have HF := Aside0.mk hf
    have HL := Aside0.mk hL
    have HN := Aside0.mk (And.intro hn hsz)
    have IH := Aside0.mk ih
    have hl5 : x.f5.length ≤ 12000 := (fine_len hf).2.2.2
    have HX := Aside0.mk (blk_new w (bx x A3 c3 A4 c4 A5 c5))
    have HB := Aside0.mk (bel_a w (bx x A3 c3 A4 c4 A5 c5))
    clear hf hL hn ih hsz
    cases lv with
    | zero =>
      have hz : ¬ (0 : Int) < ((0 : Nat) : Int) := by omega
      go_enter Tryz.func48, Tryz.ntmps48
      go_upto_region 1 with fail
      generalize w.alloc (bx x A3 c3 A4 c4 A5 c5) = W1 at HX HB ⊢
      have a5 := (blk_cell HX.out 5).trans rfl
      go_wp2_with fail
      go_loopw [6, 7, 8] (fun n m i wr => n = .int .i64 1 ∧ m = .int .i64 0 ∧ i = .int .i64 0 ∧ wr = W1) (fun _ _ _ _ => 0)
      case atStart => exact ⟨rfl, rfl, rfl, rfl⟩
      case round =>
        obtain ⟨rfl, rfl, rfl, rfl⟩ := hrel
        by_cases h0 : (0 : Int) < (x.f5.length : Int)
        · go_wp2_with fail
          go_ret2
          exact ⟨retII (by rw [cnt_zero]; rfl) (by rw [cnt_zero]; rfl), HB.out⟩
        · go_wp2_with fail
          go_ret2
          exact ⟨retII (by rw [cnt_zero]; rfl) (by rw [cnt_zero]; rfl), HB.out⟩
    | succ lv =>
      have hz : (0 : Int) < ((lv + 1 : Nat) : Int) := by omega
      go_enter Tryz.func48, Tryz.ntmps48
      go_upto_region 1 with fail
      generalize w.alloc (bx x A3 c3 A4 c4 A5 c5) = W1 at HX HB ⊢
      have a5 := (blk_cell HX.out 5).trans rfl
      go_wp2_with fail
      go_loopw [6, 7, 8] (fun n m i wr => ∃ (k n' m' : Nat), k ≤ x.f5.length ∧ n = .int .i64 n' ∧ m = .int .i64 m' ∧ i = .int .i64 k ∧ n' ≤ 12000 ∧ m' ≤ 62 ∧ Aside0 (n' + (cntL (x.f5.drop k) lv).1 = 1 + (cntL x.f5 lv).1) ∧ Aside0 (max m' (cntL (x.f5.drop k) lv).2 = (cntL x.f5 lv).2) ∧ Aside0 (wr.heap[w.heap.size]? = some (bx x A3 c3 A4 c4 A5 c5)) ∧ Aside0 (Below w.heap.size w wr)) (fun _ _ i _ => x.f5.length - (intOf i).toNat)
      case atStart => exact ⟨0, 1, 0, Nat.zero_le _, rfl, rfl, rfl, by omega, by omega, ⟨by rw [List.drop_zero]⟩, ⟨by rw [List.drop_zero]; omega⟩, HX, HB⟩
      case round =>
        clear HX HB a5
        obtain ⟨k, n', m', hk, rfl, rfl, rfl, hn', hm', HN1, HM1, HX, HB⟩ := hrel
        have a5 := (blk_cell HX.out 5).trans rfl
        by_cases hlt : k < x.f5.length
        · obtain ⟨y, ad, B3, e3, B4, e4, B5, e5, hx, rfl, h0, h1, h2, h3, h4, h5, hLy⟩ := kid_at (HL.out.below HB.out).g5 k hlt
          have HXX := Aside0.mk hx
          have hy := List.mem_of_getElem? hx
          have hsm := size_mem hy
          have hih := IH.out y lv B3 e3 B4 e4 B5 e5 wr (by have := HN.out.1; omega) (by have := HN.out.2; omega) (by omega) (fine_mem HF.out hy) hLy
          have hq := cntL_at (lv := lv) hx
          have HQ := Aside0.mk hq
          have hcn : (cnt y lv).1 ≤ 12000 := by have := cnt_le y lv; have := HN.out.2; omega
          have hcs : n' + (cnt y lv).1 ≤ 12000 := by
            have h1 := HN1.out; rw [hq] at h1; have h2 := cnt_leL x.f5 lv; have h3 := size_eq' x; have h4 := HN.out.2; simp only at h1; omega
          have hcd : (cnt y lv).2 ≤ 62 := by have := cnt_d y lv; omega
          have HIH := Aside0.mk hih
          clear hx hy hLy hih hq hsm
          generalize hcy : cnt y lv = cy at HIH HQ hcn hcs hcd
          obtain ⟨cy1, cy2⟩ := cy
          simp only at hcn hcs hcd HIH HQ
          clear hcy
          go_wp2_with (first
            | (go_at_call 48; with_reducible refine HIH.out.mono ?_; rintro e w1 ⟨rfl, hb⟩; have HB1 := Aside0.mk hb; clear hb))
          all_goals
            go_roundw
            case rel => exact ⟨_, _, _, ⟨k + 1, by omega, n' + cy1, rfl, max m' cy2, rfl, rfl, by omega, by omega, ⟨by rw [← HN1.out, HQ.out]; simp only; omega⟩, ⟨by rw [← HM1.out, HQ.out]; simp only; omega⟩, ⟨blk_below HX.out HB1.out⟩, ⟨below_step HB.out HB1.out⟩⟩, by go_num, by (congr 1; omega), by go_num⟩
            case measure => simp [intOf]; omega
        · go_wp2_with fail
          go_ret2
          exact ⟨retII (by rw [cnt_succ]; have := HN1.out; rw [List.drop_eq_nil_of_le (by omega)] at this; rw [cntL_nil] at this; simp only at this ⊢; omega) (by rw [cnt_succ]; have := HM1.out; rw [List.drop_eq_nil_of_le (by omega)] at this; rw [cntL_nil] at this; simp only at this ⊢; omega), HB.out⟩
end Go.Proofs.YtjjnjnnfebifnaaGreatDoor.Rn
namespace Go.Proofs.YtjjnjnnfebifnaaGreatDoor.Rn
open Go.RowKit Go.Proofs.YtjjnjnnfebifnaaGreatDoorW.PrintWords Go.Proofs.YtjjnjnnfebifnaaGreatDoorW.PrintLast Go.Proofs.YtjjnjnnfebifnaaGreatDoor.PReachNormal

theorem atom_or (x : S25) : atomF x = ((x.f0 == 0) || (x.f0 == 1) || (x.f0 == 2)) := by
  unfold atomF; rw [Bool.eq_iff_iff]; simp [or_assoc]
theorem three_or (x : S25) : decide (x.f0 = 3 ∨ x.f0 = 4 ∨ x.f0 = 5) = ((x.f0 == 3) || (x.f0 == 4) || (x.f0 == 5)) := by
  rw [Bool.eq_iff_iff]; simp [or_assoc]

set_option maxHeartbeats 1600000 in
set_option maxRecDepth 100000 in
theorem ratom_calls (x : S25) (A3 : Option Addr) (c3 : Nat) (A4 : Option Addr) (c4 : Nat) (A5 : Option Addr) (c5 : Nat) (w : World) :
    Calls Tryz.prog 146 #[ag x A3 c3 A4 c4 A5 c5] w fun e w' => e = .returned (.bool (atomF x)) ∧ Below w.heap.size w w' := by
  have hu25 := Tryz.underlying25
  go_enter Tryz.func146, Tryz.ntmps146
  go_wp2_with fail
  all_goals go_ret
  all_goals exact ⟨ret_bool (by rw [atom_or]; (try simp [*])), bel_a w _⟩

theorem bare_eq (x : S25) : bareF x = ((atomF x || ((x.f0 == 3) || (x.f0 == 4) || (x.f0 == 5))) && bareL x.f5) := by
  rw [← three_or]; cases x; rfl
theorem bareL_at {l : List S25} {k : Nat} {y : S25} (h : l[k]? = some y) : bareL (l.drop k) = (bareF y && bareL (l.drop (k + 1))) := by
  rw [drop_at h]; conv => lhs; unfold bareL
theorem rnormL_at {l : List S25} {k : Nat} {y : S25} (h : l[k]? = some y) : rnormL (l.drop k) = (rnorm y && rnormL (l.drop (k + 1))) := by
  rw [drop_at h]; conv => lhs; unfold rnormL

def BareOk (N : Nat) : Prop := ∀ (x : S25) (A3 : Option Addr) (c3 : Nat) (A4 : Option Addr) (c4 : Nat) (A5 : Option Addr) (c5 : Nat) (w : World), size x ≤ N → fine x = true → Lay w x A3 c3 A4 c4 A5 c5 →
    Calls Tryz.prog 147 #[ag x A3 c3 A4 c4 A5 c5] w fun e w' => e = .returned (.bool (bareF x)) ∧ Below w.heap.size w w'

set_option maxHeartbeats 4000000 in
set_option maxRecDepth 100000 in
theorem rbare_calls (N : Nat) : BareOk N := by
  induction N with
  | zero => intro x A3 c3 A4 c4 A5 c5 w hn; cases x; unfold size at hn; omega
  | succ N ih =>
    intro x A3 c3 A4 c4 A5 c5 w hn hf hL
    have hu25 := Tryz.underlying25
    have HF := Aside0.mk hf
    have HL := Aside0.mk hL
    have HN := Aside0.mk hn
    have IH := Aside0.mk ih
    have hl5 : x.f5.length ≤ 12000 := (fine_len hf).2.2.2
    have HX := Aside0.mk (blk_new w (bx x A3 c3 A4 c4 A5 c5))
    have HB := Aside0.mk (bel_a w (bx x A3 c3 A4 c4 A5 c5))
    clear hf hL hn ih
    go_enter Tryz.func147, Tryz.ntmps147
    go_upto_region 1 with fail
    generalize w.alloc (bx x A3 c3 A4 c4 A5 c5) = W1 at HX HB ⊢
    have a0 := (blk_cell HX.out 0).trans rfl
    have a1 := (blk_cell HX.out 1).trans rfl
    have a2 := (blk_cell HX.out 2).trans rfl
    have a3 := (blk_cell HX.out 3).trans rfl
    have a4 := (blk_cell HX.out 4).trans rfl
    have a5 := (blk_cell HX.out 5).trans rfl
    have HE := Aside0.mk (bare_eq x)
    go_cut [21] from 4 (fun v wc => v = .bool (!(atomF x || ((x.f0 == 3) || (x.f0 == 4) || (x.f0 == 5)))) ∧ Aside0 (wc.heap[w.heap.size]? = some (bx x A3 c3 A4 c4 A5 c5)) ∧ Aside0 (Below w.heap.size w wc))
    case first =>
      cases hat : atomF x
      all_goals have HAT := Aside0.mk hat
      · cases e3 : (x.f0 == 3) <;> cases e4 : (x.f0 == 4) <;> cases e5 : (x.f0 == 5)
        all_goals
          go_wp2_with (first
            | (go_at_call 146; with_reducible refine (ratom_calls x A3 c3 A4 c4 A5 c5 _).mono ?_; rw [hat]; rintro e w1 ⟨rfl, hb⟩; have HB1 := Aside0.mk hb; clear hb; have HX1 := Aside0.mk (blk_below HX.out HB1.out); have d0 := (blk_cell HX1.out 0).trans rfl))
        all_goals go_meet
        all_goals refine ⟨?_, HX1, ⟨below_step HB.out HB1.out⟩⟩
        all_goals (first | (simp [bne, HAT.out, e3, e4, e5]; done) | (exfalso; simp_all; done))
      · go_wp2_with (first
          | (go_at_call 146; with_reducible refine (ratom_calls x A3 c3 A4 c4 A5 c5 _).mono ?_; rw [hat]; rintro e w1 ⟨rfl, hb⟩; have HB1 := Aside0.mk hb; clear hb; have HX1 := Aside0.mk (blk_below HX.out HB1.out); have d0 := (blk_cell HX1.out 0).trans rfl))
        all_goals go_meet
        all_goals exact ⟨by simp [HAT.out], HX1, ⟨below_step HB.out HB1.out⟩⟩
    case rest =>
      clear HX HB a0 a1 a2 a3 a4 a5
      obtain ⟨rfl, HX, HB⟩ := hcut
      cases hq : (atomF x || ((x.f0 == 3) || (x.f0 == 4) || (x.f0 == 5)))
      · go_wp2_with fail
        go_ret
        exact ⟨ret_bool (by rw [HE.out, hq]; rfl), HB.out⟩
      · have HQ := Aside0.mk (show bareF x = bareL x.f5 by rw [HE.out, hq]; rfl)
        clear hq
        go_wp2_with fail
        go_loopw [3] (fun i wr => ∃ k : Nat, k ≤ x.f5.length ∧ i = .int .i64 k ∧ Aside0 (wr.heap[w.heap.size]? = some (bx x A3 c3 A4 c4 A5 c5)) ∧ Aside0 (Below w.heap.size w wr) ∧ Aside0 (bareF x = bareL (x.f5.drop k))) (fun i _ => x.f5.length - (intOf i).toNat)
        case atStart => exact ⟨0, Nat.zero_le _, rfl, HX, HB, ⟨by rw [List.drop_zero]; exact HQ.out⟩⟩
        case round =>
          clear HX HB HQ
          obtain ⟨k, hk, rfl, HX, HB, HI⟩ := hrel
          have a5 := (blk_cell HX.out 5).trans rfl
          by_cases hlt : k < x.f5.length
          · obtain ⟨y, ad, B3, e3, B4, e4, B5, e5, hx, rfl, h0, h1, h2, h3, h4, h5, hLy⟩ := kid_at (HL.out.below HB.out).g5 k hlt
            have HXX := Aside0.mk hx
            have hy := List.mem_of_getElem? hx
            have HIH := Aside0.mk (IH.out y B3 e3 B4 e4 B5 e5 wr (by have := size_mem hy; have := HN.out; omega) (fine_mem HF.out hy) hLy)
            clear hx hy hLy
            cases hs : bareF y
            · rw [hs] at HIH
              go_wp2_with (first
                | (go_at_call 147; with_reducible refine HIH.out.mono ?_; rintro e w1 ⟨rfl, hb⟩; have HB1 := Aside0.mk hb; clear hb))
              go_ret
              exact ⟨ret_bool (by rw [HI.out, bareL_at HXX.out, hs]; simp), below_step HB.out HB1.out⟩
            · rw [hs] at HIH
              go_wp2_with (first
                | (go_at_call 147; with_reducible refine HIH.out.mono ?_; rintro e w1 ⟨rfl, hb⟩; have HB1 := Aside0.mk hb; clear hb))
              go_roundw
              case rel =>
                (repeat apply Exists.intro)
                refine ⟨?rell, rfl⟩
                case rell => exact ⟨k + 1, by omega, by go_num, ⟨blk_below HX.out HB1.out⟩, ⟨below_step HB.out HB1.out⟩, ⟨by rw [HI.out, bareL_at HXX.out, hs]; rfl⟩⟩
              case measure => simp [intOf]; omega
          · go_wp2_with fail
            go_ret
            exact ⟨ret_bool (by rw [HI.out, List.drop_eq_nil_of_le (by omega)]; rfl), HB.out⟩
end Go.Proofs.YtjjnjnnfebifnaaGreatDoor.Rn
namespace Go.Proofs.YtjjnjnnfebifnaaGreatDoor.Rn
open Go.RowKit Go.Proofs.YtjjnjnnfebifnaaGreatDoorW.PrintWords Go.Proofs.YtjjnjnnfebifnaaGreatDoorW.PrintLast Go.Proofs.YtjjnjnnfebifnaaGreatDoor.PReachNormal

theorem rnorm_low {x : S25} (h : x.f0 = 0 ∨ x.f0 = 1 ∨ x.f0 = 2) : rnorm x = true := by cases x; unfold rnorm; rw [if_pos h]
theorem rnorm_not {x y : S25} (h : x.f0 = 3) (hy : x.f5 = [y]) : rnorm x = atomF y := by
  obtain ⟨k, a, n, vs, ar, ks⟩ := x
  simp only at h hy
  subst h hy
  unfold rnorm; simp
theorem rnorm_some {x y : S25} (h : x.f0 = 10) (hy : x.f5 = [y]) : rnorm x = bareF y := by
  obtain ⟨k, a, n, vs, ar, ks⟩ := x
  simp only at h hy
  subst h hy
  unfold rnorm; simp
theorem rnorm_kids {x : S25} (h : x.f0 = 4 ∨ x.f0 = 5 ∨ x.f0 = 6) : rnorm x = rnormL x.f5 := by
  obtain ⟨k, a, n, vs, ar, ks⟩ := x
  simp only at h
  conv => lhs; unfold rnorm
  rw [if_neg (by omega), if_neg (by omega), if_neg (by omega), if_pos h]
theorem rnorm_rest {x : S25} (h : ¬ (x.f0 = 0 ∨ x.f0 = 1 ∨ x.f0 = 2)) (h3 : x.f0 ≠ 3) (h10 : x.f0 ≠ 10) (h4 : ¬ (x.f0 = 4 ∨ x.f0 = 5 ∨ x.f0 = 6)) : rnorm x = false := by
  obtain ⟨k, a, n, vs, ar, ks⟩ := x
  simp only at h h3 h10 h4
  unfold rnorm
  rw [if_neg h, if_neg h3, if_neg h10, if_neg h4]

def RnormOk (N : Nat) : Prop := ∀ (x : S25) (A3 : Option Addr) (c3 : Nat) (A4 : Option Addr) (c4 : Nat) (A5 : Option Addr) (c5 : Nat) (w : World), size x ≤ N → fine x = true → shapes shpP x = true → Lay w x A3 c3 A4 c4 A5 c5 →
    Calls Tryz.prog 81 #[ag x A3 c3 A4 c4 A5 c5] w fun e w' => e = .returned (.bool (rnorm x)) ∧ Below w.heap.size w w'

set_option maxHeartbeats 4000000 in
set_option maxRecDepth 100000 in
theorem rnorm_calls (ho : OneKid shpP) (N : Nat) : RnormOk N := by
  induction N with
  | zero => intro x A3 c3 A4 c4 A5 c5 w hn; cases x; unfold size at hn; omega
  | succ N ih =>
    intro x A3 c3 A4 c4 A5 c5 w hn hf hsh hL
    have hu25 := Tryz.underlying25
    have HF := Aside0.mk hf
    have HL := Aside0.mk hL
    have HN := Aside0.mk hn
    have IH := Aside0.mk ih
    have HSH := Aside0.mk (shapes_kids hsh)
    have HO := Aside0.mk ho
    have hl5 : x.f5.length ≤ 12000 := (fine_len hf).2.2.2
    have HX := Aside0.mk (blk_new w (bx x A3 c3 A4 c4 A5 c5))
    have HB := Aside0.mk (bel_a w (bx x A3 c3 A4 c4 A5 c5))
    clear hf hL hn ih hsh ho
    go_enter Tryz.func81, Tryz.ntmps81
    go_upto_region 1 with fail
    generalize w.alloc (bx x A3 c3 A4 c4 A5 c5) = W1 at HX HB ⊢
    have a0 := (blk_cell HX.out 0).trans rfl
    have hk : x.f0 = 0 ∨ x.f0 = 1 ∨ x.f0 = 2 ∨ x.f0 = 3 ∨ x.f0 = 10 ∨ x.f0 = 4 ∨ x.f0 = 5 ∨ x.f0 = 6 ∨ (x.f0 ≠ 0 ∧ x.f0 ≠ 1 ∧ x.f0 ≠ 2 ∧ x.f0 ≠ 3 ∧ x.f0 ≠ 10 ∧ x.f0 ≠ 4 ∧ x.f0 ≠ 5 ∧ x.f0 ≠ 6) := by omega
    rcases hk with h | h | h | h | h | h | h | h | h
    · have HK := Aside0.mk h
      have e0 : (x.f0 == 0) = true := by rw [h]; rfl
      clear h
      go_wp2_with fail
      go_ret
      exact ⟨ret_bool (rnorm_low (by have := HK.out; omega)).symm, HB.out⟩
    · have HK := Aside0.mk h
      have e0 : (x.f0 == 0) = false := by rw [h]; rfl
      have e1 : (x.f0 == 1) = true := by rw [h]; rfl
      clear h
      go_wp2_with fail
      go_ret
      exact ⟨ret_bool (rnorm_low (by have := HK.out; omega)).symm, HB.out⟩
    · have HK := Aside0.mk h
      have e0 : (x.f0 == 0) = false := by rw [h]; rfl
      have e1 : (x.f0 == 1) = false := by rw [h]; rfl
      have e2 : (x.f0 == 2) = true := by rw [h]; rfl
      clear h
      go_wp2_with fail
      go_ret
      exact ⟨ret_bool (rnorm_low (by have := HK.out; omega)).symm, HB.out⟩
    · have HK := Aside0.mk h
      have e0 : (x.f0 == 0) = false := by rw [h]; rfl
      have e1 : (x.f0 == 1) = false := by rw [h]; rfl
      have e2 : (x.f0 == 2) = false := by rw [h]; rfl
      have e3 : (x.f0 == 3) = true := by rw [h]; rfl
      clear h
      obtain ⟨y, hy1⟩ := (HO.out x HSH.out.1).1 (by have := HK.out; omega)
      have hy0 : x.f5[0]? = some y := by rw [hy1]; rfl
      have hl1 : 0 < x.f5.length := by rw [hy1]; simp
      obtain ⟨y', ad, B3, e3, B4, e4, B5, e5, hx, rfl, h0, h1, h2, h3, h4, h5, hLy⟩ := kid_at (HL.out.below HB.out).g5 0 hl1
      obtain rfl : y' = y := by rw [hy0] at hx; exact (Option.some.inj hx).symm
      have HFY := Aside0.mk (fine_mem HF.out (List.mem_of_getElem? hy0))
      have HLY := Aside0.mk hLy
      have HRN := Aside0.mk (rnorm_not HK.out hy1)
      simp only [Nat.zero_mul, Addr.add_zero'] at h0 h1 h2 h3 h4 h5
      have a5 := (blk_cell HX.out 5).trans rfl
      clear hx hy0 hy1 hLy
      go_wp2_with (first
        | (go_at_call 146; with_reducible refine (ratom_calls y' B3 e3 B4 e4 B5 e5 _).mono ?_; rintro e w2 ⟨rfl, hb2⟩; have HB2 := Aside0.mk hb2; clear hb2))
      go_ret
      exact ⟨ret_bool HRN.out.symm, below_step HB.out HB2.out⟩
    · have HK := Aside0.mk h
      have e0 : (x.f0 == 0) = false := by rw [h]; rfl
      have e1 : (x.f0 == 1) = false := by rw [h]; rfl
      have e2 : (x.f0 == 2) = false := by rw [h]; rfl
      have e3 : (x.f0 == 3) = false := by rw [h]; rfl
      have e10 : (x.f0 == 10) = true := by rw [h]; rfl
      clear h
      obtain ⟨y, hy1⟩ := (HO.out x HSH.out.1).1 (by have := HK.out; omega)
      have hy0 : x.f5[0]? = some y := by rw [hy1]; rfl
      have hl1 : 0 < x.f5.length := by rw [hy1]; simp
      obtain ⟨y', ad, B3, e3, B4, e4, B5, e5, hx, rfl, h0, h1, h2, h3, h4, h5, hLy⟩ := kid_at (HL.out.below HB.out).g5 0 hl1
      obtain rfl : y' = y := by rw [hy0] at hx; exact (Option.some.inj hx).symm
      have HFY := Aside0.mk (fine_mem HF.out (List.mem_of_getElem? hy0))
      have HLY := Aside0.mk hLy
      have HPC := Aside0.mk (rbare_calls _ y' B3 e3 B4 e4 B5 e5 W1 (Nat.le_refl _) HFY.out HLY.out)
      have HRN := Aside0.mk (rnorm_some HK.out hy1)
      simp only [Nat.zero_mul, Addr.add_zero'] at h0 h1 h2 h3 h4 h5
      have a5 := (blk_cell HX.out 5).trans rfl
      clear hx hy0 hy1 hLy
      go_wp2_with (first
        | (go_at_call 147; with_reducible refine HPC.out.mono ?_; rintro e w2 ⟨rfl, hb2⟩; have HB2 := Aside0.mk hb2; clear hb2))
      go_ret
      exact ⟨ret_bool HRN.out.symm, below_step HB.out HB2.out⟩
    · have HK := Aside0.mk h
      have e0 : (x.f0 == 0) = false := by rw [h]; rfl
      have e1 : (x.f0 == 1) = false := by rw [h]; rfl
      have e2 : (x.f0 == 2) = false := by rw [h]; rfl
      have e3 : (x.f0 == 3) = false := by rw [h]; rfl
      have e10 : (x.f0 == 10) = false := by rw [h]; rfl
      have e4 : (x.f0 == 4) = true := by rw [h]; rfl
      clear h
      have HQ := Aside0.mk (rnorm_kids (show x.f0 = 4 ∨ x.f0 = 5 ∨ x.f0 = 6 by have := HK.out; omega))
      go_wp2_with fail
      go_loopw [3] (fun i wr => ∃ k : Nat, k ≤ x.f5.length ∧ i = .int .i64 k ∧ Aside0 (wr.heap[w.heap.size]? = some (bx x A3 c3 A4 c4 A5 c5)) ∧ Aside0 (Below w.heap.size w wr) ∧ Aside0 (rnorm x = rnormL (x.f5.drop k))) (fun i _ => x.f5.length - (intOf i).toNat)
      case atStart => exact ⟨0, Nat.zero_le _, rfl, HX, HB, ⟨by rw [List.drop_zero]; exact HQ.out⟩⟩
      case round =>
        clear HX HB HQ a0
        obtain ⟨k, hk, rfl, HX, HB, HI⟩ := hrel
        have a5 := (blk_cell HX.out 5).trans rfl
        by_cases hlt : k < x.f5.length
        · obtain ⟨y, ad, B3, e3', B4, e4', B5, e5', hx, rfl, h0, h1, h2, h3, h4, h5, hLy⟩ := kid_at (HL.out.below HB.out).g5 k hlt
          have HXX := Aside0.mk hx
          have hy := List.mem_of_getElem? hx
          have HIH := Aside0.mk (IH.out y B3 e3' B4 e4' B5 e5' wr (by have := size_mem hy; have := HN.out; omega) (fine_mem HF.out hy) (shapesL_mem HSH.out.2 hy) hLy)
          clear hx hy hLy
          cases hs : rnorm y
          · rw [hs] at HIH
            go_wp2_with (first
              | (go_at_call 81; with_reducible refine HIH.out.mono ?_; rintro e w1 ⟨rfl, hb⟩; have HB1 := Aside0.mk hb; clear hb))
            go_ret
            exact ⟨ret_bool (by rw [HI.out, rnormL_at HXX.out, hs]; simp), below_step HB.out HB1.out⟩
          · rw [hs] at HIH
            go_wp2_with (first
              | (go_at_call 81; with_reducible refine HIH.out.mono ?_; rintro e w1 ⟨rfl, hb⟩; have HB1 := Aside0.mk hb; clear hb))
            exact ⟨⟨k + 1, by omega, by go_num, ⟨blk_below HX.out HB1.out⟩, ⟨below_step HB.out HB1.out⟩, ⟨by rw [HI.out, rnormL_at HXX.out, hs]; rfl⟩⟩, by simp [intOf]; omega⟩
        · go_wp2_with fail
          go_ret
          exact ⟨ret_bool (by rw [HI.out, List.drop_eq_nil_of_le (by omega)]; rfl), HB.out⟩
    · have HK := Aside0.mk h
      have e0 : (x.f0 == 0) = false := by rw [h]; rfl
      have e1 : (x.f0 == 1) = false := by rw [h]; rfl
      have e2 : (x.f0 == 2) = false := by rw [h]; rfl
      have e3 : (x.f0 == 3) = false := by rw [h]; rfl
      have e10 : (x.f0 == 10) = false := by rw [h]; rfl
      have e4 : (x.f0 == 4) = false := by rw [h]; rfl
      have e5 : (x.f0 == 5) = true := by rw [h]; rfl
      clear h
      have HQ := Aside0.mk (rnorm_kids (show x.f0 = 4 ∨ x.f0 = 5 ∨ x.f0 = 6 by have := HK.out; omega))
      go_wp2_with fail
      go_loopw [3] (fun i wr => ∃ k : Nat, k ≤ x.f5.length ∧ i = .int .i64 k ∧ Aside0 (wr.heap[w.heap.size]? = some (bx x A3 c3 A4 c4 A5 c5)) ∧ Aside0 (Below w.heap.size w wr) ∧ Aside0 (rnorm x = rnormL (x.f5.drop k))) (fun i _ => x.f5.length - (intOf i).toNat)
      case atStart => exact ⟨0, Nat.zero_le _, rfl, HX, HB, ⟨by rw [List.drop_zero]; exact HQ.out⟩⟩
      case round =>
        clear HX HB HQ a0
        obtain ⟨k, hk, rfl, HX, HB, HI⟩ := hrel
        have a5 := (blk_cell HX.out 5).trans rfl
        by_cases hlt : k < x.f5.length
        · obtain ⟨y, ad, B3, e3', B4, e4', B5, e5', hx, rfl, h0, h1, h2, h3, h4, h5, hLy⟩ := kid_at (HL.out.below HB.out).g5 k hlt
          have HXX := Aside0.mk hx
          have hy := List.mem_of_getElem? hx
          have HIH := Aside0.mk (IH.out y B3 e3' B4 e4' B5 e5' wr (by have := size_mem hy; have := HN.out; omega) (fine_mem HF.out hy) (shapesL_mem HSH.out.2 hy) hLy)
          clear hx hy hLy
          cases hs : rnorm y
          · rw [hs] at HIH
            go_wp2_with (first
              | (go_at_call 81; with_reducible refine HIH.out.mono ?_; rintro e w1 ⟨rfl, hb⟩; have HB1 := Aside0.mk hb; clear hb))
            go_ret
            exact ⟨ret_bool (by rw [HI.out, rnormL_at HXX.out, hs]; simp), below_step HB.out HB1.out⟩
          · rw [hs] at HIH
            go_wp2_with (first
              | (go_at_call 81; with_reducible refine HIH.out.mono ?_; rintro e w1 ⟨rfl, hb⟩; have HB1 := Aside0.mk hb; clear hb))
            exact ⟨⟨k + 1, by omega, by go_num, ⟨blk_below HX.out HB1.out⟩, ⟨below_step HB.out HB1.out⟩, ⟨by rw [HI.out, rnormL_at HXX.out, hs]; rfl⟩⟩, by simp [intOf]; omega⟩
        · go_wp2_with fail
          go_ret
          exact ⟨ret_bool (by rw [HI.out, List.drop_eq_nil_of_le (by omega)]; rfl), HB.out⟩
    · have HK := Aside0.mk h
      have e0 : (x.f0 == 0) = false := by rw [h]; rfl
      have e1 : (x.f0 == 1) = false := by rw [h]; rfl
      have e2 : (x.f0 == 2) = false := by rw [h]; rfl
      have e3 : (x.f0 == 3) = false := by rw [h]; rfl
      have e10 : (x.f0 == 10) = false := by rw [h]; rfl
      have e4 : (x.f0 == 4) = false := by rw [h]; rfl
      have e5 : (x.f0 == 5) = false := by rw [h]; rfl
      have e6 : (x.f0 == 6) = true := by rw [h]; rfl
      clear h
      have HQ := Aside0.mk (rnorm_kids (show x.f0 = 4 ∨ x.f0 = 5 ∨ x.f0 = 6 by have := HK.out; omega))
      go_wp2_with fail
      go_loopw [3] (fun i wr => ∃ k : Nat, k ≤ x.f5.length ∧ i = .int .i64 k ∧ Aside0 (wr.heap[w.heap.size]? = some (bx x A3 c3 A4 c4 A5 c5)) ∧ Aside0 (Below w.heap.size w wr) ∧ Aside0 (rnorm x = rnormL (x.f5.drop k))) (fun i _ => x.f5.length - (intOf i).toNat)
      case atStart => exact ⟨0, Nat.zero_le _, rfl, HX, HB, ⟨by rw [List.drop_zero]; exact HQ.out⟩⟩
      case round =>
        clear HX HB HQ a0
        obtain ⟨k, hk, rfl, HX, HB, HI⟩ := hrel
        have a5 := (blk_cell HX.out 5).trans rfl
        by_cases hlt : k < x.f5.length
        · obtain ⟨y, ad, B3, e3', B4, e4', B5, e5', hx, rfl, h0, h1, h2, h3, h4, h5, hLy⟩ := kid_at (HL.out.below HB.out).g5 k hlt
          have HXX := Aside0.mk hx
          have hy := List.mem_of_getElem? hx
          have HIH := Aside0.mk (IH.out y B3 e3' B4 e4' B5 e5' wr (by have := size_mem hy; have := HN.out; omega) (fine_mem HF.out hy) (shapesL_mem HSH.out.2 hy) hLy)
          clear hx hy hLy
          cases hs : rnorm y
          · rw [hs] at HIH
            go_wp2_with (first
              | (go_at_call 81; with_reducible refine HIH.out.mono ?_; rintro e w1 ⟨rfl, hb⟩; have HB1 := Aside0.mk hb; clear hb))
            go_ret
            exact ⟨ret_bool (by rw [HI.out, rnormL_at HXX.out, hs]; simp), below_step HB.out HB1.out⟩
          · rw [hs] at HIH
            go_wp2_with (first
              | (go_at_call 81; with_reducible refine HIH.out.mono ?_; rintro e w1 ⟨rfl, hb⟩; have HB1 := Aside0.mk hb; clear hb))
            exact ⟨⟨k + 1, by omega, by go_num, ⟨blk_below HX.out HB1.out⟩, ⟨below_step HB.out HB1.out⟩, ⟨by rw [HI.out, rnormL_at HXX.out, hs]; rfl⟩⟩, by simp [intOf]; omega⟩
        · go_wp2_with fail
          go_ret
          exact ⟨ret_bool (by rw [HI.out, List.drop_eq_nil_of_le (by omega)]; rfl), HB.out⟩
    · have HK := Aside0.mk h
      obtain ⟨h0, h1, h2, h3, h10, h4, h5, h6⟩ := h
      replace h0 : (x.f0 == 0) = false := by rw [beq_eq_false_iff_ne]; exact h0
      replace h1 : (x.f0 == 1) = false := by rw [beq_eq_false_iff_ne]; exact h1
      replace h2 : (x.f0 == 2) = false := by rw [beq_eq_false_iff_ne]; exact h2
      replace h3 : (x.f0 == 3) = false := by rw [beq_eq_false_iff_ne]; exact h3
      replace h10 : (x.f0 == 10) = false := by rw [beq_eq_false_iff_ne]; exact h10
      replace h4 : (x.f0 == 4) = false := by rw [beq_eq_false_iff_ne]; exact h4
      replace h5 : (x.f0 == 5) = false := by rw [beq_eq_false_iff_ne]; exact h5
      replace h6 : (x.f0 == 6) = false := by rw [beq_eq_false_iff_ne]; exact h6
      go_wp2_with fail
      go_ret
      exact ⟨ret_bool (rnorm_rest (by have := HK.out; omega) (by have := HK.out; omega) (by have := HK.out; omega) (by have := HK.out; omega)).symm, HB.out⟩
end Go.Proofs.YtjjnjnnfebifnaaGreatDoor.Rn
