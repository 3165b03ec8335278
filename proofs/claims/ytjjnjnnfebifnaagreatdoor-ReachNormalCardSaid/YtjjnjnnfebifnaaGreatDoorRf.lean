import Derived.Deep.RegionHeldLaw
import Derived.Deep.AppendLies
import Derived.Deep.DrawnRows
import Derived.Test.YtjjnjnnfebifnaaGreatDoorRc
import Derived.Test.YtjjnjnnfebifnaaGreatDoorRd
import Derived.Test.YtjjnjnnfebifnaaGreatDoorRe
set_option linter.all false
namespace Go.Proofs.YtjjnjnnfebifnaaGreatDoor.Rn
open Go.RowKit Go.Proofs.YtjjnjnnfebifnaaGreatDoorW.PrintWords Go.Proofs.YtjjnjnnfebifnaaGreatDoorW.PrintLast Go.Proofs.YtjjnjnnfebifnaaGreatDoor.PReachNormal
open Go.Ev (setB setB_size setB_same setB_ne)

set_option maxHeartbeats 8000000 in
set_option maxRecDepth 100000 in
theorem walk_p (N : Nat) (IH : WalkOk N) (ho : OneKid shpP) (x : S25) (lvl n : Nat) (d : Int) (bd : List Sym) (fr : Fr) (p : Pl) (A3 : Option Addr) (c3 : Nat) (A4 : Option Addr) (c4 : Nat) (A5 : Option Addr) (c5 : Nat) (w0 w : World)
  (hkz : (x.f0 == 0) = false) (hk0 : bindsF x = none) (hn : size x ≤ N + 1) (hf : fine x = true) (hlvl : lvl ≤ 61) (hbd : bd.length < lvl) (hn4 : n ≤ 4000) (hL : Lay w0 x A3 c3 A4 c4 A5 c5) (hB : Below w0.heap.size w0 w) (g1 : w0.heap.size ≤ p.b) (g2 : w0.heap.size ≤ p.m1) (g3 : w0.heap.size ≤ p.m2) (g4 : w0.heap.size ≤ p.base) (g5 : p.base ≤ p.b) (hS : WSt p n d false bd fr w) :
  Calls Tryz.prog 158 #[.pointer (some ⟨p.b, 0, none⟩), ag x A3 c3 A4 c4 A5 c5, .int .i64 lvl] w fun e w' => e = .returned (.tuple #[]) ∧ WPost p bd (walk shpP x lvl bd ⟨n, fr, false⟩) w w' := by
  have hu25 := Tryz.underlying25
  have HK0 := Aside0.mk hk0
  have HKZ := Aside0.mk hkz
  clear hkz
  have HO := Aside0.mk ho
  clear hk0 ho
  have HF := Aside0.mk hf
  have HL := Aside0.mk hL
  have HN0 := Aside0.mk hn
  have IH := Aside0.mk IH
  have HB := Aside0.mk hB
  have HI := Aside0.mk (In.mk (x := x) (A3 := A3) (c3 := c3) (A4 := A4) (c4 := c4) (A5 := A5) (c5 := c5) ((hS.alloc (.cells #[.pointer (some ⟨p.b, 0, none⟩)] 158)).alloc (bx x A3 c3 A4 c4 A5 c5)) (blk_alloc (blk_new w _) _) (two_new w _ _) ((Tch.alloc _ w _).trans (Tch.alloc _ _ _)))
  clear hf hL hn hB hS
  go_enter_defers Tryz.func158, Tryz.ntmps158
  go_upto_region 1 with fail
  generalize (w.alloc (.cells #[.pointer (some ⟨p.b, 0, none⟩)] 158)).alloc (.cells #[.int .i64 x.f0, .int .i64 x.f1, .string x.f2, .slice A3 x.f3.length c3, .slice A4 x.f4.length c4, .slice A5 x.f5.length c5] 25) = W1 at HI ⊢
  have a1 := HI.out.cq
  have a2 := HI.out.b0
  have a3 := HI.out.fz 0
  go_upto_region 2 with fail
  have HI2 := HI.out.setn (n + 1)
  rw [show (((n + 1 : Nat)) : Int) = (n : Int) + 1 by omega] at HI2
  have HI := Aside0.mk HI2
  clear HI2 a1 a2 a3
  generalize W1.setCell ⟨p.b, 0, none⟩ (.int .i64 ((n : Int) + 1)) = W2 at HI ⊢
  have a1 := HI.out.cq
  have a2 := HI.out.b1
  have a3 := HI.out.fz 1
  have HD := Aside0.mk (fun d' => HI.out.drew.setd d')
  refine wp_region_still_tail 7 (by kernel_rfl) (by kernel_rfl) ?_
  simp only [List.take_succ_cons, List.take_zero, List.drop_succ_cons, List.drop_zero]
  change wpStill _ _ (World.drew W2) _ _ _
  repeat still_step
  refine wpStill_nil ?_
  change wpList _ _ _ _ _ (World.drew W2)
  go_upto_region 3 with fail
  generalize (if d < (lvl : Int) then (lvl : Int) else d) = d2
  have HI3 := (HI.out.setd d2).drew
  have HI := Aside0.mk HI3
  clear HI3 a1 a2 a3 HD
  generalize (W2.setCell ⟨p.b, 1, none⟩ (.int .i64 d2)).drew = W3 at HI ⊢
  go_cut [43] from 14 (fun v43 wc => ∃ b : Bool, v43 = .bool b ∧ Aside0 (b = stops x lvl n) ∧ Aside0 (In p x A3 c3 A4 c4 A5 c5 w (n + 1) d2 false bd fr wc))
  case first =>
    have a1 := HI.out.cq
    have a2 := HI.out.b0
    have a4 := HI.out.f0
    have a5 := HI.out.f1
    have a6 := HI.out.f2
    have a7 := HI.out.f3
    have a8 := HI.out.f4
    have a9 := HI.out.f5
    rw [show (((n + 1 : Nat)) : Int) = (n : Int) + 1 by omega] at a2
    have HLY := Aside0.mk (HL.out.below (May.below HB.out HI.out.t g1 g2 g3 g4))
    go_wp2_with (first | (go_at_call 229; refine (shaped_calls x A3 c3 A4 c4 A5 c5 _ HF.out HLY.out).mono ?_; rintro e w3 ⟨rfl, hb⟩; have HB3 := Aside0.mk hb; clear hb))
    all_goals go_meet
    all_goals first
      | exact ⟨_, rfl, ⟨by simp [stops, *]; done⟩, ⟨HI.out.below HB3.out⟩⟩
      | exact ⟨_, rfl, ⟨by simp [stops, *]; done⟩, HI⟩
  case rest =>
    clear HI
    obtain ⟨b1, rfl, hb1, HI⟩ := hcut
    have a1 := HI.out.cq
    have a2 := HI.out.b4
    have a3 := HI.out.fz 4
    cases b1
    · obtain ⟨hns, hsh, hl60, hn40⟩ := stops_no hb1.out.symm
      have HNS := Aside0.mk (And.intro hns hsh)
      clear hns hsh hb1
      have a4 := HI.out.f0
      go_upto_region 6 with fail
      have e0 : (x.f0 == 0) = false := HKZ.out
      have a5 := HI.out.f1
      have a6 := HI.out.f2
      have a7 := HI.out.f3
      have a8 := HI.out.f4
      have a9 := HI.out.f5
      go_upto_region 15 with (first
        | (go_at_call 230; with_reducible refine (binds_calls x A3 c3 A4 c4 A5 c5 _).mono ?_; rintro e w8 ⟨rfl, hb⟩; have HI8 := Aside0.mk (HI.out.below hb); clear hb))
      have hbis : bis x = false := by unfold bis; rw [HK0.out]; rfl
      have HI9 := Aside0.mk (HI8.out.alloc (.cells #[.string (bname x)] 9))
      clear a1 a2 a3 a4 a5 a6 a7 a8 a9 HI HI8
      generalize w8.alloc (.cells #[.string (bname x)] 9) = wc at HI9 ⊢
      have HI := HI9
      clear HI9
      try rw [hbis]
      clear hbis
      have HU := Aside0.mk (show under x bd = bd by unfold under; rw [HK0.out])
      have HBL := Aside0.mk (show bd.length < lvl + 1 by omega)
      have a9 := HI.out.f5
      have hl5 : x.f5.length ≤ 12000 := (fine_len HF.out).2.2.2
      go_wp2_with fail
      go_loopw [132] (fun i wr => ∃ (k n' : Nat) (d' : Int) (fr' : Fr), k ≤ x.f5.length ∧ i = .int .i64 k ∧ n' ≤ 4000 ∧ Aside0 (In p x A3 c3 A4 c4 A5 c5 w n' d' false bd fr' wr) ∧ Aside0 (walkL shpP x.f5 (lvl + 1) bd ⟨n + 1, fr, false⟩ = walkL shpP (x.f5.drop k) (lvl + 1) bd ⟨n', fr', false⟩)) (fun i _ => x.f5.length - (intOf i).toNat)
      case atStart => exact ⟨0, n + 1, d2, fr, Nat.zero_le _, rfl, by omega, HI, ⟨by rw [List.drop_zero]⟩⟩
      case round =>
        clear HI a9
        obtain ⟨k, n', d', fr', hk, rfl, hn', HI, HW⟩ := hrel
        by_cases hlt : k < x.f5.length
        · obtain ⟨y, ad, B3, e3, B4, e4, B5, e5, hx, rfl, h0, h1, h2, h3, h4, h5, hLy⟩ := kid_at HL.out.g5 k hlt
          have hbw := May.below HB.out HI.out.t g1 g2 g3 g4
          replace h0 := (hbw.cell (World.block_lt_of_cell? _ _ h0)).trans h0
          replace h1 := (hbw.cell (World.block_lt_of_cell? _ _ h1)).trans h1
          replace h2 := (hbw.cell (World.block_lt_of_cell? _ _ h2)).trans h2
          replace h3 := (hbw.cell (World.block_lt_of_cell? _ _ h3)).trans h3
          replace h4 := (hbw.cell (World.block_lt_of_cell? _ _ h4)).trans h4
          replace h5 := (hbw.cell (World.block_lt_of_cell? _ _ h5)).trans h5
          have HX := Aside0.mk hx
          have hy := List.mem_of_getElem? hx
          have HFY := Aside0.mk (fine_mem HF.out hy)
          have HNY := Aside0.mk (show size y ≤ N by have := size_mem hy; have := HN0.out; omega)
          have HI10 := Aside0.mk (HI.out.alloc (bx y B3 e3 B4 e4 B5 e5))
          have HBX := Aside0.mk (blk_new wr (bx y B3 e3 B4 e4 B5 e5))
          have HIH := Aside0.mk (IH.out y (lvl + 1) n' d' bd fr' p B3 e3 B4 e4 B5 e5 w0 _ HNY.out HFY.out (by omega) HBL.out hn' hLy (below_alloc hbw _) g1 g2 g3 g4 g5 HI10.out.st)
          clear hx hy hLy hbw
          go_upto_region 21 with fail
          have HIH2 := HIH.out
          rw [show (((lvl + 1 : Nat)) : Int) = (lvl : Int) + 1 by omega] at HIH2
          have HIH := Aside0.mk HIH2
          clear HIH2 h0 h1 h2 h3 h4 h5
          have kb0 := (blk_cell HBX.out 0).trans rfl
          have kb1 := (blk_cell HBX.out 1).trans rfl
          have kb2 := (blk_cell HBX.out 2).trans rfl
          have kb3 := (blk_cell HBX.out 3).trans rfl
          have kb4 := (blk_cell HBX.out 4).trans rfl
          have kb5 := (blk_cell HBX.out 5).trans rfl
          clear HBX HI
          generalize wr.alloc (bx y B3 e3 B4 e4 B5 e5) = W10 at HI10 HIH kb0 kb1 kb2 kb3 kb4 kb5 ⊢
          generalize wr.heap.size = kb at kb0 kb1 kb2 kb3 kb4 kb5 ⊢
          have a1 := HI10.out.cq
          generalize hr : walk shpP y (lvl + 1) bd ⟨n', fr', false⟩ = r at HIH
          have HR := Aside0.mk hr
          clear hr
          obtain ⟨rn, rfr, rbad⟩ := r
          go_upto_region 22 with (first
            | (go_at_call 158; with_reducible refine HIH.out.mono ?_; rintro e w2 ⟨rfl, hp⟩; have HP := Aside0.mk hp; clear hp))
          obtain ⟨d3, hs3, ht3⟩ := HP.out
          have HI2 := Aside0.mk (HI10.out.call hs3 ht3)
          clear hs3 ht3 HP a1 kb0 kb1 kb2 kb3 kb4 kb5 HI10 HIH
          simp only at HI2
          have a1 := HI2.out.cq
          have a4 := HI2.out.b4
          cases rbad
          · go_wp2_with fail
            have hrn := walk_n HO.out (s := ⟨n', fr', false⟩) rfl (by rw [HR.out])
            rw [HR.out] at hrn
            exact ⟨⟨k + 1, rn, d3, rfr, by omega, by go_num, hrn, HI2, ⟨HW.out.trans (by rw [walkL_cons HX.out, HR.out]; rfl)⟩⟩, by simp [intOf]; omega⟩
          · go_wp2_with fail
            have hwk : walk shpP x lvl bd ⟨n, fr, false⟩ = ⟨rn, rfr, true⟩ := by
              rw [walk_kids HNS.out.1 e0, HU.out, HW.out, walkL_cons HX.out, HR.out]; rfl
            exact ⟨_, results_none rfl _ _ _, rfl, d3, by rw [hwk]; exact HI2.out.st, HI2.out.t⟩
        · have hkl : k = x.f5.length := by omega
          have HWE := Aside0.mk (HW.out.trans (walkL_nil (by omega)))
          clear HW hkl
          have a1 := HI.out.cq
          have a4 := HI.out.f0
          have hk8 : x.f0 ≠ 8 := fun e => by have := HK0.out; unfold bindsF at this; rw [e] at this; simp at this
          have e8 : (x.f0 == 8) = false := by rw [beq_eq_false_iff_ne]; exact hk8
          go_wp2_with fail
          go_quiet (fail)
          go_wp2_with fail
          have HI3 := Aside0.mk (HI.out.drewN nq)
          have hwk : walk shpP x lvl bd ⟨n, fr, false⟩ = ⟨n', fr', false⟩ := by
            rw [walk_kids HNS.out.1 e0, HU.out, HWE.out]; simp [hk8]
          exact ⟨_, results_none rfl _ _ _, rfl, d', by rw [hwk]; exact HI3.out.st, HI3.out.t⟩
    · have HI2 := Aside0.mk (HI.out.setbad true)
      go_wp2_with fail
      exact ⟨_, results_none rfl _ _ _, rfl, d2, by rw [walk_stop hb1.out.symm]; exact HI2.out.st, HI2.out.t⟩
end Go.Proofs.YtjjnjnnfebifnaaGreatDoor.Rn
namespace Go.Proofs.YtjjnjnnfebifnaaGreatDoor.Rn
open Go.RowKit Go.Proofs.YtjjnjnnfebifnaaGreatDoorW.PrintWords Go.Proofs.YtjjnjnnfebifnaaGreatDoorW.PrintLast Go.Proofs.YtjjnjnnfebifnaaGreatDoor.PReachNormal

theorem walk_calls (ho : OneKid shpP) (N : Nat) : WalkOk N := by
  induction N with
  | zero =>
    intro x lvl n d bd fr p A3 c3 A4 c4 A5 c5 w0 w hn
    cases x; unfold size at hn; omega
  | succ N ih =>
    intro x lvl n d bd fr p A3 c3 A4 c4 A5 c5 w0 w hn hf hl hbd hn4 hL hB g1 g2 g3 g4 g5 hS
    by_cases h0 : x.f0 = 0
    · exact walk_z x lvl n d bd fr p A3 c3 A4 c4 A5 c5 w0 w ho h0 hf hl hbd hn4 hL hB g1 g2 g3 g4 g5 hS
    · cases hb : bindsF x with
      | some aa => exact walk_b N ih ho aa x lvl n d bd fr p A3 c3 A4 c4 A5 c5 w0 w hb hn hf hl hbd hn4 hL hB g1 g2 g3 g4 g5 hS
      | none => exact walk_p N ih ho x lvl n d bd fr p A3 c3 A4 c4 A5 c5 w0 w (by rw [beq_eq_false_iff_ne]; exact h0) hb hn hf hl hbd hn4 hL hB g1 g2 g3 g4 g5 hS
end Go.Proofs.YtjjnjnnfebifnaaGreatDoor.Rn
