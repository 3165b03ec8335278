import Derived.Test.YtjjnjnnfebifnaaGreatDoorRc
set_option linter.all false
namespace Go.Proofs.YtjjnjnnfebifnaaGreatDoor.Rn
open Go.RowKit Go.Proofs.YtjjnjnnfebifnaaGreatDoorW.PrintWords Go.Proofs.YtjjnjnnfebifnaaGreatDoorW.PrintLast Go.Proofs.YtjjnjnnfebifnaaGreatDoor.PReachNormal
open Go.Ev (setB setB_size setB_same setB_ne)

set_option maxHeartbeats 8000000 in
set_option maxRecDepth 100000 in
theorem walk_z (x : S25) (lvl n : Nat) (d : Int) (bd : List Sym) (fr : Fr) (p : Pl) (A3 : Option Addr) (c3 : Nat) (A4 : Option Addr) (c4 : Nat) (A5 : Option Addr) (c5 : Nat) (w0 w : World)
  (ho : OneKid shpP) (hk0 : x.f0 = 0) (hf : fine x = true) (hlvl : lvl ≤ 61) (hbd : bd.length < lvl) (hn4 : n ≤ 4000) (hL : Lay w0 x A3 c3 A4 c4 A5 c5) (hB : Below w0.heap.size w0 w) (g1 : w0.heap.size ≤ p.b) (g2 : w0.heap.size ≤ p.m1) (g3 : w0.heap.size ≤ p.m2) (g4 : w0.heap.size ≤ p.base) (g5 : p.base ≤ p.b) (hS : WSt p n d false bd fr w) :
  Calls Tryz.prog 158 #[.pointer (some ⟨p.b, 0, none⟩), ag x A3 c3 A4 c4 A5 c5, .int .i64 lvl] w fun e w' => e = .returned (.tuple #[]) ∧ WPost p bd (walk shpP x lvl bd ⟨n, fr, false⟩) w w' := by
  have hu25 := Tryz.underlying25
  have HK0 := Aside0.mk hk0
  have HO := Aside0.mk ho
  clear ho
  clear hk0
  have HF := Aside0.mk hf
  have HL := Aside0.mk hL
  have HB := Aside0.mk hB
  have HI := Aside0.mk (In.mk (x := x) (A3 := A3) (c3 := c3) (A4 := A4) (c4 := c4) (A5 := A5) (c5 := c5) ((hS.alloc (.cells #[.pointer (some ⟨p.b, 0, none⟩)] 158)).alloc (bx x A3 c3 A4 c4 A5 c5)) (blk_alloc (blk_new w _) _) (two_new w _ _) ((Tch.alloc _ w _).trans (Tch.alloc _ _ _)))
  clear hf hL hB hS
  go_enter_defers Tryz.func158, Tryz.ntmps158
  go_upto_region 1 with fail
  generalize (w.alloc (.cells #[.pointer (some ⟨p.b, 0, none⟩)] 158)).alloc (.cells #[.int .i64 x.f0, .int .i64 x.f1, .string x.f2, .slice A3 x.f3.length c3, .slice A4 x.f4.length c4, .slice A5 x.f5.length c5] 25) = W1 at HI ⊢
  have a1 := HI.out.cq
  have a2 := HI.out.b0
  have a3 := HI.out.fz 0
  go_upto_region 2 with fail
  have HI2 := HI.out.setn (n + 1)
  rw [show (((n + 1 : Nat)) : Int) = (n : Int) + 1 by omega] at HI2
  have HI := Aside0.mk HI2
  clear HI2 a1 a2 a3
  generalize W1.setCell ⟨p.b, 0, none⟩ (.int .i64 ((n : Int) + 1)) = W2 at HI ⊢
  have a1 := HI.out.cq
  have a2 := HI.out.b1
  have a3 := HI.out.fz 1
  have HD := Aside0.mk (fun d' => HI.out.drew.setd d')
  refine wp_region_still_tail 7 (by kernel_rfl) (by kernel_rfl) ?_
  simp only [List.take_succ_cons, List.take_zero, List.drop_succ_cons, List.drop_zero]
  change wpStill _ _ (World.drew W2) _ _ _
  repeat still_step
  refine wpStill_nil ?_
  change wpList _ _ _ _ _ (World.drew W2)
  go_upto_region 3 with fail
  generalize (if d < (lvl : Int) then (lvl : Int) else d) = d2
  have HI3 := (HI.out.setd d2).drew
  have HI := Aside0.mk HI3
  clear HI3 a1 a2 a3 HD
  generalize (W2.setCell ⟨p.b, 1, none⟩ (.int .i64 d2)).drew = W3 at HI ⊢
  go_cut [43] from 14 (fun v43 wc => ∃ b : Bool, v43 = .bool b ∧ Aside0 (b = stops x lvl n) ∧ Aside0 (In p x A3 c3 A4 c4 A5 c5 w (n + 1) d2 false bd fr wc))
  case first =>
    have a1 := HI.out.cq
    have a2 := HI.out.b0
    have a4 := HI.out.f0
    have a5 := HI.out.f1
    have a6 := HI.out.f2
    have a7 := HI.out.f3
    have a8 := HI.out.f4
    have a9 := HI.out.f5
    rw [show (((n + 1 : Nat)) : Int) = (n : Int) + 1 by omega] at a2
    have HLY := Aside0.mk (HL.out.below (May.below HB.out HI.out.t g1 g2 g3 g4))
    go_wp2_with (first | (go_at_call 229; refine (shaped_calls x A3 c3 A4 c4 A5 c5 _ HF.out HLY.out).mono ?_; rintro e w3 ⟨rfl, hb⟩; have HB3 := Aside0.mk hb; clear hb))
    all_goals go_meet
    all_goals first
      | exact ⟨_, rfl, ⟨by simp [stops, *]; done⟩, ⟨HI.out.below HB3.out⟩⟩
      | exact ⟨_, rfl, ⟨by simp [stops, *]; done⟩, HI⟩
  case rest =>
    clear HI
    obtain ⟨b1, rfl, hb1, HI⟩ := hcut
    have a1 := HI.out.cq
    have a2 := HI.out.b4
    have a3 := HI.out.fz 4
    cases b1
    · obtain ⟨hns, hsh, hl60, hn40⟩ := stops_no hb1.out.symm
      have HNS := Aside0.mk (And.intro hns hsh)
      clear hns hsh hb1
      have a4 := HI.out.f0
      go_upto_region 6 with fail
      have e0 : (x.f0 == 0) = true := by rw [HK0.out]; rfl
      obtain ⟨es1, k1, hm1, B1⟩ := HI.out.st.c1
      obtain ⟨es2, k2, hm2, F2⟩ := HI.out.st.c2
      have a5 := HI.out.b2
      have a6 := HI.out.b3
      have a7 := HI.out.f2
      have a8 := HI.out.f4
      have hlk : ∀ j, (Instr.lookup 154 (.map (some p.m1)) (.string x.f2) false).run Tryz.prog (wc.drewN j) = .ok (atOr es1.toList x.f2) (wc.drewN j) := fun j => run_look und154 und9 zero76 (w := wc.drewN j) hm1 B1.str x.f2 false
      have B1' := Aside0.mk B1
      have F2' := Aside0.mk F2
      clear B1 F2
      rcases hls : last? bd x.f2 with _ | m
      · obtain ⟨A, c, hv⟩ := B1'.out.nolast hls
        rw [hv] at hlk
        have HLS := Aside0.mk hls
        obtain ⟨v0, is, hlk2, hbad⟩ := free_look F2'.out hm2 x.f2 (x.f4.length : Int)
        have HBAD := Aside0.mk hbad
        clear hv hls hbad
        go_upto_region 7 with fail
        go_quiet (fail)
        rename_i nq
        go_upto_region 10 with fail
        have hlk3 : ∀ j, (Instr.lookup 155 (.map (some p.m2)) (.string x.f2) true).run Tryz.prog ((wc.drewN nq).drewN j) = .ok (.tuple #[.int .i64 v0, .bool is]) ((wc.drewN nq).drewN j) := fun j => hlk2 _ rfl
        have HI4 := Aside0.mk (HI.out.drewN nq)
        have hm24 : (wc.drewN nq).heap[p.m2]? = some (.map es2 k2) := hm2
        clear a1 a2 a3 a4 a5 a6 a7 a8 HI hlk hm1 hm2 hlk2
        generalize wc.drewN nq = W4 at HI4 hm24 hlk3 ⊢
        have a1 := HI4.out.cq
        have a6 := HI4.out.b3
        have a7 := HI4.out.f2
        have a8 := HI4.out.f4
        go_quiet (fail)
        have HI := Aside0.mk (HI4.out.drewN nq)
        have hm2 : (W4.drewN nq).heap[p.m2]? = some (.map es2 k2) := hm24
        clear a1 a6 a7 a8 HI4 hlk3 hm24
        generalize W4.drewN nq = W5 at HI hm2 ⊢
        have a8 := HI.out.f4
        go_upto_region 11 with fail
        go_cut [94] from 14 (fun v94 wc => v94 = .bool (is && (v0 != (x.f4.length : Int))) ∧ wc = W5)
        case first =>
          cases is
          · go_wp2_with fail
            go_meet
            exact ⟨rfl, rfl⟩
          · go_wp2_with fail
            go_meet
            exact ⟨rfl, rfl⟩
        case rest =>
          obtain ⟨rfl, rfl⟩ := hcut
          generalize (is && (v0 != (x.f4.length : Int))) = bb at HBAD ⊢
          have a1 := HI.out.cq
          have a2 := HI.out.b4
          have a3 := HI.out.fz 4
          have hm2' : ∀ v, (wc.setCell ⟨p.b, 4, none⟩ v).heap[p.m2]? = some (.map es2 k2) := fun v => (Below.heap_setCell wc _ v _ (fun e => by have h1 := HI.out.st.cb; rw [show p.b = p.m2 from e.symm, hm2] at h1; cases h1)).trans hm2
          go_upto_if 94 with fail
          go_cut [8] from 14 (fun v8 wc => v8 = .bool is ∧ Aside0 (In p x A3 c3 A4 c4 A5 c5 w (n + 1) d2 bb bd fr wc) ∧ wc.heap[p.m2]? = some (.map es2 k2))
          case first =>
            cases bb
            · go_wp2_with fail
              go_meet
              exact ⟨rfl, HI, hm2⟩
            · go_wp2_with fail
              go_meet
              exact ⟨rfl, ⟨HI.out.setbad true⟩, hm2' _⟩
          case rest =>
            clear HI a1 a2 a3 a8 hm2 hm2'
            obtain ⟨rfl, HI, hm2⟩ := hcut
            have a1 := HI.out.cq
            have a6 := HI.out.b3
            have a7 := HI.out.f2
            have a8 := HI.out.f4
            obtain ⟨es3, k3, hup, hstr, hlook⟩ := run_upd und155 und9 (w := wc.drew) hm2 F2'.out.str x.f2 (.int .i64 (x.f4.length : Int))
            have HI3 := Aside0.mk (HI.out.drew.setm2 (k' := k3) hm2 F2'.out hstr hlook)
            have hm24 := HI.out.b0
            clear hstr hlook
            go_upto_region 13 with fail
            refine wp_region_still_tail 9 (by kernel_rfl) (by kernel_rfl) ?_
            simp only [List.take_succ_cons, List.take_zero, List.drop_succ_cons, List.drop_zero]
            change wpStill _ _ (World.drew wc) _ _ _
            repeat still_step
            refine wpStill_nil ?_
            change wpList _ _ _ _ _ (World.drew wc)
            go_upto_region 14 with fail
            generalize setB (World.drew wc) p.m2 (.map es3 k3) = W6 at HI3 ⊢
            clear a1 a6 a7 a8 HI hm2 hm24 hup
            have a4 := HI3.out.f0
            have a5 := HI3.out.f1
            have a6 := HI3.out.f2
            have a7 := HI3.out.f3
            have a8 := HI3.out.f4
            have a9 := HI3.out.f5
            have hbis : bis x = false := by unfold bis bindsF; rw [HK0.out]; rfl
            go_upto_region 15 with (first
              | (go_at_call 230; with_reducible refine (binds_calls x A3 c3 A4 c4 A5 c5 _).mono ?_; rintro e w8 ⟨rfl, hb⟩; have HI8 := Aside0.mk (HI3.out.below hb); clear hb))
            have h50 : x.f5.length = 0 := by rw [(HO.out x HNS.out.2).2 (Or.inl HK0.out)]; rfl
            have HI9 := Aside0.mk (HI8.out.alloc (.cells #[.string (bname x)] 9))
            clear HI3 HI8 a4 a5 a6 a7 a8 a9
            generalize w8.alloc (.cells #[.string (bname x)] 9) = W7 at HI9 ⊢
            have a4 := HI9.out.f0
            have a9 := HI9.out.f5
            rw [h50] at a9
            have e8 : (x.f0 == 8) = false := by rw [HK0.out]; rfl
            clear h50 hbis
            go_wp2_with fail
            go_loopw [132] (fun i wr => i = .int .i64 0 ∧ wr = W7) (fun _ _ => 0)
            case atStart => exact ⟨rfl, rfl⟩
            case round =>
              obtain ⟨rfl, rfl⟩ := hrel
              go_wp2_with fail
              go_quiet (fail)
              go_wp2_with fail
              have HE := Aside0.mk (HI9.out.drewN nq)
              exact ⟨_, results_none rfl _ _ _, rfl, d2, by rw [(walk_free HNS.out.1 e0 HLS.out).trans (congrArg (St.mk (n + 1) _) HBAD.out.symm)]; exact HE.out.st, HE.out.t⟩
      · obtain ⟨g, cap, k, hv, hc, hk1, hk2⟩ := B1'.out.lastcell hls
        rw [hv] at hlk
        have HLS := Aside0.mk hls
        clear hv hls
        go_upto_region 7 with fail
        go_quiet (fail)
        go_upto_region 9 with fail
        have HI4 := Aside0.mk (HI.out.drewN nq)
        have hc4 : (wc.drewN nq).cell? ⟨g, k, none⟩ = some (.int .i64 m) := hc
        clear a1 a2 a3 a4 a5 a6 a7 a8 hc HI hlk hm1 hm2 B1' F2'
        generalize wc.drewN nq = W4 at HI4 hc4 ⊢
        have a1 := HI4.out.cq
        have a2 := HI4.out.b4
        have a3 := HI4.out.fz 4
        have a8 := HI4.out.f4
        have hwk : IntKind.i64.wrap (k : Int) = k := IntWalk.i64_in _ (by omega)
        have hkk : (k : Int) < (k : Int) + 1 := by omega
        have hl4 : x.f4.length ≤ 12000 := (fine_len HF.out).2.2.1
        have HBAD := Aside0.mk (fun b => HI4.out.drew.setbad b)
        refine wp_region_still_tail 11 (by kernel_rfl) (by kernel_rfl) ?_
        simp only [List.take_succ_cons, List.take_zero, List.drop_succ_cons, List.drop_zero]
        change wpStill _ _ (World.drew W4) _ _ _
        repeat still_step
        refine wpStill_nil ?_
        change wpList _ _ _ _ _ (World.drew W4)
        go_wp2_with fail
        have HE := Aside0.mk (HI4.out.setbad (m != (x.f4.length : Int))).drew
        exact ⟨_, results_none rfl _ _ _, rfl, d2, by rw [walk_bound HNS.out.1 e0 HLS.out]; exact HE.out.st, HE.out.t⟩
    · have HI2 := Aside0.mk (HI.out.setbad true)
      go_wp2_with fail
      exact ⟨_, results_none rfl _ _ _, rfl, d2, by rw [walk_stop hb1.out.symm]; exact HI2.out.st, HI2.out.t⟩
end Go.Proofs.YtjjnjnnfebifnaaGreatDoor.Rn
