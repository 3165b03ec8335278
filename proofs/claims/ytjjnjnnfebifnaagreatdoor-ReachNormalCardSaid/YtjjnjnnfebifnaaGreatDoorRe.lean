import Derived.Deep.RegionHeldLaw
import Derived.Deep.AppendLies
import Derived.Deep.DrawnRows
import Derived.Test.YtjjnjnnfebifnaaGreatDoorRc
set_option linter.all false
namespace Go.Proofs.YtjjnjnnfebifnaaGreatDoor.Rn
open Go.RowKit Go.Proofs.YtjjnjnnfebifnaaGreatDoorW.PrintWords Go.Proofs.YtjjnjnnfebifnaaGreatDoorW.PrintLast Go.Proofs.YtjjnjnnfebifnaaGreatDoor.PReachNormal
open Go.Ev (setB setB_size setB_same setB_ne)

theorem und76 : Tryz.prog.underlying 76 = some (.slice 3) := by kernel_rfl
noncomputable abbrev i3 : TypeInfo := (Tryz.prog.info? 3).getD default
theorem hi3 : Tryz.prog.info? 3 = some i3 := by kernel_rfl

set_option maxHeartbeats 8000000 in
set_option maxRecDepth 100000 in
theorem walk_b (N : Nat) (IH : WalkOk N) (ho : OneKid shpP) (aa : Int) (x : S25) (lvl n : Nat) (d : Int) (bd : List Sym) (fr : Fr) (p : Pl) (A3 : Option Addr) (c3 : Nat) (A4 : Option Addr) (c4 : Nat) (A5 : Option Addr) (c5 : Nat) (w0 w : World)
  (hk0 : bindsF x = some aa) (hn : size x ≤ N + 1) (hf : fine x = true) (hlvl : lvl ≤ 61) (hbd : bd.length < lvl) (hn4 : n ≤ 4000) (hL : Lay w0 x A3 c3 A4 c4 A5 c5) (hB : Below w0.heap.size w0 w) (g1 : w0.heap.size ≤ p.b) (g2 : w0.heap.size ≤ p.m1) (g3 : w0.heap.size ≤ p.m2) (g4 : w0.heap.size ≤ p.base) (g5 : p.base ≤ p.b) (hS : WSt p n d false bd fr w) :
  Calls Tryz.prog 158 #[.pointer (some ⟨p.b, 0, none⟩), ag x A3 c3 A4 c4 A5 c5, .int .i64 lvl] w fun e w' => e = .returned (.tuple #[]) ∧ WPost p bd (walk shpP x lvl bd ⟨n, fr, false⟩) w w' := by
  have hu25 := Tryz.underlying25
  have HK0 := Aside0.mk hk0
  have HO := Aside0.mk ho
  clear hk0 ho
  have HF := Aside0.mk hf
  have HL := Aside0.mk hL
  have HN0 := Aside0.mk hn
  have IH := Aside0.mk IH
  have HB := Aside0.mk hB
  have HI := Aside0.mk (In.mk (x := x) (A3 := A3) (c3 := c3) (A4 := A4) (c4 := c4) (A5 := A5) (c5 := c5) ((hS.alloc (.cells #[.pointer (some ⟨p.b, 0, none⟩)] 158)).alloc (bx x A3 c3 A4 c4 A5 c5)) (blk_alloc (blk_new w _) _) (two_new w _ _) ((Tch.alloc _ w _).trans (Tch.alloc _ _ _)))
  clear hf hL hn hB hS
  go_enter_defers Tryz.func158, Tryz.ntmps158
  go_upto_region 1 with fail
  generalize (w.alloc (.cells #[.pointer (some ⟨p.b, 0, none⟩)] 158)).alloc (.cells #[.int .i64 x.f0, .int .i64 x.f1, .string x.f2, .slice A3 x.f3.length c3, .slice A4 x.f4.length c4, .slice A5 x.f5.length c5] 25) = W1 at HI ⊢
  have a1 := HI.out.cq
  have a2 := HI.out.b0
  have a3 := HI.out.fz 0
  go_upto_region 2 with fail
  have HI2 := HI.out.setn (n + 1)
  rw [show (((n + 1 : Nat)) : Int) = (n : Int) + 1 by omega] at HI2
  have HI := Aside0.mk HI2
  clear HI2 a1 a2 a3
  generalize W1.setCell ⟨p.b, 0, none⟩ (.int .i64 ((n : Int) + 1)) = W2 at HI ⊢
  have a1 := HI.out.cq
  have a2 := HI.out.b1
  have a3 := HI.out.fz 1
  have HD := Aside0.mk (fun d' => HI.out.drew.setd d')
  refine wp_region_still_tail 7 (by kernel_rfl) (by kernel_rfl) ?_
  simp only [List.take_succ_cons, List.take_zero, List.drop_succ_cons, List.drop_zero]
  change wpStill _ _ (World.drew W2) _ _ _
  repeat still_step
  refine wpStill_nil ?_
  change wpList _ _ _ _ _ (World.drew W2)
  go_upto_region 3 with fail
  generalize (if d < (lvl : Int) then (lvl : Int) else d) = d2
  have HI3 := (HI.out.setd d2).drew
  have HI := Aside0.mk HI3
  clear HI3 a1 a2 a3 HD
  generalize (W2.setCell ⟨p.b, 1, none⟩ (.int .i64 d2)).drew = W3 at HI ⊢
  go_cut [43] from 14 (fun v43 wc => ∃ b : Bool, v43 = .bool b ∧ Aside0 (b = stops x lvl n) ∧ Aside0 (In p x A3 c3 A4 c4 A5 c5 w (n + 1) d2 false bd fr wc))
  case first =>
    have a1 := HI.out.cq
    have a2 := HI.out.b0
    have a4 := HI.out.f0
    have a5 := HI.out.f1
    have a6 := HI.out.f2
    have a7 := HI.out.f3
    have a8 := HI.out.f4
    have a9 := HI.out.f5
    rw [show (((n + 1 : Nat)) : Int) = (n : Int) + 1 by omega] at a2
    have HLY := Aside0.mk (HL.out.below (May.below HB.out HI.out.t g1 g2 g3 g4))
    go_wp2_with (first | (go_at_call 229; refine (shaped_calls x A3 c3 A4 c4 A5 c5 _ HF.out HLY.out).mono ?_; rintro e w3 ⟨rfl, hb⟩; have HB3 := Aside0.mk hb; clear hb))
    all_goals go_meet
    all_goals first
      | exact ⟨_, rfl, ⟨by simp [stops, *]; done⟩, ⟨HI.out.below HB3.out⟩⟩
      | exact ⟨_, rfl, ⟨by simp [stops, *]; done⟩, HI⟩
  case rest =>
    clear HI
    obtain ⟨b1, rfl, hb1, HI⟩ := hcut
    have a1 := HI.out.cq
    have a2 := HI.out.b4
    have a3 := HI.out.fz 4
    cases b1
    · obtain ⟨hns, hsh, hl60, hn40⟩ := stops_no hb1.out.symm
      have HNS := Aside0.mk (And.intro hns hsh)
      clear hns hsh hb1
      have a4 := HI.out.f0
      go_upto_region 6 with fail
      have e0 : (x.f0 == 0) = false := binds_ne HK0.out
      have a5 := HI.out.f1
      have a6 := HI.out.f2
      have a7 := HI.out.f3
      have a8 := HI.out.f4
      have a9 := HI.out.f5
      go_upto_region 15 with (first
        | (go_at_call 230; with_reducible refine (binds_calls x A3 c3 A4 c4 A5 c5 _).mono ?_; rintro e w8 ⟨rfl, hb⟩; have HI8 := Aside0.mk (HI.out.below hb); clear hb))
      have hbn : bname x = x.f2 := by unfold bname; rw [HK0.out]; rfl
      have hbis : bis x = true := by unfold bis; rw [HK0.out]; rfl
      have hba : barity x = aa := by unfold barity; rw [HK0.out]; rfl
      rw [hbn, hbis, hba]
      have HI9 := Aside0.mk (HI8.out.alloc (.cells #[.string x.f2] 9))
      have HN9 := Aside0.mk (blk_new w8 (.cells #[.string x.f2] 9))
      clear a1 a2 a3 a4 a5 a6 a7 a8 a9 HI HI8 hbn hbis hba
      generalize w8.alloc (.cells #[.string x.f2] 9) = W9 at HI9 HN9 ⊢
      generalize w8.heap.size = nb at HN9 ⊢
      obtain ⟨es1, k1, hm1, B1⟩ := HI9.out.st.c1
      have HB1 := Aside0.mk B1
      have HM1 := Aside0.mk hm1
      clear B1 hm1
      go_upto_region 16 with fail
      go_cut [9] from 14 (fun v9 wc => v9 = .pointer (some ⟨nb, 0, none⟩) ∧ Aside0 (In p x A3 c3 A4 c4 A5 c5 w (n + 1) d2 false (bd ++ [(x.f2, aa)]) fr wc) ∧ Aside0 (wc.heap[nb]? = some (.cells #[.string x.f2] 9 (0, 0))))
      case first =>
        have hbz : ∀ o, Below W9.heap.size W9 ((W9.alloc o).drew) := fun o => (bel_a W9 o).drew
        have HS1 := Aside0.mk (fun o => reads16 HI9.out HM1.out HB1.out HN9.out (w' := (W9.alloc o).drew) (fun i o' hi _ => blk_below hi (hbz o)))
        have HS2 := Aside0.mk (fun (w1 : World) (o : Obj) (hg : ((W9.alloc o).drew).grownBy w1 (atOr es1.toList x.f2).ownBlock) => reads16 HI9.out HM1.out HB1.out HN9.out (w' := w1) (fun i o' hi hn => push_blk HB1.out (hbz o) hg hi hn))
        have HS3 := Aside0.mk (fun (w1 : World) (o : Obj) (hg : ((W9.alloc o).drew).grownBy w1 (atOr es1.toList x.f2).ownBlock) => reads16s HI9.out HM1.out HB1.out HN9.out (w' := w1) (fun i o' hi hn => push_blk HB1.out (hbz o) hg hi hn))
        have HS0 := Aside0.mk (reads16 HI9.out HM1.out HB1.out HN9.out (w' := W9.drew) (fun i o' hi _ => hi))
        have HOWN := Aside0.mk (fun o => own_move (HB1.out.at_ x.f2) (w1 := (W9.alloc o).drew) (fun i hi => by
          have hlt := blk_lt (row_block (HB1.out.at_ x.f2) hi).2.choose_spec
          exact (hbz o).block i hlt))
        have HPU := Aside0.mk (fun (w1 : World) (o : Obj) (hg : ((W9.alloc o).drew).grownBy w1 (atOr es1.toList x.f2).ownBlock) => push_blk HB1.out (hbz o) hg HM1.out (not_row_map HM1.out))
        have HBZ := Aside0.mk hbz
        have HLE := Aside0.mk (show (stk bd x.f2).length + 1 ≤ 100 by have := stk_le bd x.f2; omega)
        have HBS := Aside0.mk (show p.base ≤ W9.heap.size by have := blk_lt HI9.out.st.cb; omega)
        clear hbz
        refine wp_noexit ?_
        obtain ⟨⟨s1, s2, s3⟩, s4⟩ := HS0.out
        have s5 := fun o => (HS1.out o).2
        go_region_held_law (fun w' => w'.cell? ⟨w.heap.size, 0, none⟩ = some (.pointer (some ⟨p.b, 0, none⟩)) ∧ w'.cell? ⟨p.b, 2, none⟩ = some (.map (some p.m1)) ∧ w'.cell? ⟨nb, 0, none⟩ = some (.string x.f2))
          (first | exact HS0.out.1 | exact (HS1.out _).1 | exact (HS2.out _ _ (by assumption)).1 | exact HS3.out _ _ (by assumption) _ _)
          ((refine step_append_lies _ (by rfl) _ _ _ (by rfl) p.base 3 i3 (.int .i64 0) 1 8 und76 hi3 (by rfl) (by rfl) (by rfl) (by rfl) (by omega) (atOr es1.toList x.f2) (stk bd x.f2).length ((stk bd x.f2).map (Value.int .i64)) (by rfl) (HOWN.out _) ⟨W9.heap.size, 0, none⟩ 1 1 [.int .i64 aa] (by rfl) (by rfl) (World.news_of_block (heap_alloc_new W9 _)) (by simp [Value.oneCell']) (by omega) (by have := HLE.out; unfold maxLen; omega) (by have := HLE.out; omega) (by have := HBS.out; simp; omega) _ rfl ?_
            intro g cap w1 hown1 hgrow hat hlt
            obtain ⟨es', k', hup, hstr, hlook⟩ := run_upd und154 und9 (w := w1) (HPU.out _ _ hgrow) HB1.out.str x.f2 (.slice (some ⟨g, 0, none⟩) ((stk bd x.f2).length + 1) cap)))
        all_goals go_wp2_with fail
        all_goals go_meet
        all_goals exact ⟨rfl, ⟨(HI9.out.push HM1.out HB1.out (HBZ.out _) hgrow hown1 hat hstr hlook).1⟩, ⟨(HI9.out.push HM1.out HB1.out (HBZ.out _) hgrow hown1 hat hstr hlook).2 _ _ _ (by decide) HN9.out⟩⟩
      case rest =>
        clear HI9 HN9 HB1 HM1
        obtain ⟨rfl, HI, HN⟩ := hcut
        have HU := Aside0.mk (show under x bd = bd ++ [(x.f2, aa)] by unfold under; rw [HK0.out])
        generalize hBD : bd ++ [(x.f2, aa)] = BD at HI HU
        have HBD := Aside0.mk hBD
        have HBL := Aside0.mk (show BD.length < lvl + 1 by rw [← hBD]; simp; omega)
        clear hBD
        have a9 := HI.out.f5
        have hl5 : x.f5.length ≤ 12000 := (fine_len HF.out).2.2.2
        go_wp2_with fail
        go_loopw [132] (fun i wr => ∃ (k n' : Nat) (d' : Int) (fr' : Fr), k ≤ x.f5.length ∧ i = .int .i64 k ∧ n' ≤ 4000 ∧ Aside0 (In p x A3 c3 A4 c4 A5 c5 w n' d' false BD fr' wr) ∧ Aside0 (wr.heap[nb]? = some (.cells #[.string x.f2] 9 (0, 0))) ∧ Aside0 (walkL shpP x.f5 (lvl + 1) BD ⟨n + 1, fr, false⟩ = walkL shpP (x.f5.drop k) (lvl + 1) BD ⟨n', fr', false⟩)) (fun i _ => x.f5.length - (intOf i).toNat)
        case atStart => exact ⟨0, n + 1, d2, fr, Nat.zero_le _, rfl, by omega, HI, HN, ⟨by rw [List.drop_zero]⟩⟩
        case round =>
          clear HI HN a9
          obtain ⟨k, n', d', fr', hk, rfl, hn', HI, HN, HW⟩ := hrel
          by_cases hlt : k < x.f5.length
          · obtain ⟨y, ad, B3, e3, B4, e4, B5, e5, hx, rfl, h0, h1, h2, h3, h4, h5, hLy⟩ := kid_at HL.out.g5 k hlt
            have hbw := May.below HB.out HI.out.t g1 g2 g3 g4
            replace h0 := (hbw.cell (World.block_lt_of_cell? _ _ h0)).trans h0
            replace h1 := (hbw.cell (World.block_lt_of_cell? _ _ h1)).trans h1
            replace h2 := (hbw.cell (World.block_lt_of_cell? _ _ h2)).trans h2
            replace h3 := (hbw.cell (World.block_lt_of_cell? _ _ h3)).trans h3
            replace h4 := (hbw.cell (World.block_lt_of_cell? _ _ h4)).trans h4
            replace h5 := (hbw.cell (World.block_lt_of_cell? _ _ h5)).trans h5
            have HX := Aside0.mk hx
            have hy := List.mem_of_getElem? hx
            have HFY := Aside0.mk (fine_mem HF.out hy)
            have HNY := Aside0.mk (show size y ≤ N by have := size_mem hy; have := HN0.out; omega)
            have HI10 := Aside0.mk (HI.out.alloc (bx y B3 e3 B4 e4 B5 e5))
            have HN10 := Aside0.mk (blk_below HN.out (bel_a wr (bx y B3 e3 B4 e4 B5 e5)))
            have HBX := Aside0.mk (blk_new wr (bx y B3 e3 B4 e4 B5 e5))
            have HIH := Aside0.mk (IH.out y (lvl + 1) n' d' BD fr' p B3 e3 B4 e4 B5 e5 w0 _ HNY.out HFY.out (by omega) HBL.out hn' hLy (below_alloc hbw _) g1 g2 g3 g4 g5 HI10.out.st)
            clear hx hy hLy hbw
            go_upto_region 21 with fail
            have HIH2 := HIH.out
            rw [show (((lvl + 1 : Nat)) : Int) = (lvl : Int) + 1 by omega] at HIH2
            have HIH := Aside0.mk HIH2
            clear HIH2 h0 h1 h2 h3 h4 h5
            have kb0 := (blk_cell HBX.out 0).trans rfl
            have kb1 := (blk_cell HBX.out 1).trans rfl
            have kb2 := (blk_cell HBX.out 2).trans rfl
            have kb3 := (blk_cell HBX.out 3).trans rfl
            have kb4 := (blk_cell HBX.out 4).trans rfl
            have kb5 := (blk_cell HBX.out 5).trans rfl
            clear HBX HI HN
            generalize wr.alloc (bx y B3 e3 B4 e4 B5 e5) = W10 at HI10 HN10 HIH kb0 kb1 kb2 kb3 kb4 kb5 ⊢
            generalize wr.heap.size = kb at kb0 kb1 kb2 kb3 kb4 kb5 ⊢
            have a1 := HI10.out.cq
            generalize hr : walk shpP y (lvl + 1) BD ⟨n', fr', false⟩ = r at HIH
            have HR := Aside0.mk hr
            clear hr
            obtain ⟨rn, rfr, rbad⟩ := r
            go_upto_region 22 with (first
              | (go_at_call 158; with_reducible refine HIH.out.mono ?_; rintro e w2 ⟨rfl, hp⟩; have HP := Aside0.mk hp; clear hp))
            obtain ⟨d3, hs3, ht3⟩ := HP.out
            have HI2 := Aside0.mk (HI10.out.call hs3 ht3)
            have HN2 := Aside0.mk (HI10.out.far ht3 HN10.out (by decide) (by decide))
            clear hs3 ht3 HP a1 kb0 kb1 kb2 kb3 kb4 kb5 HI10 HN10 HIH
            simp only at HI2
            have a1 := HI2.out.cq
            have a4 := HI2.out.b4
            cases rbad
            · go_wp2_with fail
              have hrn := walk_n HO.out (s := ⟨n', fr', false⟩) rfl (by rw [HR.out])
              rw [HR.out] at hrn
              exact ⟨⟨k + 1, rn, d3, rfr, by omega, by go_num, hrn, HI2, HN2, ⟨HW.out.trans (by rw [walkL_cons HX.out, HR.out]; rfl)⟩⟩, by simp [intOf]; omega⟩
            · go_wp2_with fail
              have hwk : walk shpP x lvl bd ⟨n, fr, false⟩ = ⟨rn, rfr, true⟩ := by
                rw [walk_kids HNS.out.1 e0, HU.out, HW.out, walkL_cons HX.out, HR.out]; rfl
              refine leaves_cons (f := 231) (args := #[.pointer (some ⟨w.heap.size, 0, none⟩), .pointer (some ⟨nb, 0, none⟩)]) (by simp) (by simp [go_sem]) ?_
              obtain ⟨es4, k4, hm4, B4'⟩ := HI2.out.st.c1
              rw [← HBD.out] at B4'
              refine (pop_calls w.heap.size nb p.b p.m1 p.base es4 k4 bd x.f2 aa .returning _ HI2.out.cq ((blk_cell HN2.out 0).trans rfl) HI2.out.b2 hm4 B4').mono ?_
              rintro e u' w4 ⟨rfl, rfl, hP⟩
              have hE := In.popped HI2.out hP
              exact ⟨_, results_none rfl _ _ _, rfl, d3, by rw [hwk]; exact hE.1, hE.2⟩
          · have hkl : k = x.f5.length := by omega
            have HWE := Aside0.mk (HW.out.trans (walkL_nil (by omega)))
            clear HW hkl
            have a1 := HI.out.cq
            have a4 := HI.out.f0
            by_cases hk8 : x.f0 = 8
            · have e8 : (x.f0 == 8) = true := by rw [hk8]; rfl
              obtain ⟨y, hy1⟩ := (HO.out x HNS.out.2).1 (by omega)
              have hy0 : x.f5[0]? = some y := by rw [hy1]; rfl
              have hl1 : 0 < x.f5.length := by rw [hy1]; simp
              have HSY := Aside0.mk (shapesL_mem (walkL_shapes HO.out (s := ⟨n + 1, fr, false⟩) rfl (by simp only; omega) HWE.out rfl) (List.mem_of_getElem? hy0))
              have HP1 := Aside0.mk (show posL x.f2 (x.f5.take 1) true = pos x.f2 y true by rw [hy1]; simp [posL])
              obtain ⟨y', ad, B3, e3, B4, e4, B5, e5, hx, rfl, h0, h1, h2, h3, h4, h5, hLy⟩ := kid_at HL.out.g5 0 hl1
              obtain rfl : y' = y := by rw [hy0] at hx; exact (Option.some.inj hx).symm
              have HK8 := Aside0.mk hk8
              have hbw := May.below HB.out HI.out.t g1 g2 g3 g4
              replace h0 := (hbw.cell (World.block_lt_of_cell? _ _ h0)).trans h0
              replace h1 := (hbw.cell (World.block_lt_of_cell? _ _ h1)).trans h1
              replace h2 := (hbw.cell (World.block_lt_of_cell? _ _ h2)).trans h2
              replace h3 := (hbw.cell (World.block_lt_of_cell? _ _ h3)).trans h3
              replace h4 := (hbw.cell (World.block_lt_of_cell? _ _ h4)).trans h4
              replace h5 := (hbw.cell (World.block_lt_of_cell? _ _ h5)).trans h5
              have HFY := Aside0.mk (fine_mem HF.out (List.mem_of_getElem? hy0))
              have HPC := Aside0.mk (pos_calls _ shpP HO.out y' x.f2 true B3 e3 B4 e4 B5 e5 (wr.drew) (Nat.le_refl _) HFY.out HSY.out (hLy.below (hbw.drew)))
              simp only [Nat.zero_mul, Addr.add_zero'] at h0 h1 h2 h3 h4 h5
              clear hx hy0 hy1 hLy hbw hk8
              have a2 := HI.out.f2
              have a9 := HI.out.f5
              go_upto_region 24 with fail
              refine wp_region_still_tail 10 (by kernel_rfl) (by kernel_rfl) ?_
              simp only [List.take_succ_cons, List.take_zero, List.drop_succ_cons, List.drop_zero]
              change wpStill _ _ (World.drew wr) _ _ _
              repeat still_step
              refine wpStill_nil ?_
              change wpList _ _ _ _ _ (World.drew wr)
              generalize hpp : pos x.f2 y' true = pp at HPC HP1
              have HPP := Aside0.mk hpp
              clear hpp h0 h1 h2 h3 h4 h5 a1 a2 a4 a9
              cases pp
              · go_upto_region 25 with (first
                  | (go_at_call 176; with_reducible refine HPC.out.mono ?_; rintro e w2 ⟨rfl, hb2⟩; have HB2 := Aside0.mk hb2; clear hb2))
                have HI3 := Aside0.mk (HI.out.drew.below HB2.out)
                have HN3 := Aside0.mk (blk_below (show (World.drew wr).heap[nb]? = some (.cells #[.string x.f2] 9 (0, 0)) from HN.out) HB2.out)
                have a1 := HI3.out.cq
                have a2 := HI3.out.b4
                have a3 := HI3.out.fz 4
                have HI4 := Aside0.mk (HI3.out.setbad true)
                have HN4 := Aside0.mk ((Below.heap_setCell w2 ⟨p.b, 4, none⟩ (.bool true) nb (fun e => by have h1 := HI3.out.st.cb; rw [show p.b = nb from e.symm, HN3.out] at h1; simp at h1)).trans HN3.out)
                go_wp2_with fail
                have hwk : walk shpP x lvl bd ⟨n, fr, false⟩ = ⟨n', fr', true⟩ := by
                  rw [walk_kids HNS.out.1 e0, HU.out, HWE.out]; simp [HK8.out, HP1.out]
                refine leaves_cons (f := 231) (args := #[.pointer (some ⟨w.heap.size, 0, none⟩), .pointer (some ⟨nb, 0, none⟩)]) (by simp) (by simp [go_sem]) ?_
                obtain ⟨es4, k4, hm4, B4'⟩ := HI4.out.st.c1
                rw [← HBD.out] at B4'
                refine (pop_calls w.heap.size nb p.b p.m1 p.base es4 k4 bd x.f2 aa .returning _ HI4.out.cq ((blk_cell HN4.out 0).trans rfl) HI4.out.b2 hm4 B4').mono ?_
                rintro e u' w4 ⟨rfl, rfl, hP⟩
                have hE := In.popped HI4.out hP
                exact ⟨_, results_none rfl _ _ _, rfl, d', by rw [hwk]; exact hE.1, hE.2⟩
              · go_wp2_with (first
                  | (go_at_call 176; with_reducible refine HPC.out.mono ?_; rintro e w2 ⟨rfl, hb2⟩; have HB2 := Aside0.mk hb2; clear hb2))
                have HI3 := Aside0.mk (HI.out.drew.below HB2.out)
                have HN3 := Aside0.mk (blk_below (show (World.drew wr).heap[nb]? = some (.cells #[.string x.f2] 9 (0, 0)) from HN.out) HB2.out)
                have hwk : walk shpP x lvl bd ⟨n, fr, false⟩ = ⟨n', fr', false⟩ := by
                  rw [walk_kids HNS.out.1 e0, HU.out, HWE.out]; simp [HK8.out, HP1.out]
                refine leaves_cons (f := 231) (args := #[.pointer (some ⟨w.heap.size, 0, none⟩), .pointer (some ⟨nb, 0, none⟩)]) (by simp) (by simp [go_sem]) ?_
                obtain ⟨es4, k4, hm4, B4'⟩ := HI3.out.st.c1
                rw [← HBD.out] at B4'
                refine (pop_calls w.heap.size nb p.b p.m1 p.base es4 k4 bd x.f2 aa .returning _ HI3.out.cq ((blk_cell HN3.out 0).trans rfl) HI3.out.b2 hm4 B4').mono ?_
                rintro e u' w4 ⟨rfl, rfl, hP⟩
                have hE := In.popped HI3.out hP
                exact ⟨_, results_none rfl _ _ _, rfl, d', by rw [hwk]; exact hE.1, hE.2⟩
            · have e8 : (x.f0 == 8) = false := by rw [beq_eq_false_iff_ne]; exact hk8
              go_wp2_with fail
              go_quiet (fail)
              go_wp2_with fail
              have HI3 := Aside0.mk (HI.out.drewN nq)
              have HN3 : Aside0 ((wr.drewN nq).heap[nb]? = some (.cells #[.string x.f2] 9 (0, 0))) := ⟨HN.out⟩
              have hwk : walk shpP x lvl bd ⟨n, fr, false⟩ = ⟨n', fr', false⟩ := by
                rw [walk_kids HNS.out.1 e0, HU.out, HWE.out]; simp [hk8]
              refine leaves_cons (f := 231) (args := #[.pointer (some ⟨w.heap.size, 0, none⟩), .pointer (some ⟨nb, 0, none⟩)]) (by simp) (by simp [go_sem]) ?_
              obtain ⟨es4, k4, hm4, B4'⟩ := HI3.out.st.c1
              rw [← HBD.out] at B4'
              refine (pop_calls w.heap.size nb p.b p.m1 p.base es4 k4 bd x.f2 aa .returning _ HI3.out.cq ((blk_cell HN3.out 0).trans rfl) HI3.out.b2 hm4 B4').mono ?_
              rintro e u' w4 ⟨rfl, rfl, hP⟩
              have hE := In.popped HI3.out hP
              exact ⟨_, results_none rfl _ _ _, rfl, d', by rw [hwk]; exact hE.1, hE.2⟩
    · have HI2 := Aside0.mk (HI.out.setbad true)
      go_wp2_with fail
      exact ⟨_, results_none rfl _ _ _, rfl, d2, by rw [walk_stop hb1.out.symm]; exact HI2.out.st, HI2.out.t⟩
end Go.Proofs.YtjjnjnnfebifnaaGreatDoor.Rn
