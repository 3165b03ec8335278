import Derived.Test.YtjjnjnnfebifnaaGreatDoorRn
import Derived.Test.YtjjnjnnfebifnaaGreatDoorRg
import Derived.Test.YtjjnjnnfebifnaaGreatDoorRj
import Derived.Test.YtjjnjnnfebifnaaGreatDoorRm
set_option linter.all false
namespace Go.Proofs.YtjjnjnnfebifnaaGreatDoor.Rn
open Go.RowKit Go.Proofs.YtjjnjnnfebifnaaGreatDoorW.PrintWords Go.Proofs.YtjjnjnnfebifnaaGreatDoorW.PrintLast Go.Proofs.YtjjnjnnfebifnaaGreatDoor.PReachNormal

open Go.Maps Go.Sort Go.Shelf

theorem free_none {x : S25} {l : List ByteArray} (hl : ∀ z, z ∈ l ↔ rfree z x = true) : ((l.length : Int) == 0) = !pfB x [] := by
  have hm : ∀ z, z ∈ l ↔ z ∈ pfree x [] := fun z => by rw [hl z, mem_pfree z x []]; simp
  unfold pfB
  rw [Bool.not_not]
  cases hp : pfree x [] with
  | nil =>
    have : l = [] := List.eq_nil_iff_forall_not_mem.2 (fun z hz => by have := (hm z).1 hz; rw [hp] at this; cases this)
    subst this; rfl
  | cons z r =>
    have : z ∈ l := (hm z).2 (by rw [hp]; exact List.mem_cons_self)
    cases l with
    | nil => cases this
    | cons a t =>
      simp only [List.isEmpty_cons, beq_eq_false_iff_ne, List.length_cons]
      omega

set_option maxHeartbeats 4000000 in
set_option maxRecDepth 100000 in
/-- the reference's Normal -/
theorem rNormal_calls (ho : OneKid shpP) (x : S25) (A3 : Option Addr) (c3 : Nat) (A4 : Option Addr) (c4 : Nat) (A5 : Option Addr) (c5 : Nat) (w : World) (hf : fine x = true) (hsz : size x ≤ 12000) (hsh : shapes shpP x = true) (hL : Lay w x A3 c3 A4 c4 A5 c5) :
    Calls Tryz.prog 36 #[ag x A3 c3 A4 c4 A5 c5] w fun e w' => e = .returned (.bool (rnorm x && !pfB x [])) ∧ Below w.heap.size w w' := by
  have hu25 := Tryz.underlying25
  have HX := Aside0.mk (blk_new w (bx x A3 c3 A4 c4 A5 c5))
  have HB := Aside0.mk (bel_a w (bx x A3 c3 A4 c4 A5 c5))
  have H81 := Aside0.mk (rnorm_calls ho (size x) x A3 c3 A4 c4 A5 c5 (w.alloc (bx x A3 c3 A4 c4 A5 c5)) (Nat.le_refl _) hf hsh (hL.below HB.out))
  have H14 : Aside0 (∀ w', Below w.heap.size w w' → Calls Tryz.prog 14 #[ag x A3 c3 A4 c4 A5 c5] w' fun e w'' => ∃ A n c, e = .returned (.slice A n c) ∧ ((n : Int) == 0) = (!pfB x []) ∧ Below w'.heap.size w' w'') := ⟨fun w' hb => (rfree_calls (size x) x A3 c3 A4 c4 A5 c5 w' (Nat.le_refl _) hsz hf (hL.below hb)).mono (by
    rintro e w'' ⟨v, l, rfl, h1, h2, h3, h4⟩
    obtain ⟨A, c, rfl, _⟩ := RowS.C h1
    exact ⟨A, l.length, c, rfl, free_none h2, h4⟩)⟩
  clear hf hL ho hsz hsh
  generalize rnorm x = r at H81 ⊢
  generalize (!pfB x []) = p at H14 ⊢
  go_enter Tryz.func36, Tryz.ntmps36
  go_upto_region 1 with fail
  generalize w.alloc (bx x A3 c3 A4 c4 A5 c5) = W1 at HX HB H81 ⊢
  have a0 := (blk_cell HX.out 0).trans rfl
  have a1 := (blk_cell HX.out 1).trans rfl
  have a2 := (blk_cell HX.out 2).trans rfl
  have a3 := (blk_cell HX.out 3).trans rfl
  have a4 := (blk_cell HX.out 4).trans rfl
  have a5 := (blk_cell HX.out 5).trans rfl
  cases r
  · go_wp2_with (first
      | (go_at_call 81; with_reducible refine H81.out.mono ?_; rintro e w1 ⟨rfl, hb⟩; have HB1 := Aside0.mk hb; clear hb))
    go_ret
    exact ⟨ret_bool (by simp), below_step HB.out HB1.out⟩
  · go_wp2_with (first
      | (go_at_call 81; with_reducible refine H81.out.mono ?_; rintro e w1 ⟨rfl, hb⟩; have HB1 := Aside0.mk hb; have HX1 := Aside0.mk (blk_below HX.out HB1.out); have HBB := Aside0.mk (below_step HB.out HB1.out); clear hb; have b0 := (blk_cell HX1.out 0).trans rfl; have b1 := (blk_cell HX1.out 1).trans rfl; have b2 := (blk_cell HX1.out 2).trans rfl; have b3 := (blk_cell HX1.out 3).trans rfl; have b4 := (blk_cell HX1.out 4).trans rfl; have b5 := (blk_cell HX1.out 5).trans rfl)
      | (go_at_call 14; with_reducible refine (H14.out _ HBB.out).mono ?_; rintro e w2 ⟨A, n, c, rfl, hn, hb⟩; have HN := Aside0.mk hn; have HB2 := Aside0.mk (below_step HBB.out hb); clear hn hb))
    go_ret
    exact ⟨ret_bool (by simpa using HN.out), HB2.out⟩

/-! ### the program's Free -/
theorem keys_calls (mb : Option Nat) (W : World) : Calls Tryz.prog 145 #[.map mb] W fun e w' => e = .returned (.func (.func 214) #[] #[.pointer (some ⟨W.heap.size, 0, none⟩)]) ∧ w' = W.alloc (.cells #[.map mb] 93) :=
  callsIn_wide.1 (Tryz.maps_Keys_145 mb W)
theorem keys_len (D : DataW Unit) : (strKeys D).length = Maps.size D := by cases D <;> simp [strKeys, Maps.size]
theorem skeys_calls (b nn : Nat) (bb : Bool) (w : World) (h : OutAt w b nn bb) (hn : nn ≤ 1000000000) :
    Calls Tryz.prog 144 #[.func (.func 214) #[] #[.pointer (some ⟨w.heap.size, 0, none⟩)]] (w.alloc (.cells #[.map (some b)] 93)) fun e w' => ∃ A n c, e = .returned (.slice A n c) ∧ ((n : Int) == 0) = (!bb) ∧ Below w.heap.size w w' := by
  obtain ⟨D, hD, rfl⟩ := h
  have hs := hD.size_le
  refine (callsIn_wide.1 (Tryz.slices_Sorted_keys_144_145 b nn D (plainElem Tryz.prog 4) w hD (by unfold maxLen; omega) (by omega))).mono ?_
  rintro e w' ⟨v, ss, rfl, hp, hr, _, hb⟩
  have hlen : ss.length = Maps.size D := hp.length_eq.trans (keys_len D)
  have hv : ∃ A c, v = .slice A ss.length c := by
    rcases hr.2 with ⟨rfl, h0⟩ | ⟨g, cap, cur, rfl, _⟩
    · exact ⟨none, 0, by rw [h0]⟩
    · exact ⟨_, _, rfl⟩
  obtain ⟨A, c, rfl⟩ := hv
  refine ⟨A, ss.length, c, rfl, ?_, below_step (bel_a w _) hb⟩
  rw [hlen]
  by_cases h0 : Maps.size D = 0
  · simp [h0]
  · have : ((Maps.size D : Nat) : Int) ≠ 0 := by omega
    simp [h0]

set_option maxHeartbeats 4000000 in
set_option maxRecDepth 100000 in
theorem pFree_calls (ho : OneKid shpP) (x : S25) (A3 : Option Addr) (c3 : Nat) (A4 : Option Addr) (c4 : Nat) (A5 : Option Addr) (c5 : Nat) (w : World) (hf : fine x = true) (hsz : size x ≤ 12000) (hv : pvalid shpP x = true) (hL : Lay w x A3 c3 A4 c4 A5 c5) :
    Calls Tryz.prog 80 #[ag x A3 c3 A4 c4 A5 c5] w fun e w' => ∃ A n c, e = .returned (.slice A n c) ∧ ((n : Int) == 0) = (!pfB x []) ∧ Below w.heap.size w w' := by
  have hu25 := Tryz.underlying25
  have hsh := ((pvalid_iff shpP ho x).1 hv).2.2.1
  have HF := Aside0.mk hf
  have HL := Aside0.mk hL
  have HSZ := Aside0.mk hsz
  have HSH := Aside0.mk hsh
  have hmk : ∀ (t : TypeId) (w : World), (Instr.makeMap t none).run Tryz.prog w = .ok (.map (some w.heap.size)) (w.alloc (.map #[] 0)) := fun t w => rfl
  have HX := Aside0.mk (blk_new w (bx x A3 c3 A4 c4 A5 c5))
  have HB := Aside0.mk (bel_a w (bx x A3 c3 A4 c4 A5 c5))
  have H41 := Aside0.mk (valid_calls ho x A3 c3 A4 c4 A5 c5 (w.alloc (bx x A3 c3 A4 c4 A5 c5)) hf (hL.below HB.out))
  rw [hv] at H41
  clear hf hL hsz hsh hv ho
  go_enter Tryz.func80, Tryz.ntmps80
  go_upto_region 1 with fail
  generalize w.alloc (bx x A3 c3 A4 c4 A5 c5) = W1 at HX HB H41 ⊢
  have a0 := (blk_cell HX.out 0).trans rfl
  have a1 := (blk_cell HX.out 1).trans rfl
  have a2 := (blk_cell HX.out 2).trans rfl
  have a3 := (blk_cell HX.out 3).trans rfl
  have a4 := (blk_cell HX.out 4).trans rfl
  have a5 := (blk_cell HX.out 5).trans rfl
  go_upto_region 3 with (first
    | (go_at_call 41; with_reducible refine H41.out.mono ?_; rintro e w1 ⟨rfl, hb⟩; have HB1 := Aside0.mk hb; clear hb))
  have HX1 := Aside0.mk (blk_below HX.out HB1.out)
  have HBB := Aside0.mk (below_step HB.out HB1.out)
  clear H41 HX HB HB1 a0 a1 a2 a3 a4 a5
  go_upto_region 4 with fail
  have HX2 := Aside0.mk (blk_below HX1.out (bel_a w1 (.map #[] 0)))
  have b0 := (blk_cell HX2.out 0).trans rfl
  have b1 := (blk_cell HX2.out 1).trans rfl
  have b2 := (blk_cell HX2.out 2).trans rfl
  have b3 := (blk_cell HX2.out 3).trans rfl
  have b4 := (blk_cell HX2.out 4).trans rfl
  have b5 := (blk_cell HX2.out 5).trans rfl
  have s1 : (w1.alloc (.map #[] 0)).heap.size = w1.heap.size + 1 := size_alloc ..
  have HO := Aside0.mk (show OutAt ((w1.alloc (.map #[] 0)).alloc (.map #[] 0)) w1.heap.size 0 false from ⟨.map [], (World.ownsMap_made w1 Tryz.prog 9 (plainElem Tryz.prog 4)).alloc (.map #[] 0), rfl⟩)
  have HBN := Aside0.mk (show BndAt ((w1.alloc (.map #[] 0)).alloc (.map #[] 0)) (w1.heap.size + 1) [] from ⟨#[], 0, two_new w1 (.map #[] 0) (.map #[] 0), fun e he => by simp at he, fun s => rfl⟩)
  have HB2 := Aside0.mk (below_alloc (bel_a w1 (.map #[] 0)) (.map #[] 0))
  have HFC := Aside0.mk (free_calls (size x) x [] 0 false (w1.heap.size + 1) w1.heap.size A3 c3 A4 c4 A5 c5 w1 ((w1.alloc (.map #[] 0)).alloc (.map #[] 0)) (Nat.le_refl _) HF.out HSH.out (HL.out.below HBB.out) HB2.out (by omega) (Nat.le_refl _) (by omega) HBN.out HO.out (by have := HSZ.out; simp only [List.length_nil]; omega) (by have := HSZ.out; omega))
  go_upto_region 5 with (first
    | (go_at_call 143; with_reducible refine HFC.out.mono ?_; rintro e w2 ⟨rfl, hp⟩; have HP := Aside0.mk hp; clear hp))
  obtain ⟨nn, hnn, _, ho, ht⟩ := HP.out

  have HB3 := Aside0.mk (below_step HBB.out (Tch.below HB2.out ht (fun i hi => by rcases hi with rfl | rfl <;> omega)))
  rw [Bool.false_or] at ho
  have HSK := Aside0.mk (skeys_calls _ nn _ w2 ho (by have := HSZ.out; omega))
  clear hnn ho ht HP HFC HB2 HBN HO HBB HX1 HX2 s1 b0 b1 b2 b3 b4 b5
  go_wp2_with (first
    | (go_at_call 145; with_reducible refine (keys_calls _ _).mono ?_; rintro e w3 ⟨rfl, hw⟩; obtain rfl := hw.symm)
    | (go_at_call 144; with_reducible refine HSK.out.mono ?_; rintro e w4 ⟨A, n, c, rfl, hn, hb⟩; have HQ := Aside0.mk (And.intro hn hb); clear hn hb))
  go_ret
  exact ⟨A, n, c, rfl, HQ.out.1, below_step HB3.out HQ.out.2⟩

theorem ret_be {a a' : Bool} {b b' : Int} (h1 : a = a') (h2 : b = b') : Ending.returned (.tuple #[.bool a, .int .i64 b]) = .returned (.tuple #[.bool a', .int .i64 b']) := by rw [h1, h2]

set_option maxHeartbeats 4000000 in
set_option maxRecDepth 100000 in
/-- the program's Normal -/
theorem pNormal_calls (ho : OneKid shpP) (x : S25) (A3 : Option Addr) (c3 : Nat) (A4 : Option Addr) (c4 : Nat) (A5 : Option Addr) (c5 : Nat) (w : World) (hf : fine x = true) (hsz : size x ≤ 12000) (hL : Lay w x A3 c3 A4 c4 A5 c5) :
    Calls Tryz.prog 35 #[ag x A3 c3 A4 c4 A5 c5] w fun e w' => e = .returned (.tuple #[.bool (pvalid shpP x && (normF x && !pfB x [])), .int .i64 (if pvalid shpP x then 0 else 1)]) ∧ Below w.heap.size w w' := by
  have hu25 := Tryz.underlying25
  have HX := Aside0.mk (blk_new w (bx x A3 c3 A4 c4 A5 c5))
  have HB := Aside0.mk (bel_a w (bx x A3 c3 A4 c4 A5 c5))
  have H41 := Aside0.mk (valid_calls ho x A3 c3 A4 c4 A5 c5 (w.alloc (bx x A3 c3 A4 c4 A5 c5)) hf (hL.below HB.out))
  have H79 : Aside0 (pvalid shpP x = true → ∀ w', Below w.heap.size w w' → Calls Tryz.prog 79 #[ag x A3 c3 A4 c4 A5 c5] w' fun e w'' => e = .returned (.bool (normF x)) ∧ Below w'.heap.size w' w'') := ⟨fun hv w' hb => norm_calls (size x) shpP ho x A3 c3 A4 c4 A5 c5 w' (Nat.le_refl _) hf ((pvalid_iff shpP ho x).1 hv).2.2.1 (hL.below hb)⟩
  have H80 : Aside0 (pvalid shpP x = true → ∀ w', Below w.heap.size w w' → Calls Tryz.prog 80 #[ag x A3 c3 A4 c4 A5 c5] w' fun e w'' => ∃ A n c, e = .returned (.slice A n c) ∧ ((n : Int) == 0) = (!pfB x []) ∧ Below w'.heap.size w' w'') := ⟨fun hv w' hb => pFree_calls ho x A3 c3 A4 c4 A5 c5 w' hf hsz hv (hL.below hb)⟩
  clear hf hL hsz ho
  obtain ⟨bv, hbv⟩ : ∃ b, b = pvalid shpP x := ⟨_, rfl⟩
  rw [← hbv] at H41 H79 H80 ⊢
  clear hbv
  generalize normF x = r at H79 ⊢
  generalize (!pfB x []) = p at H80 ⊢
  go_enter Tryz.func35, Tryz.ntmps35
  go_upto_region 1 with fail
  generalize w.alloc (bx x A3 c3 A4 c4 A5 c5) = W1 at HX HB H41 ⊢
  have a0 := (blk_cell HX.out 0).trans rfl
  have a1 := (blk_cell HX.out 1).trans rfl
  have a2 := (blk_cell HX.out 2).trans rfl
  have a3 := (blk_cell HX.out 3).trans rfl
  have a4 := (blk_cell HX.out 4).trans rfl
  have a5 := (blk_cell HX.out 5).trans rfl
  cases bv
  · go_wp2_with (first
      | (go_at_call 41; with_reducible refine H41.out.mono ?_; rintro e w1 ⟨rfl, hb⟩; have HB1 := Aside0.mk hb; clear hb))
    go_ret2
    exact ⟨rfl, below_step HB.out HB1.out⟩
  · have H79' := Aside0.mk (H79.out rfl)
    have H80' := Aside0.mk (H80.out rfl)
    clear H79 H80
    cases r
    · go_wp2_with (first
        | (go_at_call 41; with_reducible refine H41.out.mono ?_; rintro e w1 ⟨rfl, hb⟩; have HB1 := Aside0.mk hb; have HX1 := Aside0.mk (blk_below HX.out HB1.out); have HBB := Aside0.mk (below_step HB.out HB1.out); clear hb; have b0 := (blk_cell HX1.out 0).trans rfl; have b1 := (blk_cell HX1.out 1).trans rfl; have b2 := (blk_cell HX1.out 2).trans rfl; have b3 := (blk_cell HX1.out 3).trans rfl; have b4 := (blk_cell HX1.out 4).trans rfl; have b5 := (blk_cell HX1.out 5).trans rfl)
        | (go_at_call 79; with_reducible refine (H79'.out _ HBB.out).mono ?_; rintro e w2 ⟨rfl, hb⟩; have HB2 := Aside0.mk (below_step HBB.out hb); clear hb))
      go_ret2
      exact ⟨rfl, HB2.out⟩
    · go_wp2_with (first
        | (go_at_call 41; with_reducible refine H41.out.mono ?_; rintro e w1 ⟨rfl, hb⟩; have HB1 := Aside0.mk hb; have HX1 := Aside0.mk (blk_below HX.out HB1.out); have HBB := Aside0.mk (below_step HB.out HB1.out); clear hb; have b0 := (blk_cell HX1.out 0).trans rfl; have b1 := (blk_cell HX1.out 1).trans rfl; have b2 := (blk_cell HX1.out 2).trans rfl; have b3 := (blk_cell HX1.out 3).trans rfl; have b4 := (blk_cell HX1.out 4).trans rfl; have b5 := (blk_cell HX1.out 5).trans rfl)
        | (go_at_call 79; with_reducible refine (H79'.out _ HBB.out).mono ?_; rintro e w2 ⟨rfl, hb⟩; have HB2 := Aside0.mk (below_step HBB.out hb); have HX2 := Aside0.mk (blk_below HX1.out hb); clear hb; have d0 := (blk_cell HX2.out 0).trans rfl; have d1 := (blk_cell HX2.out 1).trans rfl; have d2 := (blk_cell HX2.out 2).trans rfl; have d3 := (blk_cell HX2.out 3).trans rfl; have d4 := (blk_cell HX2.out 4).trans rfl; have d5 := (blk_cell HX2.out 5).trans rfl)
        | (go_at_call 80; with_reducible refine (H80'.out _ HB2.out).mono ?_; rintro e w3 ⟨A, n, c, rfl, hn, hb⟩; have HN := Aside0.mk hn; have HB3 := Aside0.mk (below_step HB2.out hb); clear hn hb))
      go_ret2
      exact ⟨ret_be (by simpa using HN.out) rfl, HB3.out⟩
end Go.Proofs.YtjjnjnnfebifnaaGreatDoor.Rn
