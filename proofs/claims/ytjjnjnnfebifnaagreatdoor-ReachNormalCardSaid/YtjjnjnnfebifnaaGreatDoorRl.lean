import Derived.Test.YtjjnjnnfebifnaaGreatDoorRk
import Derived.Test.YtjjnjnnfebifnaaGreatDoorRi
import Derived.Test.YtjjnjnnfebifnaaGreatDoorRj
set_option linter.all false
namespace Go.Proofs.YtjjnjnnfebifnaaGreatDoor.Rn
open Go.RowKit Go.Proofs.YtjjnjnnfebifnaaGreatDoorW.PrintWords Go.Proofs.YtjjnjnnfebifnaaGreatDoorW.PrintLast Go.Proofs.YtjjnjnnfebifnaaGreatDoor.PReachNormal

theorem valid_no (ho : OneKid shpP) {x : S25} (h : ¬ ((cnt x 61).1 ≤ 4000 ∧ (cnt x 61).2 ≤ 60 ∧ shapes shpP x = true ∧ arit x [] = true ∧ rgrow x = true)) : false = pvalid shpP x := by
  cases hp : pvalid shpP x
  · rfl
  · have := (pvalid_iff shpP ho x).1 hp
    exact (h ⟨this.1, this.2.1, this.2.2.1, this.2.2.2.1, this.2.2.2.2.1⟩).elim
theorem valid_yes (ho : OneKid shpP) {x : S25} (h1 : (cnt x 61).1 ≤ 4000) (h2 : (cnt x 61).2 ≤ 60) (h3 : shapes shpP x = true) (h4 : arit x [] = true) (h5 : rgrow x = true) : pvalid shpP x = true ↔ pairsOk (occs x []) := by
  rw [pvalid_iff shpP ho x]
  exact ⟨fun h => h.2.2.2.2.2, fun h => ⟨h1, h2, h3, h4, h5, h⟩⟩
theorem rowY_nil (w : World) (base : Nat) : RowY w base (.slice none 0 0) [] := ⟨rfl, .inl ⟨rfl, rfl⟩⟩
theorem rowS_nil (w : World) : RowS w (.slice none 0 0) [] := ⟨rfl, .inl ⟨rfl, rfl⟩⟩

/-- the pairs that the two loops have seen agree -/
def okTo (l : List Sym) (a b : Nat) : Prop := ∀ p q (y z : Sym), l[p]? = some y → l[q]? = some z → q < p → (p < a ∨ (p = a ∧ q < b)) → z.1 = y.1 → z.2 = y.2
theorem ok_zero (l : List Sym) : okTo l 0 0 := by intro p q y z _ _ _ h; omega
theorem ok_next {l : List Sym} {a : Nat} (h : okTo l a a) : okTo l (a + 1) 0 := by
  intro p q y z h1 h2 h3 h4
  exact h p q y z h1 h2 h3 (by omega)
theorem ok_step {l : List Sym} {a b : Nat} {y z : Sym} (h : okTo l a b) (h1 : l[a]? = some y) (h2 : l[b]? = some z) (hz : z.1 = y.1 → z.2 = y.2) : okTo l a (b + 1) := by
  intro p q y' z' g1 g2 g3 g4
  by_cases hq : p = a ∧ q = b
  · obtain ⟨rfl, rfl⟩ := hq
    rw [h1] at g1; rw [h2] at g2
    cases g1; cases g2
    exact hz
  · exact h p q y' z' g1 g2 g3 (by omega)
theorem ok_all {l : List Sym} (h : okTo l l.length 0) : pairsOk l := by
  intro i k hi hk
  exact h i k l[i] (l[k]'(by omega)) (List.getElem?_eq_getElem hi) (List.getElem?_eq_getElem (by omega)) hk (Or.inl hi)
theorem ok_not {l : List Sym} {a b : Nat} {y z : Sym} (hb : b < a) (h1 : l[a]? = some y) (h2 : l[b]? = some z) (hn : z.1 = y.1) (hm : z.2 ≠ y.2) : ¬ pairsOk l := by
  intro h
  obtain ⟨ha, e1⟩ := List.getElem?_eq_some_iff.1 h1
  obtain ⟨hb', e2⟩ := List.getElem?_eq_some_iff.1 h2
  have := h a b ha hb
  rw [e1, e2] at this
  exact hm (this hn)
theorem no_eq {b : Bool} {p : Prop} (h : b = true ↔ p) (hp : ¬ p) : false = b := by
  cases b
  · rfl
  · exact (hp (h.1 rfl)).elim
theorem yes_eq {b : Bool} {p : Prop} (h : b = true ↔ p) (hp : p) : true = b := (h.2 hp).symm

set_option maxHeartbeats 8000000 in
set_option maxRecDepth 100000 in
theorem rvalid_calls (ho : OneKid shpP) (x : S25) (A3 : Option Addr) (c3 : Nat) (A4 : Option Addr) (c4 : Nat) (A5 : Option Addr) (c5 : Nat) (w : World) (hf : fine x = true) (hsz : size x ≤ 12000) (hL : Lay w x A3 c3 A4 c4 A5 c5) :
    Calls Tryz.prog 9 #[ag x A3 c3 A4 c4 A5 c5] w fun e w' => e = .returned (.bool (pvalid shpP x)) ∧ Below w.heap.size w w' := by
  have hu25 := Tryz.underlying25
  have HF := Aside0.mk hf
  have HL := Aside0.mk hL
  have HO := Aside0.mk ho
  have HSZ := Aside0.mk hsz
  have HX := Aside0.mk (blk_new w (bx x A3 c3 A4 c4 A5 c5))
  have HB := Aside0.mk (bel_a w (bx x A3 c3 A4 c4 A5 c5))
  clear hf hL ho hsz
  go_enter Tryz.func9, Tryz.ntmps9
  go_upto_region 1 with fail
  generalize w.alloc (bx x A3 c3 A4 c4 A5 c5) = W1 at HX HB ⊢
  have a0 := (blk_cell HX.out 0).trans rfl
  have a1 := (blk_cell HX.out 1).trans rfl
  have a2 := (blk_cell HX.out 2).trans rfl
  have a3 := (blk_cell HX.out 3).trans rfl
  have a4 := (blk_cell HX.out 4).trans rfl
  have a5 := (blk_cell HX.out 5).trans rfl
  have H48 : Aside0 (Calls Tryz.prog 48 #[ag x A3 c3 A4 c4 A5 c5, .int .i64 61] W1 fun e w' => e = .returned (.tuple #[.int .i64 (cnt x 61).1, .int .i64 (cnt x 61).2]) ∧ Below W1.heap.size W1 w') := ⟨rcnt_calls (size x) x 61 A3 c3 A4 c4 A5 c5 W1 (Nat.le_refl _) HSZ.out (Nat.le_refl _) HF.out (HL.out.below HB.out)⟩
  have HNO := Aside0.mk (valid_no HO.out (x := x))
  have HYE := Aside0.mk (valid_yes HO.out (x := x))
  generalize (cnt x 61).1 = n1 at H48 HNO HYE
  generalize (cnt x 61).2 = n2 at H48 HNO HYE
  go_upto_region 2 with (first
    | (go_at_call 48; with_reducible refine H48.out.mono ?_; rintro e w1 ⟨rfl, hb⟩; have HB1 := Aside0.mk hb; clear hb))
  have HX1 := Aside0.mk (blk_below HX.out HB1.out)
  have HBB := Aside0.mk (below_step HB.out HB1.out)
  clear H48 HX HB HB1 a0 a1 a2 a3 a4 a5
  have b0 := (blk_cell HX1.out 0).trans rfl
  have b1 := (blk_cell HX1.out 1).trans rfl
  have b2 := (blk_cell HX1.out 2).trans rfl
  have b3 := (blk_cell HX1.out 3).trans rfl
  have b4 := (blk_cell HX1.out 4).trans rfl
  have b5 := (blk_cell HX1.out 5).trans rfl
  by_cases h1 : (4000 : Int) < (n1 : Int)
  · go_wp2_with fail
    go_ret
    exact ⟨ret_bool (HNO.out (by omega)), HBB.out⟩
  by_cases h2 : (60 : Int) < (n2 : Int)
  · go_wp2_with fail
    go_ret
    exact ⟨ret_bool (HNO.out (by omega)), HBB.out⟩
  have H49 := Aside0.mk (rshapes_calls rshape_calls (size x) x A3 c3 A4 c4 A5 c5 w1 (Nat.le_refl _) HF.out (HL.out.below HBB.out))
  have H50 : Aside0 (∀ w', Below w1.heap.size w1 w' → Calls Tryz.prog 50 #[ag x A3 c3 A4 c4 A5 c5, .slice none 0 0] w' fun e w'' => e = .returned (.bool (arit x [])) ∧ Below w'.heap.size w' w'') := ⟨fun w' hb => arit_calls (size x) x [] (.slice none 0 0) A3 c3 A4 c4 A5 c5 w' (Nat.le_refl _) HF.out (HL.out.below (below_step HBB.out hb)) (rowY_nil _ _) (by have := HSZ.out; simp only [List.length_nil]; omega)⟩
  have H51 : Aside0 (shapes shpP x = true → ∀ w', Below w1.heap.size w1 w' → Calls Tryz.prog 51 #[ag x A3 c3 A4 c4 A5 c5] w' fun e w'' => e = .returned (.bool (rgrow x)) ∧ Below w'.heap.size w' w'') := ⟨fun hs w' hb => rgrow_calls HO.out (size x) x A3 c3 A4 c4 A5 c5 w' (Nat.le_refl _) HF.out hs (HL.out.below (below_step HBB.out hb))⟩
  have H52 : Aside0 (∀ w', Below w1.heap.size w1 w' → Calls Tryz.prog 52 #[ag x A3 c3 A4 c4 A5 c5, .slice none 0 0, .slice none 0 0] w' fun e w'' => ∃ ov', e = .returned ov' ∧ RowY w'' w'.heap.size ov' (occs x []) ∧ Below w'.heap.size w' w'') := ⟨fun w' hb => (occ_calls (size x) x [] (.slice none 0 0) (.slice none 0 0) [] w'.heap.size A3 c3 A4 c4 A5 c5 w' w' (Nat.le_refl _) HF.out (HL.out.below (below_step HBB.out hb)) (Below.refl _ _) (Nat.le_refl _) (Nat.le_refl _) (rowS_nil _) (rowY_nil _ _) (by have := HSZ.out; simp only [List.length_nil]; omega) (by have := HSZ.out; simp only [List.length_nil]; omega)).mono (by
    rintro e w'' ⟨ov', rfl, h1, h2, h3⟩
    exact ⟨ov', rfl, h1, Tch.below (Below.refl _ _) h2 (fun i hi => by simp [Value.ownBlock] at hi)⟩)⟩
  have HOL := Aside0.mk (Nat.le_trans (occs_len x []) HSZ.out)
  obtain ⟨bs, hbs⟩ : ∃ b, b = shapes shpP x := ⟨_, rfl⟩
  rw [← hbs] at H49 H51 HNO HYE
  clear hbs
  generalize arit x [] = ba at H50 HNO HYE
  generalize rgrow x = bg at H51 HNO HYE
  generalize occs x [] = l at H52 HYE HOL
  cases bs
  · go_wp2_with (first
      | (go_at_call 49; with_reducible refine H49.out.mono ?_; rintro e w2 ⟨rfl, hb⟩; have HB2 := Aside0.mk hb; clear hb))
    go_ret
    exact ⟨ret_bool (HNO.out (by simp)), below_step HBB.out HB2.out⟩
  have H51' := Aside0.mk (H51.out rfl)
  clear H51
  cases ba
  · go_wp2_with (first
      | (go_at_call 49; with_reducible refine H49.out.mono ?_; rintro e w2 ⟨rfl, hb⟩; have HB2 := Aside0.mk hb; have HX2 := Aside0.mk (blk_below HX1.out HB2.out); clear hb; have c0 := (blk_cell HX2.out 0).trans rfl; have c1 := (blk_cell HX2.out 1).trans rfl; have c2 := (blk_cell HX2.out 2).trans rfl; have c3' := (blk_cell HX2.out 3).trans rfl; have c4' := (blk_cell HX2.out 4).trans rfl; have c5' := (blk_cell HX2.out 5).trans rfl)
      | (go_at_call 50; with_reducible refine (H50.out _ HB2.out).mono ?_; rintro e w3 ⟨rfl, hb⟩; have HB3 := Aside0.mk hb; clear hb))
    go_ret
    exact ⟨ret_bool (HNO.out (by simp)), below_step (below_step HBB.out HB2.out) HB3.out⟩
  cases bg
  · go_wp2_with (first
      | (go_at_call 49; with_reducible refine H49.out.mono ?_; rintro e w2 ⟨rfl, hb⟩; have HB2 := Aside0.mk hb; have HX2 := Aside0.mk (blk_below HX1.out HB2.out); clear hb; have c0 := (blk_cell HX2.out 0).trans rfl; have c1 := (blk_cell HX2.out 1).trans rfl; have c2 := (blk_cell HX2.out 2).trans rfl; have c3' := (blk_cell HX2.out 3).trans rfl; have c4' := (blk_cell HX2.out 4).trans rfl; have c5' := (blk_cell HX2.out 5).trans rfl)
      | (go_at_call 50; with_reducible refine (H50.out _ HB2.out).mono ?_; rintro e w3 ⟨rfl, hb⟩; have HB3 := Aside0.mk (below_step HB2.out hb); have HX3 := Aside0.mk (blk_below HX2.out hb); clear hb; have d0 := (blk_cell HX3.out 0).trans rfl; have d1 := (blk_cell HX3.out 1).trans rfl; have d2 := (blk_cell HX3.out 2).trans rfl; have d3 := (blk_cell HX3.out 3).trans rfl; have d4 := (blk_cell HX3.out 4).trans rfl; have d5 := (blk_cell HX3.out 5).trans rfl)
      | (go_at_call 51; with_reducible refine (H51'.out _ HB3.out).mono ?_; rintro e w4 ⟨rfl, hb⟩; have HB4 := Aside0.mk (below_step HB3.out hb); clear hb))
    go_ret
    exact ⟨ret_bool (HNO.out (by simp)), below_step HBB.out HB4.out⟩
  have HY := Aside0.mk (HYE.out (by omega) (by omega) rfl rfl rfl)
  clear HYE HNO
  go_upto_region 5 with (first
      | (go_at_call 49; with_reducible refine H49.out.mono ?_; rintro e w2 ⟨rfl, hb⟩; have HB2 := Aside0.mk hb; have HX2 := Aside0.mk (blk_below HX1.out HB2.out); clear hb; have c0 := (blk_cell HX2.out 0).trans rfl; have c1 := (blk_cell HX2.out 1).trans rfl; have c2 := (blk_cell HX2.out 2).trans rfl; have c3' := (blk_cell HX2.out 3).trans rfl; have c4' := (blk_cell HX2.out 4).trans rfl; have c5' := (blk_cell HX2.out 5).trans rfl)
      | (go_at_call 50; with_reducible refine (H50.out _ HB2.out).mono ?_; rintro e w3 ⟨rfl, hb⟩; have HB3 := Aside0.mk (below_step HB2.out hb); have HX3 := Aside0.mk (blk_below HX2.out hb); clear hb; have d0 := (blk_cell HX3.out 0).trans rfl; have d1 := (blk_cell HX3.out 1).trans rfl; have d2 := (blk_cell HX3.out 2).trans rfl; have d3 := (blk_cell HX3.out 3).trans rfl; have d4 := (blk_cell HX3.out 4).trans rfl; have d5 := (blk_cell HX3.out 5).trans rfl)
      | (go_at_call 51; with_reducible refine (H51'.out _ HB3.out).mono ?_; rintro e w4 ⟨rfl, hb⟩; have HB4 := Aside0.mk (below_step HB3.out hb); have HX4 := Aside0.mk (blk_below HX3.out hb); clear hb; have e0 := (blk_cell HX4.out 0).trans rfl; have e1 := (blk_cell HX4.out 1).trans rfl; have e2 := (blk_cell HX4.out 2).trans rfl; have e3 := (blk_cell HX4.out 3).trans rfl; have e4 := (blk_cell HX4.out 4).trans rfl; have e5 := (blk_cell HX4.out 5).trans rfl)
      | (go_at_call 52; with_reducible refine (H52.out _ HB4.out).mono ?_; rintro e w5 ⟨ov, rfl, hro, hb⟩; have HRO := Aside0.mk hro; have HB5 := Aside0.mk (below_step (below_step HBB.out HB4.out) hb); clear hro hb))
  clear H49 H50 H51' H52 HX1 HX2 HX3 HX4 HBB HB2 HB3 HB4
  clear b0 b1 b2 b3 b4 b5 c0 c1 c2 c3' c4' c5' d0 d1 d2 d3 d4 d5 e0 e1 e2 e3 e4 e5
  generalize w4.heap.size = base at HRO
  obtain ⟨A, c, rfl⟩ : ∃ A c, ov = .slice A l.length c := by
    rcases HRO.out.2 with ⟨rfl, h0⟩ | ⟨g, cap, cur, rfl, _⟩
    · exact ⟨none, 0, by rw [h0]⟩
    · exact ⟨_, _, rfl⟩
  have hll : l.length ≤ 12000 := HOL.out
  go_wp2_with fail
  go_loopw [6, 7] (fun i _ wr => ∃ a : Nat, a ≤ l.length ∧ i = .int .i64 a ∧ Aside0 (Below w5.heap.size w5 wr) ∧ Aside0 (okTo l a 0)) (fun i _ _ => l.length - (intOf i).toNat)
  case atStart => exact ⟨0, Nat.zero_le _, rfl, ⟨Below.refl _ _⟩, ⟨ok_zero l⟩⟩
  case round =>
    obtain ⟨a, hal, rfl, HW, HK⟩ := hrel
    by_cases hlt : a < l.length
    · go_wp2_with fail
      go_loopw [7] (fun k wr => ∃ b : Nat, b ≤ a ∧ k = .int .i64 b ∧ Aside0 (Below w5.heap.size w5 wr) ∧ Aside0 (okTo l a b)) (fun k _ => a - (intOf k).toNat)
      case atStart => exact ⟨0, Nat.zero_le _, rfl, HW, HK⟩
      case round =>
        clear HW HK
        obtain ⟨b, hba, rfl, HW, HK⟩ := hrel
        by_cases hlb : b < a
        · obtain ⟨ad, cap, s, m, he, hcap, hx, p1, p2⟩ := sym_at (own_keep HRO.out HW.out) b (by omega)
          obtain ⟨ad', cap', s', m', he', hcap', hx', q1, q2⟩ := sym_at (own_keep HRO.out HW.out) a hlt
          simp only [Value.slice.injEq] at he he'
          obtain ⟨rfl, _, rfl⟩ := he
          obtain ⟨e1, _, rfl⟩ := he'
          obtain rfl := Option.some.inj e1
          clear e1
          have HXX := Aside0.mk (And.intro hx hx')
          clear hx hx' hcap'
          cases hs : (s.toList == s'.toList)
          · have HS := Aside0.mk hs
            go_wp2_with fail
            go_quiet (fail)
            go_wp2_with fail
            go_roundw
            case rel => exact ⟨b + 1, by omega, by go_num, ⟨pw_below_drewN HW.out _⟩, ⟨ok_step HK.out HXX.out.2 HXX.out.1 (fun e => by
              have := HS.out
              rw [bytes_eq] at this
              simp only [decide_eq_false_iff_not] at this
              exact (this e).elim)⟩⟩
            case measure => simp [intOf]; omega
          · have HS := Aside0.mk hs
            cases hm : (m == m')
            · have HM := Aside0.mk hm
              go_wp2_with fail
              go_quiet (fail)
              go_wp2_with fail
              go_ret
              exact ⟨ret_bool (no_eq HY.out (ok_not hlb HXX.out.2 HXX.out.1 (by
                have := HS.out
                rw [bytes_eq] at this
                simpa only [decide_eq_true_eq] using this) (by simpa using HM.out))), below_step HB5.out (pw_below_drewN HW.out _)⟩
            · have HM := Aside0.mk hm
              go_wp2_with fail
              go_quiet (fail)
              go_wp2_with fail
              go_roundw
              case rel => exact ⟨b + 1, by omega, by go_num, ⟨pw_below_drewN HW.out _⟩, ⟨ok_step HK.out HXX.out.2 HXX.out.1 (fun e => by simpa using HM.out)⟩⟩
              case measure => simp [intOf]; omega
        · obtain rfl : b = a := by omega
          go_wp2_with fail
          go_roundw
          case rel => exact ⟨b + 1, by omega, by go_num, HW, ⟨ok_next HK.out⟩⟩
          case measure => simp [intOf]; omega
    · obtain rfl : a = l.length := by omega
      go_wp2_with fail
      go_ret
      exact ⟨ret_bool (yes_eq HY.out (ok_all HK.out)), below_step HB5.out HW.out⟩
end Go.Proofs.YtjjnjnnfebifnaaGreatDoor.Rn
