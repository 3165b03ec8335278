import Derived.Test.YtjjnjnnfebifnaaGreatDoorRa
set_option linter.all false
namespace Go.Proofs.YtjjnjnnfebifnaaGreatDoor.Rn
open Go.RowKit Go.Proofs.YtjjnjnnfebifnaaGreatDoorW.PrintWords Go.Proofs.YtjjnjnnfebifnaaGreatDoorW.PrintLast Go.Proofs.YtjjnjnnfebifnaaGreatDoor.PReachNormal

/-- a rule, cell by cell -/
structure RuleR where
  k0 : Int
  k1 : Int
  a0 : Int
  a1 : Int
  v0 : Int
  v1 : Int
  nm : Bool
  ar : Bool
  ti : Bool
def ruleOf (k : Int) : RuleR :=
  if k = 0 then ⟨0, 0, 0, 12, 0, 0, true, false, false⟩
  else if k = 1 ∨ k = 2 then ⟨0, 0, 2, 2, 0, 0, false, false, false⟩
  else if k = 3 then ⟨1, 1, 0, 0, 0, 0, false, false, false⟩
  else if k = 4 ∨ k = 5 then ⟨0, 1073741824, 0, 0, 0, 0, false, false, false⟩
  else if k = 6 ∨ k = 7 then ⟨1, 1, 0, 0, 1, 12, false, false, false⟩
  else if k = 8 ∨ k = 9 then ⟨1, 1, 1, 12, 1, 12, true, false, true⟩
  else if k = 10 then ⟨1, 1, 2, 24, 2, 24, false, false, true⟩
  else if k = 11 then ⟨1, 1, 0, 0, 0, 0, true, true, false⟩
  else ⟨1, 0, 0, 0, 0, 0, false, false, false⟩
abbrev RuleR.val (r : RuleR) : Value := .agg #[.int .i64 r.k0, .int .i64 r.k1, .int .i64 r.a0, .int .i64 r.a1, .int .i64 r.v0, .int .i64 r.v1, .bool r.nm, .bool r.ar, .bool r.ti]

theorem rule_res (tmps : Array Value) (w : World) (h : tmps.getD 2 undef = .pointer (some ⟨w.heap.size, 0, none⟩)) (c0 c1 c2 c3 c4 c5 : Int) (c6 c7 c8 : Bool) :
    (results Tryz.f287 tmps).run Tryz.prog (w.alloc (.cells #[.int .i64 c0, .int .i64 c1, .int .i64 c2, .int .i64 c3, .int .i64 c4, .int .i64 c5, .bool c6, .bool c7, .bool c8] 349)) =
      .ok (.agg #[.int .i64 c0, .int .i64 c1, .int .i64 c2, .int .i64 c3, .int .i64 c4, .int .i64 c5, .bool c6, .bool c7, .bool c8]) (w.alloc (.cells #[.int .i64 c0, .int .i64 c1, .int .i64 c2, .int .i64 c3, .int .i64 c4, .int .i64 c5, .bool c6, .bool c7, .bool c8] 349)) := by
  have hr : Tryz.f287.results = #[.cell 2 349] := by kernel_rfl
  simp only [results, hr]
  have h' : tmps[2]?.getD undef = .pointer (some ⟨w.heap.size, 0, none⟩) := by rw [← Array.getD_eq_getD_getElem?]; exact h
  simp [go_sem, h']

set_option maxHeartbeats 1600000 in
set_option maxRecDepth 100000 in
theorem rules_calls (k : Int) (w : World) : Calls Tryz.prog 287 #[.int .i64 k] w fun e w' => e = .returned (ruleOf k).val ∧ Below w.heap.size w w' := by
  go_enter Tryz.func287, Tryz.ntmps287
  go_wp2
  all_goals simp only [beq_iff_eq, beq_eq_false_iff_ne] at *
  all_goals refine bodyPost_ret (rule_res _ _ (by rfl) _ _ _ _ _ _ _ _ _) rfl ⟨?_, bel_a _ _⟩
  all_goals (simp [ruleOf, *]; done)
end Go.Proofs.YtjjnjnnfebifnaaGreatDoor.Rn
namespace Go.Proofs.YtjjnjnnfebifnaaGreatDoor.Rn
open Go.RowKit Go.Proofs.YtjjnjnnfebifnaaGreatDoorW.PrintWords Go.Proofs.YtjjnjnnfebifnaaGreatDoorW.PrintLast Go.Proofs.YtjjnjnnfebifnaaGreatDoor.PReachNormal

theorem rules_at (k : Int) (r : RuleR) (h : ruleOf k = r) (w : World) : Calls Tryz.prog 287 #[.int .i64 k] w fun e w' => e = .returned (.agg #[.int .i64 r.k0, .int .i64 r.k1, .int .i64 r.a0, .int .i64 r.a1, .int .i64 r.v0, .int .i64 r.v1, .bool r.nm, .bool r.ar, .bool r.ti]) ∧ Below w.heap.size w w' := by
  subst h; exact rules_calls k w

def shp1 (x : S25) (k0 k1 : Int) (nm : Bool) : Bool := decide ((x.f5.length : Int) < k0) || decide (k1 < (x.f5.length : Int)) || (nm == x.f2.toList.isEmpty) || (nm && !nmB x.f2)
def shp2 (x : S25) (ar : Bool) : Bool := (!ar && !(x.f1 == 0)) || decide (x.f1 < 0) || decide (12 < x.f1) || ((x.f0 == 10) && !((x.f3.length : Int) % 2 == 0))
def shpR (x : S25) (r : RuleR) : Bool := !shp1 x r.k0 r.k1 r.nm && !shp2 x r.ar && namesB x.f4 r.a0 r.a1 false && namesB x.f3 r.v0 r.v1 true && (!r.ti || ((x.f3.length : Int) == (x.f4.length : Int)))
/-- the program's shaped -/
def shpP (x : S25) : Bool := shpR x (ruleOf x.f0)

/-- the box of a rule -/
abbrev rx (k0 k1 a0 a1 v0 v1 : Int) (nm ar ti : Bool) : Obj := .cells #[.int .i64 k0, .int .i64 k1, .int .i64 a0, .int .i64 a1, .int .i64 v0, .int .i64 v1, .bool nm, .bool ar, .bool ti] 349

theorem two_below {w wc wd : World} {g h : Nat} {o o' : Obj} (H : wc.heap[g]? = some o ∧ wc.heap[h]? = some o' ∧ Below w.heap.size w wc) (k : Below wc.heap.size wc wd) : wd.heap[g]? = some o ∧ wd.heap[h]? = some o' ∧ Below w.heap.size w wd :=
  ⟨blk_below H.1 k, blk_below H.2.1 k, below_step H.2.2 k⟩

theorem shp_no1 {x : S25} {k0 k1 a0 a1 v0 v1 : Int} {nm ar ti : Bool} (h : ruleOf x.f0 = ⟨k0, k1, a0, a1, v0, v1, nm, ar, ti⟩) (h1 : true = shp1 x k0 k1 nm) : shpP x = false := by
  unfold shpP shpR; rw [h]; simp only; rw [← h1]; rfl
theorem shp_no2 {x : S25} {k0 k1 a0 a1 v0 v1 : Int} {nm ar ti : Bool} (h : ruleOf x.f0 = ⟨k0, k1, a0, a1, v0, v1, nm, ar, ti⟩) (h1 : true = shp2 x ar) : shpP x = false := by
  unfold shpP shpR; rw [h]; simp only; rw [← h1]; simp
theorem shp_yes {x : S25} {k0 k1 a0 a1 v0 v1 : Int} {nm ar ti : Bool} (h : ruleOf x.f0 = ⟨k0, k1, a0, a1, v0, v1, nm, ar, ti⟩) (h1 : false = shp1 x k0 k1 nm) (h2 : false = shp2 x ar) :
    shpP x = (namesB x.f4 a0 a1 false && namesB x.f3 v0 v1 true && (!ti || ((x.f3.length : Int) == (x.f4.length : Int)))) := by
  unfold shpP shpR; rw [h]; simp only; rw [← h1, ← h2]; simp

set_option maxHeartbeats 8000000 in
set_option maxRecDepth 100000 in
theorem shaped_calls (x : S25) (A3 : Option Addr) (c3 : Nat) (A4 : Option Addr) (c4 : Nat) (A5 : Option Addr) (c5 : Nat) (w : World) (hf : fine x = true) (hL : Lay w x A3 c3 A4 c4 A5 c5) :
    Calls Tryz.prog 229 #[ag x A3 c3 A4 c4 A5 c5] w fun e w' => e = .returned (.bool (shpP x)) ∧ Below w.heap.size w w' := by
  have hu25 := Tryz.underlying25
  have HF := Aside0.mk (fine_len hf)
  have HL := Aside0.mk hL
  clear hf hL
  obtain ⟨r, hr⟩ : ∃ r, ruleOf x.f0 = r := ⟨_, rfl⟩
  have HR := Aside0.mk hr
  clear hr
  obtain ⟨k0, k1, a0, a1, v0, v1, nm, ar, ti⟩ := r
  go_enter Tryz.func229, Tryz.ntmps229
  go_upto_region 2 with (first
    | (go_at_call 287; refine (rules_at x.f0 _ HR.out _).mono ?_; rintro e w1 ⟨rfl, hb⟩; obtain ⟨hc, hfz⟩ := bcell hb; have hz := one_lt hb; have HB := Aside0.mk hb; clear hb))
  have HX1 := Aside0.mk (HB.out.block w.heap.size (by rw [size_alloc]; omega) |>.trans (blk_new w (bx x A3 c3 A4 c4 A5 c5)))
  have HW := Aside0.mk (And.intro (blk_alloc HX1.out (rx k0 k1 a0 a1 v0 v1 nm ar ti)) (And.intro (blk_new w1 (rx k0 k1 a0 a1 v0 v1 nm ar ti)) (below_alloc (below_step (bel_a w _) HB.out) (rx k0 k1 a0 a1 v0 v1 nm ar ti))))
  clear hc hfz HB
  generalize hw2 : w1.alloc (.cells #[.int .i64 k0, .int .i64 k1, .int .i64 a0, .int .i64 a1, .int .i64 v0, .int .i64 v1, .bool nm, .bool ar, .bool ti] 349) = w2
  have HW2 : Aside0 (w2.heap[w.heap.size]? = some (bx x A3 c3 A4 c4 A5 c5) ∧ w2.heap[w1.heap.size]? = some (rx k0 k1 a0 a1 v0 v1 nm ar ti) ∧ Below w.heap.size w w2) := by subst hw2; exact HW
  clear hw2 HW HX1
  go_cut [40] (fun v40 wc => ∃ b : Bool, v40 = .bool b ∧ Aside0 (b = shp1 x k0 k1 nm) ∧ Aside0 (wc.heap[w.heap.size]? = some (bx x A3 c3 A4 c4 A5 c5) ∧ wc.heap[w1.heap.size]? = some (rx k0 k1 a0 a1 v0 v1 nm ar ti) ∧ Below w.heap.size w wc))
  case first =>
    have q2 : w2.cell? ⟨w.heap.size, 2, none⟩ = some (.string x.f2) := (blk_cell HW2.out.1 2).trans rfl
    have q5 : w2.cell? ⟨w.heap.size, 5, none⟩ = some (.slice A5 x.f5.length c5) := (blk_cell HW2.out.1 5).trans rfl
    have r0 : w2.cell? ⟨w1.heap.size, 0, none⟩ = some (.int .i64 k0) := (blk_cell HW2.out.2.1 0).trans rfl
    have r1 : w2.cell? ⟨w1.heap.size, 1, none⟩ = some (.int .i64 k1) := (blk_cell HW2.out.2.1 1).trans rfl
    have r6 : w2.cell? ⟨w1.heap.size, 6, none⟩ = some (.bool nm) := (blk_cell HW2.out.2.1 6).trans rfl
    have HE : ∀ b : Bool, b = shp1 x k0 k1 nm → Aside0 (b = shp1 x k0 k1 nm) := fun b h => ⟨h⟩
    clear HR
    cases nm
    all_goals
      go_wp2_with (first | (go_at_call 172; refine (name_calls x.f2 _).mono ?_; rintro e w3 ⟨rfl, hb⟩; have HB3 := Aside0.mk hb; clear hb))
      all_goals go_meet
      all_goals first
        | exact ⟨_, rfl, ⟨by simp [shp1, *]; done⟩, HW2⟩
        | exact ⟨_, rfl, ⟨by simp [shp1, *]; done⟩, ⟨two_below HW2.out HB3.out⟩⟩
  case rest =>
    obtain ⟨b1, rfl, hb1, h2⟩ := hcut
    have q0 : wc.cell? ⟨w.heap.size, 0, none⟩ = some (.int .i64 x.f0) := (blk_cell h2.out.1 0).trans rfl
    have q1 : wc.cell? ⟨w.heap.size, 1, none⟩ = some (.int .i64 x.f1) := (blk_cell h2.out.1 1).trans rfl
    have q3 : wc.cell? ⟨w.heap.size, 3, none⟩ = some (.slice A3 x.f3.length c3) := (blk_cell h2.out.1 3).trans rfl
    have q4 : wc.cell? ⟨w.heap.size, 4, none⟩ = some (.slice A4 x.f4.length c4) := (blk_cell h2.out.1 4).trans rfl
    have r2 : wc.cell? ⟨w1.heap.size, 2, none⟩ = some (.int .i64 a0) := (blk_cell h2.out.2.1 2).trans rfl
    have r3 : wc.cell? ⟨w1.heap.size, 3, none⟩ = some (.int .i64 a1) := (blk_cell h2.out.2.1 3).trans rfl
    have r4 : wc.cell? ⟨w1.heap.size, 4, none⟩ = some (.int .i64 v0) := (blk_cell h2.out.2.1 4).trans rfl
    have r5 : wc.cell? ⟨w1.heap.size, 5, none⟩ = some (.int .i64 v1) := (blk_cell h2.out.2.1 5).trans rfl
    have r7 : wc.cell? ⟨w1.heap.size, 7, none⟩ = some (.bool ar) := (blk_cell h2.out.2.1 7).trans rfl
    have r8 : wc.cell? ⟨w1.heap.size, 8, none⟩ = some (.bool ti) := (blk_cell h2.out.2.1 8).trans rfl
    cases b1
    · go_upto_region 4 with fail
      go_cut [70] (fun v70 wd => ∃ b : Bool, v70 = .bool b ∧ Aside0 (b = shp2 x ar) ∧ wd = wc)
      case first =>
        have hl3 : x.f3.length ≤ 12000 := HF.out.2.1
        clear HR hb1
        cases ar
        all_goals
          go_wp2_with fail
          all_goals go_meet
          all_goals exact ⟨_, rfl, ⟨by first | (simp [shp2, *]; done) | (simp [shp2, *]; rfl)⟩, rfl⟩
      case rest =>
        obtain ⟨b2, rfl, hb2, rfl⟩ := hcut
        have hz1 := World.block_lt_of_cell? _ _ q0
        have hz2 := World.block_lt_of_cell? _ _ r2
        cases b2
        · have HS := Aside0.mk (shp_yes HR.out hb1.out hb2.out)
          have HL2 := Aside0.mk (HL.out.below h2.out.2.2)
          clear HR hb1 hb2 HL q0 q1
          cases ti
          all_goals
            go_wp2_with (first
              | (go_at_call 288; (with_reducible refine (names_calls A4 c4 x.f4 a0 a1 false _ HF.out.2.2.1 HL2.out.l4 HL2.out.g4).mono ?_); rintro e w3 ⟨rfl, hb⟩; obtain ⟨hc, hfz⟩ := bcell hb; have HB3 := Aside0.mk hb; clear hb)
              | (go_at_call 288; (with_reducible refine (names_calls A3 c3 x.f3 v0 v1 true _ HF.out.2.1 HL2.out.l3 (Kd.C_below HL2.out.g3 HB3.out)).mono ?_); rintro e w4 ⟨rfl, hb⟩; have HB4 := Aside0.mk (below_step HB3.out hb); have t8 := (HB4.out.cell (p := ⟨w1.heap.size, 8, none⟩) hz2).trans r8; have t3 := (HB4.out.cell (p := ⟨w.heap.size, 3, none⟩) hz1).trans q3; have t4 := (HB4.out.cell (p := ⟨w.heap.size, 4, none⟩) hz1).trans q4; clear hb))
            all_goals go_ret
            all_goals first
              | exact ⟨ret_bool (by rw [HS.out]; simp [*]; done), below_step h2.out.2.2 HB4.out⟩
              | exact ⟨ret_bool (by rw [HS.out]; simp [*]; done), below_step h2.out.2.2 HB3.out⟩
        · go_wp2_with fail
          go_ret
          exact ⟨ret_bool (shp_no2 HR.out hb2.out).symm, h2.out.2.2⟩
    · go_wp2_with fail
      go_ret
      exact ⟨ret_bool (shp_no1 HR.out hb1.out).symm, h2.out.2.2⟩
end Go.Proofs.YtjjnjnnfebifnaaGreatDoor.Rn
namespace Go.Proofs.YtjjnjnnfebifnaaGreatDoor.Rn
open Go.RowKit Go.Proofs.YtjjnjnnfebifnaaGreatDoorW.PrintWords Go.Proofs.YtjjnjnnfebifnaaGreatDoorW.PrintLast Go.Proofs.YtjjnjnnfebifnaaGreatDoor.PReachNormal

/-- a shape has the kids that its rule says -/
theorem shp_kids {x : S25} (h : shpP x = true) : (ruleOf x.f0).k0 ≤ (x.f5.length : Int) ∧ (x.f5.length : Int) ≤ (ruleOf x.f0).k1 := by
  unfold shpP shpR shp1 at h
  simp only [Bool.and_eq_true, Bool.not_eq_true', Bool.or_eq_false_iff, decide_eq_false_iff_not] at h
  have := h.1.1.1.1.1.1
  omega
theorem rule_one {k : Int} (h : k = 3 ∨ k = 8 ∨ k = 9 ∨ k = 10) : (ruleOf k).k0 = 1 ∧ (ruleOf k).k1 = 1 := by
  rcases h with e | e | e | e <;> subst e <;> decide
theorem rule_zero {k : Int} (h : k = 0 ∨ k = 1 ∨ k = 2) : (ruleOf k).k0 = 0 ∧ (ruleOf k).k1 = 0 := by
  rcases h with e | e | e <;> subst e <;> decide
theorem oneKid : OneKid shpP := by
  intro F h
  have hk := shp_kids h
  refine ⟨fun h1 => ?_, fun h1 => ?_⟩
  · have h2 : F.f5.length = 1 := by
      have := rule_one h1; omega
    match hf : F.f5, h2 with
    | [g], _ => exact ⟨g, rfl⟩
  · have h2 : F.f5.length = 0 := by
      have := rule_zero h1; omega
    exact List.length_eq_zero_iff.1 h2
end Go.Proofs.YtjjnjnnfebifnaaGreatDoor.Rn
