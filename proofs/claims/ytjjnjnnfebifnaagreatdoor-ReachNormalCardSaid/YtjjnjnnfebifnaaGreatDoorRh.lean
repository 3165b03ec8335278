import Derived.Test.YtjjnjnnfebifnaaGreatDoorRg
set_option linter.all false
namespace Go.Proofs.YtjjnjnnfebifnaaGreatDoor.Rn
open Go.RowKit Go.Proofs.YtjjnjnnfebifnaaGreatDoorW.PrintWords Go.Proofs.YtjjnjnnfebifnaaGreatDoorW.PrintLast Go.Proofs.YtjjnjnnfebifnaaGreatDoor.PReachNormal

/-! ### the reference -/
theorem ret2 {b b' : Bool} {c c' : Int} (h1 : b = b') (h2 : c = c') : Ending.returned (.tuple #[.bool b, .int .i64 c]) = .returned (.tuple #[.bool b', .int .i64 c']) := by rw [h1, h2]
theorem mem_yes {l : List ByteArray} {s y : ByteArray} {k : Nat} (h : l[k]? = some y) (hp : (y.toList == s.toList) = true) : memB s (l.drop k) = true := by
  rw [sdrop_at h]; rw [bytes_eq] at hp; simp only [decide_eq_true_eq] at hp; simp [memB, hp]
theorem mem_no {l : List ByteArray} {s y : ByteArray} {k : Nat} (h : l[k]? = some y) (hp : (y.toList == s.toList) = false) : memB s (l.drop k) = memB s (l.drop (k + 1)) := by
  rw [sdrop_at h]; rw [bytes_eq] at hp; simp only [decide_eq_false_iff_not] at hp; simp [memB, hp]
set_option maxHeartbeats 1600000 in
set_option maxRecDepth 100000 in
theorem rbinds_calls (x : S25) (A3 : Option Addr) (c3 : Nat) (A4 : Option Addr) (c4 : Nat) (A5 : Option Addr) (c5 : Nat) (w : World) :
    Calls Tryz.prog 111 #[ag x A3 c3 A4 c4 A5 c5] w fun e w' => e = .returned (.tuple #[.bool (bis x), .int .i64 (barity x)]) ∧ Below w.heap.size w w' := by
  have hu25 := Tryz.underlying25
  go_enter Tryz.func111, Tryz.ntmps111
  go_wp2
  all_goals (try (go_quiet (fail); go_wp2))
  all_goals go_ret2
  all_goals refine ⟨ret2 ?_ ?_, ?_⟩
  all_goals (first | exact bel_q _ _ _ | exact bel_a _ _ | (simp only [beq_iff_eq, beq_eq_false_iff_ne] at *; simp [barity, bis, bindsF, *]; done))

set_option maxHeartbeats 1600000 in
set_option maxRecDepth 100000 in
theorem among_calls (A : Option Addr) (c : Nat) (l : List ByteArray) (s : ByteArray) (w : World) (hl : l.length ≤ 9223372036854775807) (hC : Kd.string.C w A l.length l) :
    Calls Tryz.prog 54 #[.slice A l.length c, .string s] w fun e w' => e = .returned (.bool (memB s l)) ∧ w' = w := by
  have HC := Aside0.mk hC
  clear hC
  go_enter Tryz.func54, Tryz.ntmps54
  go_wp2_with fail
  go_loopw [5] (fun i wr => ∃ k : Nat, k ≤ l.length ∧ i = .int .i64 k ∧ wr = w ∧ Aside0 (memB s l = memB s (l.drop k))) (fun i _ => l.length - (intOf i).toNat)
  case atStart => exact ⟨0, Nat.zero_le _, rfl, rfl, ⟨by rw [List.drop_zero]⟩⟩
  case round =>
    obtain ⟨k, hk, rfl, rfl, hI⟩ := hrel
    by_cases hlt : k < l.length
    · obtain ⟨y, ad, hx, rfl, h0⟩ := str_at HC.out k hlt
      have HX := Aside0.mk hx
      clear hx
      go_wp2_with fail
      · go_ret
        exact ⟨ret_bool (hI.out.trans (mem_yes HX.out ‹_›)).symm, rfl⟩
      · exact ⟨⟨k + 1, by omega, by go_num, by first | trivial | rfl, ⟨hI.out.trans (mem_no HX.out ‹_›)⟩⟩, by simp [intOf]; omega⟩
    · go_wp2_with fail
      go_ret
      exact ⟨ret_bool (by rw [hI.out, List.drop_eq_nil_of_le (by omega)]; rfl), rfl⟩

set_option maxHeartbeats 1600000 in
set_option maxRecDepth 100000 in
theorem rletter_calls (b : Int) (w : World) : Calls Tryz.prog 242 #[.int .u8 b] w fun e w' => e = .returned (.bool (letB b)) ∧ w' = w := by
  go_enter Tryz.func242, Tryz.ntmps242
  go_wp2
  all_goals go_ret
  all_goals refine ⟨ret_bool ?_, rfl⟩
  all_goals (simp [letB, *]; try omega)
set_option maxHeartbeats 1600000 in
set_option maxRecDepth 100000 in
theorem rdigit_calls (b : Int) (w : World) : Calls Tryz.prog 244 #[.int .u8 b] w fun e w' => e = .returned (.bool (digB b)) ∧ w' = w := by
  go_enter Tryz.func244, Tryz.ntmps244
  go_wp2
  all_goals go_ret
  all_goals refine ⟨ret_bool ?_, rfl⟩
  all_goals (simp [digB, *]; try omega)
theorem word_eq (s a : ByteArray) (l : List UInt8) (h : a.toList = l) : decide (a = s) = (s.toList == l) := by
  subst h; rw [bytes_eq]; by_cases e : a = s
  · subst e; simp
  · have e' : ¬ s = a := fun h => e h.symm
    simp [e, e']
theorem words_or (s : ByteArray) : memB s wordsL = ((s.toList == [97, 110, 100]) || ((s.toList == [111, 114]) || ((s.toList == [110, 111, 116]) || ((s.toList == [115, 111, 109, 101]) || ((s.toList == [97, 108, 108]) || ((s.toList == [108, 102, 112]) || ((s.toList == [112, 102, 112]) || ((s.toList == [116, 99]) || ((s.toList == [101, 120, 105, 115, 116, 115]) || ((s.toList == [116, 114, 117, 101]) || (s.toList == [102, 97, 108, 115, 101]))))))))))) := by
  unfold memB wordsL
  simp only [List.any_cons, List.any_nil, Bool.or_false]
  rw [word_eq s _ [97, 110, 100] (by rw [ByteArray.toList_eq]), word_eq s _ [111, 114] (by rw [ByteArray.toList_eq]), word_eq s _ [110, 111, 116] (by rw [ByteArray.toList_eq]), word_eq s _ [115, 111, 109, 101] (by rw [ByteArray.toList_eq]), word_eq s _ [97, 108, 108] (by rw [ByteArray.toList_eq]), word_eq s _ [108, 102, 112] (by rw [ByteArray.toList_eq]), word_eq s _ [112, 102, 112] (by rw [ByteArray.toList_eq]), word_eq s _ [116, 99] (by rw [ByteArray.toList_eq]), word_eq s _ [101, 120, 105, 115, 116, 115] (by rw [ByteArray.toList_eq]), word_eq s _ [116, 114, 117, 101] (by rw [ByteArray.toList_eq]), word_eq s _ [102, 97, 108, 115, 101] (by rw [ByteArray.toList_eq])]
set_option maxHeartbeats 1600000 in
set_option maxRecDepth 100000 in
theorem rword_calls (s : ByteArray) (w : World) : Calls Tryz.prog 243 #[.string s] w fun e w' => e = .returned (.bool (memB s wordsL)) ∧ w' = w := by
  go_enter Tryz.func243, Tryz.ntmps243
  go_wp2
  all_goals go_ret
  all_goals refine ⟨ret_bool ?_, rfl⟩
  all_goals (rw [words_or]; simp_all; done)

theorem clean_next {s : ByteArray} {k : Nat} (h : cleanTo s k) (hk : k < s.size) (hb : badRune ((s[k]'hk).toNat : Int) = false) : cleanTo s (k + 1) := by
  intro j hj hlt
  by_cases e : j = k
  · subst e; exact hb
  · exact h j hj (by omega)
theorem bad_not (c : Int) : badRune c = (!letB c && !digB c) := by
  unfold badRune
  by_cases h : 127 < c
  · have h1 : letB c = false := by simp [letB]; omega
    have h2 : digB c = false := by simp [digB]; omega
    simp [h, h1, h2]
  · simp [h]
set_option maxHeartbeats 1600000 in
set_option maxRecDepth 100000 in
theorem rname_calls (s : ByteArray) (w : World) : Calls Tryz.prog 178 #[.string s] w fun e w' => e = .returned (.bool (nmB s)) ∧ w' = w := by
  by_cases h0 : s.size = 0
  · have e0 : s.toList = [] := by rw [ByteArray.toList_eq, ← List.length_eq_zero_iff, Array.length_toList]; exact h0
    have hs : (s.size : Int) < 1 := by omega
    clear h0
    go_enter Tryz.func178, Tryz.ntmps178
    go_wp2
    go_ret
    exact ⟨ret_bool (nm_1 e0).symm, rfl⟩
  · have hp : 0 < s.size := by omega
    have e0 : ¬ s.toList = [] := by rw [ByteArray.toList_eq, ← List.length_eq_zero_iff, Array.length_toList]; exact h0
    have hs : ¬ (s.size : Int) < 1 := by omega
    clear h0
    by_cases h12 : (12 : Int) < s.size
    · go_enter Tryz.func178, Tryz.ntmps178
      go_wp2
      go_ret
      exact ⟨ret_bool (nm_2 h12).symm, rfl⟩
    · have HE := Aside0.mk e0
      have HP := Aside0.mk hp
      clear e0
      cases hl : letB ((s[0]'hp).toNat : Int)
      · go_enter Tryz.func178, Tryz.ntmps178
        go_wp2_with (first
          | (go_at_call 242; with_reducible refine (rletter_calls _ _).mono ?_; rintro e w1 ⟨rfl, hw⟩; obtain rfl := hw.symm))
        go_ret
        exact ⟨ret_bool (nm_3 hp (by rw [hl]; simp)).symm, rfl⟩
      · cases hm : memB s wordsL
        · have HNM := Aside0.mk (nm_5 HE.out (by omega) hp hl hm)
          go_enter Tryz.func178, Tryz.ntmps178
          go_wp2_with (first
            | (go_at_call 242; with_reducible refine (rletter_calls _ _).mono ?_; rintro e w1 ⟨rfl, hw⟩; obtain rfl := hw.symm)
            | (go_at_call 243; with_reducible refine (rword_calls _ _).mono ?_; rintro e w1 ⟨rfl, hw⟩; obtain rfl := hw.symm))
          go_loopw [3] (fun i wr => ∃ k : Nat, 1 ≤ k ∧ k ≤ s.size ∧ i = .int .i64 k ∧ wr = w ∧ Aside0 (cleanTo s k)) (fun i _ => s.size - (intOf i).toNat)
          case atStart => exact ⟨1, Nat.le_refl _, by omega, rfl, rfl, ⟨fun j hj hlt => by
            have : j = 0 := by omega
            subst this
            rw [bad_not, hl]; rfl⟩⟩
          case round =>
            obtain ⟨k, hk1, hk, rfl, rfl, hC⟩ := hrel
            by_cases hlt : k < s.size
            · cases hlk : letB ((s[k]'hlt).toNat : Int)
              · cases hdk : digB ((s[k]'hlt).toNat : Int)
                · go_wp2_with (first
                    | (go_at_call 242; with_reducible refine (rletter_calls _ _).mono ?_; rintro e w1 ⟨rfl, hw⟩; obtain rfl := hw.symm)
                    | (go_at_call 244; with_reducible refine (rdigit_calls _ _).mono ?_; rintro e w1 ⟨rfl, hw⟩; obtain rfl := hw.symm))
                  go_ret
                  exact ⟨ret_bool (by rw [HNM.out, bad_at hlt (by rw [bad_not, hlk, hdk]; rfl)]; rfl), rfl⟩
                · go_wp2_with (first
                    | (go_at_call 242; with_reducible refine (rletter_calls _ _).mono ?_; rintro e w1 ⟨rfl, hw⟩; obtain rfl := hw.symm)
                    | (go_at_call 244; with_reducible refine (rdigit_calls _ _).mono ?_; rintro e w1 ⟨rfl, hw⟩; obtain rfl := hw.symm))
                  exact ⟨⟨k + 1, by omega, by omega, by go_num, by first | trivial | rfl, ⟨clean_next hC.out hlt (by rw [bad_not, hlk, hdk]; rfl)⟩⟩, by simp [intOf]; omega⟩
              · go_wp2_with (first
                  | (go_at_call 242; with_reducible refine (rletter_calls _ _).mono ?_; rintro e w1 ⟨rfl, hw⟩; obtain rfl := hw.symm)
                  | (go_at_call 244; with_reducible refine (rdigit_calls _ _).mono ?_; rintro e w1 ⟨rfl, hw⟩; obtain rfl := hw.symm))
                exact ⟨⟨k + 1, by omega, by omega, by go_num, by first | trivial | rfl, ⟨clean_next hC.out hlt (by rw [bad_not, hlk]; rfl)⟩⟩, by simp [intOf]; omega⟩
            · go_wp2_with fail
              go_ret
              exact ⟨ret_bool (by rw [HNM.out, clean_all hC.out (by omega)]; rfl), rfl⟩
        · go_enter Tryz.func178, Tryz.ntmps178
          go_wp2_with (first
            | (go_at_call 242; with_reducible refine (rletter_calls _ _).mono ?_; rintro e w1 ⟨rfl, hw⟩; obtain rfl := hw.symm)
            | (go_at_call 243; with_reducible refine (rword_calls _ _).mono ?_; rintro e w1 ⟨rfl, hw⟩; obtain rfl := hw.symm))
          go_ret
          exact ⟨ret_bool (nm_4 hm).symm, rfl⟩
end Go.Proofs.YtjjnjnnfebifnaaGreatDoor.Rn
namespace Go.Proofs.YtjjnjnnfebifnaaGreatDoor.Rn
open Go.RowKit Go.Proofs.YtjjnjnnfebifnaaGreatDoorW.PrintWords Go.Proofs.YtjjnjnnfebifnaaGreatDoorW.PrintLast Go.Proofs.YtjjnjnnfebifnaaGreatDoor.PReachNormal

theorem all_at {l : List ByteArray} {k : Nat} {y : ByteArray} (h : l[k]? = some y) : (l.drop k).all nmB = (nmB y && (l.drop (k + 1)).all nmB) := by
  rw [sdrop_at h]; rfl

set_option maxHeartbeats 1600000 in
set_option maxRecDepth 100000 in
theorem rnames_calls (A : Option Addr) (c : Nat) (l : List ByteArray) (w : World) (hl : l.length ≤ 9223372036854775807) (hC : Kd.string.C w A l.length l) :
    Calls Tryz.prog 177 #[.slice A l.length c] w fun e w' => e = .returned (.bool (l.all nmB)) ∧ w' = w := by
  have HC := Aside0.mk hC
  clear hC
  go_enter Tryz.func177, Tryz.ntmps177
  go_wp2_with fail
  go_loopw [3] (fun i wr => ∃ k : Nat, k ≤ l.length ∧ i = .int .i64 k ∧ wr = w ∧ Aside0 (l.all nmB = (l.drop k).all nmB)) (fun i _ => l.length - (intOf i).toNat)
  case atStart => exact ⟨0, Nat.zero_le _, rfl, rfl, ⟨by rw [List.drop_zero]⟩⟩
  case round =>
    obtain ⟨k, hk, rfl, rfl, hI⟩ := hrel
    by_cases hlt : k < l.length
    · obtain ⟨y, ad, hx, rfl, h0⟩ := str_at HC.out k hlt
      have HX := Aside0.mk hx
      clear hx
      cases hn : nmB y
      · go_wp2_with (first
          | (go_at_call 178; with_reducible refine (rname_calls _ _).mono ?_; rintro e w1 ⟨rfl, hw⟩; obtain rfl := hw.symm))
        go_ret
        exact ⟨ret_bool (by rw [hI.out, all_at HX.out, hn]; rfl), rfl⟩
      · go_wp2_with (first
          | (go_at_call 178; with_reducible refine (rname_calls _ _).mono ?_; rintro e w1 ⟨rfl, hw⟩; obtain rfl := hw.symm))
        exact ⟨⟨k + 1, by omega, by go_num, by first | trivial | rfl, ⟨by rw [hI.out, all_at HX.out, hn]; rfl⟩⟩, by simp [intOf]; omega⟩
    · go_wp2_with fail
      go_ret
      exact ⟨ret_bool (by rw [hI.out, List.drop_eq_nil_of_le (by omega)]; rfl), rfl⟩

def difG : List ByteArray → List ByteArray → Bool
  | _, [] => true
  | pre, x :: l => !memB x pre && difG (pre ++ [x]) l
theorem dif_at {l : List ByteArray} {k : Nat} {y : ByteArray} (h : l[k]? = some y) : difG (l.take k) (l.drop k) = (!memB y (l.take k) && difG (l.take (k + 1)) (l.drop (k + 1))) := by
  have ht : l.take (k + 1) = l.take k ++ [y] := by
    obtain ⟨hk, rfl⟩ := List.getElem?_eq_some_iff.1 h
    exact List.take_succ_eq_append_getElem hk
  rw [sdrop_at h, difG, ht]
theorem nms_false : ∀ (l pre : List ByteArray), nmsG false pre l = l.all nmB
  | [], _ => rfl
  | x :: l, pre => by unfold nmsG; rw [nms_false l]; simp
theorem nms_true : ∀ (l pre : List ByteArray), nmsG true pre l = (l.all nmB && difG pre l)
  | [], _ => rfl
  | x :: l, pre => by
    unfold nmsG difG; rw [nms_true l, List.all_cons]
    cases nmB x <;> cases memB x pre <;> cases l.all nmB <;> simp

set_option maxHeartbeats 1600000 in
set_option maxRecDepth 100000 in
theorem rdiff_calls (A : Option Addr) (c : Nat) (l : List ByteArray) (w : World) (hl : l.length ≤ 12000) (hc : l.length ≤ c) (hC : Kd.string.C w A l.length l) :
    Calls Tryz.prog 59 #[.slice A l.length c] w fun e w' => e = .returned (.bool (difG [] l)) ∧ Below w.heap.size w w' := by
  have HC := Aside0.mk hC
  clear hC
  go_enter Tryz.func59, Tryz.ntmps59
  go_wp2_with fail
  go_loopw [3] (fun i wr => ∃ k : Nat, k ≤ l.length ∧ i = .int .i64 k ∧ Aside0 (Below w.heap.size w wr) ∧ Aside0 (difG [] l = difG (l.take k) (l.drop k))) (fun i _ => l.length - (intOf i).toNat)
  case atStart => exact ⟨0, Nat.zero_le _, rfl, ⟨Below.refl _ _⟩, ⟨by rw [List.drop_zero, List.take_zero]⟩⟩
  case round =>
    obtain ⟨k, hk, rfl, hB, hI⟩ := hrel
    by_cases hlt : k < l.length
    · have HCr := Aside0.mk (Kd.C_below HC.out hB.out.drew)
      obtain ⟨y, ad, hx, rfl, h0⟩ := str_at (Kd.C_below HC.out hB.out) k hlt
      have HX := Aside0.mk hx
      have htl : (l.take k).length = k := by rw [List.length_take]; omega
      have HTL := Aside0.mk htl
      have hkc : k ≤ c := by omega
      clear hx htl
      go_upto_region 4 with fail
      refine wp_region_still_tail 7 (by kernel_rfl) (by kernel_rfl) ?_
      simp only [List.take_succ_cons, List.take_zero, List.drop_succ_cons, List.drop_zero]
      change wpStill _ _ (World.drew wr) _ _ _
      repeat still_step
      refine wpStill_nil ?_
      change wpList _ _ _ _ _ (World.drew wr)
      cases hm : memB y (l.take k)
      · go_wp2_with (first
          | (go_at_call 54; refine (Calls_len HTL.out (among_calls (some ad) _ (l.take k) y _ (by rw [HTL.out]; omega) (take_C HCr.out k hk))).mono ?_; rintro e w1 ⟨rfl, hw⟩; obtain rfl := hw.symm))
        exact ⟨⟨k + 1, by omega, by go_num, ⟨hB.out.drew⟩, ⟨by rw [hI.out, dif_at HX.out, hm]; rfl⟩⟩, by simp [intOf]; omega⟩
      · go_wp2_with (first
          | (go_at_call 54; refine (Calls_len HTL.out (among_calls (some ad) _ (l.take k) y _ (by rw [HTL.out]; omega) (take_C HCr.out k hk))).mono ?_; rintro e w1 ⟨rfl, hw⟩; obtain rfl := hw.symm))
        go_ret
        exact ⟨ret_bool (by rw [hI.out, dif_at HX.out, hm]; rfl), hB.out.drew⟩
    · go_wp2_with fail
      go_ret
      exact ⟨ret_bool (by rw [hI.out, List.drop_eq_nil_of_le (by omega)]; rfl), hB.out⟩
end Go.Proofs.YtjjnjnnfebifnaaGreatDoor.Rn
namespace Go.Proofs.YtjjnjnnfebifnaaGreatDoor.Rn
open Go.RowKit Go.Proofs.YtjjnjnnfebifnaaGreatDoorW.PrintWords Go.Proofs.YtjjnjnnfebifnaaGreatDoorW.PrintLast Go.Proofs.YtjjnjnnfebifnaaGreatDoor.PReachNormal

def preB (x : S25) : Bool := !(x.f4.all nmB) || !(x.f3.all nmB) || !(difG [] x.f3) || (decide (12 < (x.f3.length : Int)) && !(x.f0 == 10)) || (!(x.f0 == 11) && !(x.f1 == 0))
def kindB (x : S25) : Bool :=
  if x.f0 = 0 then nmB x.f2 && ((x.f5.length : Int) + x.f3.length == 0) && decide ((x.f4.length : Int) ≤ 12)
  else if x.f0 = 1 ∨ x.f0 = 2 then x.f2.toList.isEmpty && ((x.f5.length : Int) + x.f3.length == 0) && ((x.f4.length : Int) == 2)
  else if x.f0 = 3 then x.f2.toList.isEmpty && ((x.f5.length : Int) == 1) && ((x.f3.length : Int) + x.f4.length == 0)
  else if x.f0 = 4 ∨ x.f0 = 5 then x.f2.toList.isEmpty && ((x.f3.length : Int) + x.f4.length == 0)
  else if x.f0 = 6 ∨ x.f0 = 7 then x.f2.toList.isEmpty && ((x.f5.length : Int) == 1) && decide (0 < (x.f3.length : Int)) && ((x.f4.length : Int) == 0)
  else if x.f0 = 8 ∨ x.f0 = 9 then nmB x.f2 && ((x.f5.length : Int) == 1) && decide (0 < (x.f3.length : Int)) && ((x.f4.length : Int) == x.f3.length)
  else if x.f0 = 10 then x.f2.toList.isEmpty && ((x.f5.length : Int) == 1) && decide (1 < (x.f3.length : Int)) && decide ((x.f3.length : Int) ≤ 24) && ((x.f3.length : Int) % 2 == 0) && ((x.f4.length : Int) == x.f3.length)
  else if x.f0 = 11 then nmB x.f2 && ((x.f5.length : Int) == 1) && ((x.f3.length : Int) + x.f4.length == 0) && decide (0 ≤ x.f1) && decide (x.f1 ≤ 12)
  else false

theorem nm_ne {s : ByteArray} (h : nmB s = true) : s.toList.isEmpty = false := by
  unfold nmB at h
  cases h1 : s.toList with
  | nil => rw [h1] at h; simp at h
  | cons a l => rfl

theorem names_of (l : List ByteArray) (lo hi : Int) (ap : Bool) : namesB l lo hi ap = (decide (lo ≤ (l.length : Int)) && decide ((l.length : Int) ≤ hi) && (l.all nmB && (!ap || difG [] l))) := by
  have h : nmsG ap [] l = (l.all nmB && (!ap || difG [] l)) := by
    cases ap
    · rw [nms_false]; simp
    · rw [nms_true]; simp
  unfold namesB; rw [h]
  congr 1
  by_cases h1 : (l.length : Int) < lo <;> by_cases h2 : hi < (l.length : Int) <;> simp [h1, h2] <;> omega

def preG (k r a : Int) (A4 A3 D3 : Bool) : Bool := !A4 || !A3 || !D3 || (decide (12 < a) && !(k == 10)) || (!(k == 11) && !(r == 0))
def kindG (k r a b c : Int) (N E : Bool) : Bool :=
  if k = 0 then N && (c + a == 0) && decide (b ≤ 12)
  else if k = 1 ∨ k = 2 then E && (c + a == 0) && (b == 2)
  else if k = 3 then E && (c == 1) && (a + b == 0)
  else if k = 4 ∨ k = 5 then E && (a + b == 0)
  else if k = 6 ∨ k = 7 then E && (c == 1) && decide (0 < a) && (b == 0)
  else if k = 8 ∨ k = 9 then N && (c == 1) && decide (0 < a) && (b == a)
  else if k = 10 then E && (c == 1) && decide (1 < a) && decide (a ≤ 24) && (a % 2 == 0) && (b == a)
  else if k = 11 then N && (c == 1) && (a + b == 0) && decide (0 ≤ r) && decide (r ≤ 12)
  else false
def ruleG (k r a b c : Int) (N E A4 A3 D3 : Bool) (u : RuleR) : Bool :=
  !(decide (c < u.k0) || decide (u.k1 < c) || (u.nm == E) || (u.nm && !N)) && !((!u.ar && !(r == 0)) || decide (r < 0) || decide (12 < r) || ((k == 10) && !(a % 2 == 0))) &&
    (decide (u.a0 ≤ b) && decide (b ≤ u.a1) && A4) && (decide (u.v0 ≤ a) && decide (a ≤ u.v1) && (A3 && D3)) && (!u.ti || (a == b))
set_option maxHeartbeats 4000000 in
theorem shape_core (k r a b c : Int) (N E A4 A3 D3 : Bool) (ha : 0 ≤ a) (hb : 0 ≤ b) (hc : 0 ≤ c) (hc2 : c ≤ 12000) (hN : N = true → E = false) : (!preG k r a A4 A3 D3 && kindG k r a b c N E) = ruleG k r a b c N E A4 A3 D3 (ruleOf k) := by
  have hk : k = 0 ∨ k = 1 ∨ k = 2 ∨ k = 3 ∨ k = 4 ∨ k = 5 ∨ k = 6 ∨ k = 7 ∨ k = 8 ∨ k = 9 ∨ k = 10 ∨ k = 11 ∨ (k ≠ 0 ∧ k ≠ 1 ∧ k ≠ 2 ∧ k ≠ 3 ∧ k ≠ 4 ∧ k ≠ 5 ∧ k ≠ 6 ∧ k ≠ 7 ∧ k ≠ 8 ∧ k ≠ 9 ∧ k ≠ 10 ∧ k ≠ 11) := by omega
  cases A4
  · simp [preG, ruleG]
  cases A3
  · simp [preG, ruleG]
  cases D3
  · simp [preG, ruleG]
  rcases hk with h | h | h | h | h | h | h | h | h | h | h | h | h
  case inr.inr.inr.inr.inr.inr.inr.inr.inr.inr.inr.inr =>
    obtain ⟨h0, h1, h2, h3, h4, h5, h6, h7, h8, h9, h10, h11⟩ := h
    have : ruleOf k = ⟨1, 0, 0, 0, 0, 0, false, false, false⟩ := by unfold ruleOf; simp [h0, h1, h2, h3, h4, h5, h6, h7, h8, h9, h10, h11]
    rw [this]
    have hkk : kindG k r a b c N E = false := by unfold kindG; simp [h0, h1, h2, h3, h4, h5, h6, h7, h8, h9, h10, h11]
    rw [hkk, Bool.and_false]
    symm
    rw [Bool.eq_false_iff]
    unfold ruleG
    intro hh
    simp at hh
    omega
  all_goals
    subst h
    rw [Bool.eq_iff_iff]
    cases N <;> cases E <;> simp [preG, kindG, ruleG, ruleOf] at hN ⊢ <;> omega

theorem shape_eq {x : S25} (hf : fine x = true) : (!preB x && kindB x) = shpP x := by
  have h := shape_core x.f0 x.f1 x.f3.length x.f4.length x.f5.length (nmB x.f2) x.f2.toList.isEmpty (x.f4.all nmB) (x.f3.all nmB) (difG [] x.f3) (by omega) (by omega) (by omega) (by have := (fine_len hf).2.2.2; omega) nm_ne
  have e1 : preB x = preG x.f0 x.f1 x.f3.length (x.f4.all nmB) (x.f3.all nmB) (difG [] x.f3) := rfl
  have e2 : kindB x = kindG x.f0 x.f1 x.f3.length x.f4.length x.f5.length (nmB x.f2) x.f2.toList.isEmpty := rfl
  rw [e1, e2, h]
  unfold shpP shpR shp1 shp2 ruleG
  rw [names_of, names_of]
  simp
end Go.Proofs.YtjjnjnnfebifnaaGreatDoor.Rn
