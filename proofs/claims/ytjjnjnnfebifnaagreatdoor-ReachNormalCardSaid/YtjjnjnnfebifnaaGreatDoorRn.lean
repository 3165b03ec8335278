import Derived.Test.YtjjnjnnfebifnaaGreatDoorRk
import Derived.Test.YtjjnjnnfebifnaaGreatDoorRl
set_option linter.all false
namespace Go.Proofs.YtjjnjnnfebifnaaGreatDoor.Rn
open Go.RowKit Go.Proofs.YtjjnjnnfebifnaaGreatDoorW.PrintWords Go.Proofs.YtjjnjnnfebifnaaGreatDoorW.PrintLast Go.Proofs.YtjjnjnnfebifnaaGreatDoor.PReachNormal

theorem src_cut {w : World} {g cap : Nat} {l : List ByteArray} (h : RowS w (.slice (some ⟨g, 0, none⟩) l.length cap) l) (k : Nat) (hk : k ≤ l.length) (c' : Nat) : SrcC w 1 (.slice (some ⟨g, 0, none⟩) k c') k ((l.take k).map Value.string) := by
  rcases own_src h with ⟨e, _⟩ | ⟨ad, c, e, hl, hc⟩
  · cases e
  · simp only [Value.slice.injEq, Option.some.injEq] at e
    obtain ⟨rfl, _, rfl⟩ := e
    refine .inr ⟨_, _, rfl, by simp; omega, fun j u hu => hc j u ?_⟩
    rw [List.getElem?_map, List.getElem?_take] at hu
    split at hu
    · rw [List.getElem?_map]; exact hu
    · simp at hu
theorem src_end {w : World} {g cap : Nat} {l : List ByteArray} (h : RowS w (.slice (some ⟨g, 0, none⟩) l.length cap) l) (k : Nat) (hk : k ≤ l.length) (ad' : Addr) (had : ad' = ⟨g, k, none⟩) (c' : Nat) : SrcC w 1 (.slice (some ad') (l.length - k) c') (l.length - k) ((l.drop k).map Value.string) := by
  subst had
  rcases own_src h with ⟨e, _⟩ | ⟨ad, c, e, hl, hc⟩
  · cases e
  · simp only [Value.slice.injEq, Option.some.injEq] at e
    obtain ⟨rfl, _, rfl⟩ := e
    refine .inr ⟨_, _, rfl, by simp, fun j u hu => ?_⟩
    rw [List.getElem?_map, List.getElem?_drop] at hu
    have := hc (k + j) u (by rw [List.getElem?_map]; exact hu)
    rw [← this, ← add_plain g k, Addr.add_add]

theorem src_cut1 {w w' : World} {g cap : Nat} {l : List ByteArray} (h : RowS w (.slice (some ⟨g, 0, none⟩) l.length cap) l) (k : Nat) (hk : k ≤ l.length) {c' : Nat} (hb : Below w.heap.size w w') : SrcC w' 1 (.slice (some ⟨g, 0, none⟩) k c') k ((l.take k).map Value.string) := src_cut (own_keep h hb) k hk c'
theorem src_end1 {w w' : World} {g cap : Nat} {l : List ByteArray} (h : RowS w (.slice (some ⟨g, 0, none⟩) l.length cap) l) (k : Nat) (hk : k ≤ l.length) {c' : Nat} (hb : Below w.heap.size w w') : SrcC w' 1 (.slice (some ⟨g, k, none⟩) (l.length - k) c') (l.length - k) ((l.drop k).map Value.string) := src_end (own_keep h hb) k hk _ rfl c'
theorem src_zero {B : Nat} {w w' : World} (ad : Addr) (m c' : Nat) (hm : m = 0) (_ : Below B w w') : SrcC w' 1 (.slice (some ad) m c') m [] := .inr ⟨ad, c', rfl, by simp [hm], fun j u h => by simp at h⟩
theorem src_none {B : Nat} {w w' : World} (_ : Below B w w') : SrcC w' 1 (.slice none 0 0) 0 [] := .inl ⟨rfl, rfl, rfl⟩
/-- what sorted hands back: the names of the list and the name -/
def SorP (l : List ByteArray) (s : ByteArray) (w : World) (e : Ending) (w' : World) : Prop := ∃ v l', e = .returned v ∧ RowS w' v l' ∧ (∀ z, z ∈ l' ↔ z = s ∨ z ∈ l) ∧ l'.length ≤ l.length + 1 ∧ Below w.heap.size w w'
theorem sor_same {l : List ByteArray} {s : ByteArray} {v : Value} {w : World} {k : Nat} {y : ByteArray} (h : RowS w v l) (hk : l[k]? = some y) (hs : (y.toList == s.toList) = true) : SorP l s w (.returned v) w := by
  refine ⟨v, l, rfl, h, fun z => ⟨.inr, ?_⟩, by omega, Below.refl _ _⟩
  rintro (rfl | hz)
  · rw [bytes_eq] at hs
    simp only [decide_eq_true_eq] at hs
    subst hs
    exact List.mem_of_getElem? hk
  · exact hz
theorem sor_new {l : List ByteArray} {s : ByteArray} {v : Value} {w w' : World} {n : Nat} {xs : List Value} (k : Nat) (h : w'.ownsRow w.heap.size 9 1 v n xs) (hx : xs = ((l.take k ++ [s] ++ l.drop k).map Value.string)) (hn : n = (l.take k ++ [s] ++ l.drop k).length) (hb : Below w.heap.size w w') : SorP l s w (.returned v) w' := by
  subst hx hn
  refine ⟨v, l.take k ++ [s] ++ l.drop k, rfl, own_low h (Nat.zero_le _), fun z => ?_, ?_, hb⟩
  · rw [List.mem_append, List.mem_append, List.mem_singleton]
    have : z ∈ l ↔ z ∈ l.take k ∨ z ∈ l.drop k := by rw [← List.mem_append, List.take_append_drop]
    rw [this]
    constructor
    · rintro ((h | h) | h)
      · exact .inr (.inl h)
      · exact .inl h
      · exact .inr (.inr h)
    · rintro (h | h | h)
      · exact .inl (.inr h)
      · exact .inl (.inl h)
      · exact .inr h
  · simp only [List.length_append, List.length_take, List.length_drop, List.length_singleton]
    omega

set_option maxHeartbeats 8000000 in
set_option maxRecDepth 100000 in
theorem sor_nil (s : ByteArray) (w : World) : Calls Tryz.prog 55 #[.slice none 0 0, .string s] w (SorP [] s w) := by
  go_enter Tryz.func55, Tryz.ntmps55
  go_wp2_with fail
  go_loopw [5] (fun i wr => i = .int .i64 0 ∧ wr = w) (fun i _ => 0)
  case atStart => exact ⟨rfl, rfl⟩
  case round =>
    obtain ⟨rfl, rfl⟩ := hrel
    go_upto_region 6 with fail
    have BD := Aside0.mk ((Below.refl wr.heap.size wr).drew)
    have B_0 := Aside0.mk ((bel_a wr (.cells #[] 9)).drew)
    have B_5 := Aside0.mk ((bel_a wr (.cells #[.string s] 9)).drew)
    have B_05 := Aside0.mk ((below_alloc (bel_a wr (.cells #[] 9)) (.cells #[.string s] 9)).drew)
    have B_50 := Aside0.mk ((below_alloc (bel_a wr (.cells #[.string s] 9)) (.cells #[] 9)).drew)
    have F_0 : Aside0 (((wr.alloc (.cells #[] 9)).drew).heap[wr.heap.size]? = some (.cells #[] 9 (0, 0))) := ⟨(blk_new wr (.cells #[] 9) : _)⟩
    have F_05 : Aside0 ((((wr.alloc (.cells #[] 9)).alloc (.cells #[.string s] 9)).drew).heap[wr.heap.size]? = some (.cells #[] 9 (0, 0))) := ⟨(blk_below (blk_new wr (.cells #[] 9)) (bel_a (wr.alloc (.cells #[] 9)) (.cells #[.string s] 9)) : _)⟩
    have F_50 : Aside0 ((((wr.alloc (.cells #[.string s] 9)).alloc (.cells #[] 9)).drew).heap[wr.heap.size + 1]? = some (.cells #[] 9 (0, 0))) := ⟨(two_new wr (.cells #[.string s] 9) (.cells #[] 9) : _)⟩
    have G_05 : Aside0 ((((wr.alloc (.cells #[] 9)).alloc (.cells #[.string s] 9)).drew).heap[wr.heap.size + 1]? = some (.cells #[.string s] 9)) := ⟨(two_new wr (.cells #[] 9) (.cells #[.string s] 9) : _)⟩
    have G_50 : Aside0 ((((wr.alloc (.cells #[.string s] 9)).alloc (.cells #[] 9)).drew).heap[wr.heap.size]? = some (.cells #[.string s] 9)) := ⟨(blk_below (blk_new wr (.cells #[.string s] 9)) (bel_a (wr.alloc (.cells #[.string s] 9)) (.cells #[] 9)) : _)⟩
    refine wp_noexit ?_
    go_region_held_law (fun w' => True)
      (trivial)
      (first
        | ((refine step_append_src _ (by rfl) (.tmp 33) (.tmp 36) 22 (by rfl) wr.heap.size 9 i9 _ 1 16 und22 hi9 i9_z i9_s i9_b (by simp [Value.cells]) (by omega) _ 0 [] (by rfl) (own_zero (by first | with_reducible exact F_0.out | with_reducible exact F_05.out | with_reducible exact F_50.out) (by omega)) _ 0 ([]) (by rfl) (src_none (by first | with_reducible exact B_0.out | with_reducible exact B_05.out | with_reducible exact B_50.out)) (by simp [Value.oneCell']) (by unfold maxLen; omega) (by omega) (by first | with_reducible exact B_0.out.size | with_reducible exact B_05.out.size | with_reducible exact B_50.out.size) ?_
            intro v1 w2 hv1 hg1 ha1
            have hB1 := grown_below (B := wr.heap.size) (w0 := wr) (by first | with_reducible exact B_0.out | with_reducible exact B_05.out | with_reducible exact B_50.out) (by first | with_reducible exact B_0.out.size | with_reducible exact B_05.out.size | with_reducible exact B_50.out.size) hg1 (fun k hk => by simp [Value.ownBlock] at hk; omega)
            (first
              | have hS5 := (grown_blk hg1 G_05.out (by simp [Value.ownBlock]))
              | have hS5 := (grown_blk hg1 G_50.out (by simp [Value.ownBlock]))
              | skip)))
        | ((refine step_append_src _ (by rfl) (.tmp 37) (.tmp 39) 22 (by rfl) wr.heap.size 9 i9 _ 1 16 und22 hi9 i9_z i9_s i9_b (by simp [Value.cells]) (by omega) v1 (0 + 0) ([] ++ []) (by rfl) (by first | with_reducible exact hv1 | with_reducible exact own_keep hv1 (bel_a _ _)) _ 1 [.string s] (by rfl) (by first | exact blk_src hS5 rfl | exact blk_src (blk_new w2 _) rfl) (by simp [Value.oneCell']) (by unfold maxLen; omega) (by omega) (by first | with_reducible exact hB1.size | with_reducible exact (below_alloc hB1 _).size) ?_
            intro v3 w3 hv3 hg3 ha3
            have hB2 := grown_below (B := wr.heap.size) (w0 := wr) (by first | with_reducible exact hB1 | with_reducible exact below_alloc hB1 _) (by first | with_reducible exact hB1.size | with_reducible exact (below_alloc hB1 _).size) hg3 (own_base hv1)))
        | ((refine step_append_src _ (by rfl) (.tmp 40) (.tmp 43) 22 (by rfl) wr.heap.size 9 i9 _ 1 16 und22 hi9 i9_z i9_s i9_b (by simp [Value.cells]) (by omega) v3 (0 + 0 + 1) ([] ++ [] ++ [.string s]) (by rfl) hv3 _ (0) ([]) (by rfl) (src_none hB2) (by simp [Value.oneCell']) (by unfold maxLen; omega) (by omega) hB2.size ?_
            intro v5 w5 hv5 hg5 ha5
            have hB3 := grown_below (B := wr.heap.size) (w0 := wr) hB2 hB2.size hg5 (own_base hv3))))
    all_goals simp only [Act.put, List.getElem_toArray, List.getElem_cons_succ, List.getElem_cons_zero, List.setIfInBounds_toArray, List.set_cons_zero, List.set_cons_succ]
    all_goals go_wp2_with fail
    all_goals go_ret
    all_goals exact sor_new 0 hv5 (by simp) (by simp) hB3

set_option maxHeartbeats 8000000 in
set_option maxRecDepth 100000 in
theorem sor_blk (l : List ByteArray) (s : ByteArray) (g cap : Nat) (w : World) (hl : l.length ≤ 200000000) (hn : l.length ≤ cap) (hcm : cap ≤ maxLen) (h : RowS w (.slice (some ⟨g, 0, none⟩) l.length cap) l) : Calls Tryz.prog 55 #[.slice (some ⟨g, 0, none⟩) l.length cap, .string s] w (SorP l s w) := by
  have HR := Aside0.mk h
  obtain ⟨A, c, e, _, _, hC⟩ := RowS.C h
  simp only [Value.slice.injEq] at e
  obtain ⟨rfl, _, rfl⟩ := e
  have HC := Aside0.mk hC
  unfold maxLen at hcm
  clear hC h
  go_enter Tryz.func55, Tryz.ntmps55
  go_wp2_with fail
  go_loopw [5] (fun i wr => ∃ k : Nat, k ≤ l.length ∧ i = .int .i64 k ∧ wr = w) (fun i _ => l.length - (intOf i).toNat)
  case atStart => exact ⟨0, Nat.zero_le _, rfl, rfl⟩
  case round =>
    obtain ⟨k, hk, rfl, rfl⟩ := hrel
    have hkc : k ≤ cap := by omega
    have htl : (l.take k).length = k := by rw [List.length_take]; omega
    by_cases hlt : k < l.length
    · obtain ⟨y, ad, hx, e, h0⟩ := str_at HC.out k hlt
      obtain rfl := Option.some.inj e
      clear e
      rw [add_plain] at h0
      have HX := Aside0.mk hx
      clear hx
      have hck2 : ¬ cap = k := by omega
      go_wp2_with fail
      case roundEnd => exact ⟨⟨k + 1, by omega, by go_num, by trivial⟩, by simp [intOf]; omega⟩
      · go_ret
        exact sor_same HR.out HX.out ‹_›
      · have BD := Aside0.mk ((Below.refl wr.heap.size wr).drew)
        have B_0 := Aside0.mk ((bel_a wr (.cells #[] 9)).drew)
        have B_5 := Aside0.mk ((bel_a wr (.cells #[.string s] 9)).drew)
        have B_05 := Aside0.mk ((below_alloc (bel_a wr (.cells #[] 9)) (.cells #[.string s] 9)).drew)
        have B_50 := Aside0.mk ((below_alloc (bel_a wr (.cells #[.string s] 9)) (.cells #[] 9)).drew)
        have F_0 : Aside0 (((wr.alloc (.cells #[] 9)).drew).heap[wr.heap.size]? = some (.cells #[] 9 (0, 0))) := ⟨(blk_new wr (.cells #[] 9) : _)⟩
        have F_05 : Aside0 ((((wr.alloc (.cells #[] 9)).alloc (.cells #[.string s] 9)).drew).heap[wr.heap.size]? = some (.cells #[] 9 (0, 0))) := ⟨(blk_below (blk_new wr (.cells #[] 9)) (bel_a (wr.alloc (.cells #[] 9)) (.cells #[.string s] 9)) : _)⟩
        have F_50 : Aside0 ((((wr.alloc (.cells #[.string s] 9)).alloc (.cells #[] 9)).drew).heap[wr.heap.size + 1]? = some (.cells #[] 9 (0, 0))) := ⟨(two_new wr (.cells #[.string s] 9) (.cells #[] 9) : _)⟩
        have G_05 : Aside0 ((((wr.alloc (.cells #[] 9)).alloc (.cells #[.string s] 9)).drew).heap[wr.heap.size + 1]? = some (.cells #[.string s] 9)) := ⟨(two_new wr (.cells #[] 9) (.cells #[.string s] 9) : _)⟩
        have G_50 : Aside0 ((((wr.alloc (.cells #[.string s] 9)).alloc (.cells #[] 9)).drew).heap[wr.heap.size]? = some (.cells #[.string s] 9)) := ⟨(blk_below (blk_new wr (.cells #[.string s] 9)) (bel_a (wr.alloc (.cells #[.string s] 9)) (.cells #[] 9)) : _)⟩
        refine wp_noexit ?_
        go_region_held_law (fun w' => True)
          (trivial)
          (first
            | ((refine step_append_src _ (by rfl) (.tmp 33) (.tmp 36) 22 (by rfl) wr.heap.size 9 i9 _ 1 16 und22 hi9 i9_z i9_s i9_b (by simp [Value.cells]) (by omega) _ 0 [] (by rfl) (own_zero (by first | with_reducible exact F_0.out | with_reducible exact F_05.out | with_reducible exact F_50.out) (by omega)) _ k ((l.take k).map Value.string) (by rfl) (src_cut1 HR.out k hk (by first | with_reducible exact B_0.out | with_reducible exact B_05.out | with_reducible exact B_50.out)) (by intro u hu; obtain ⟨z, _, rfl⟩ := List.mem_map.1 hu; simp [Value.oneCell']) (by unfold maxLen; omega) (by omega) (by first | with_reducible exact B_0.out.size | with_reducible exact B_05.out.size | with_reducible exact B_50.out.size) ?_
                intro v1 w2 hv1 hg1 ha1
                have hB1 := grown_below (B := wr.heap.size) (w0 := wr) (by first | with_reducible exact B_0.out | with_reducible exact B_05.out | with_reducible exact B_50.out) (by first | with_reducible exact B_0.out.size | with_reducible exact B_05.out.size | with_reducible exact B_50.out.size) hg1 (fun k hk => by simp [Value.ownBlock] at hk; omega)
                (first
                  | have hS5 := (grown_blk hg1 G_05.out (by simp [Value.ownBlock]))
                  | have hS5 := (grown_blk hg1 G_50.out (by simp [Value.ownBlock]))
                  | skip)))
            | ((refine step_append_src _ (by rfl) (.tmp 37) (.tmp 39) 22 (by rfl) wr.heap.size 9 i9 _ 1 16 und22 hi9 i9_z i9_s i9_b (by simp [Value.cells]) (by omega) v1 (0 + k) ([] ++ (l.take k).map Value.string) (by rfl) (by first | with_reducible exact hv1 | with_reducible exact own_keep hv1 (bel_a _ _)) _ 1 [.string s] (by rfl) (by first | exact blk_src hS5 rfl | exact blk_src (blk_new w2 _) rfl) (by simp [Value.oneCell']) (by unfold maxLen; omega) (by omega) (by first | with_reducible exact hB1.size | with_reducible exact (below_alloc hB1 _).size) ?_
                intro v3 w3 hv3 hg3 ha3
                have hB2 := grown_below (B := wr.heap.size) (w0 := wr) (by first | with_reducible exact hB1 | with_reducible exact below_alloc hB1 _) (by first | with_reducible exact hB1.size | with_reducible exact (below_alloc hB1 _).size) hg3 (own_base hv1)))
            | ((refine step_append_src _ (by rfl) (.tmp 40) (.tmp 43) 22 (by rfl) wr.heap.size 9 i9 _ 1 16 und22 hi9 i9_z i9_s i9_b (by simp [Value.cells]) (by omega) v3 (0 + k + 1) ([] ++ (l.take k).map Value.string ++ [.string s]) (by rfl) hv3 _ (l.length - k) ((l.drop k).map Value.string) (by rfl) (src_end1 HR.out k hk hB2) (by intro u hu; obtain ⟨z, _, rfl⟩ := List.mem_map.1 hu; simp [Value.oneCell']) (by unfold maxLen; omega) (by omega) hB2.size ?_
                intro v5 w5 hv5 hg5 ha5
                have hB3 := grown_below (B := wr.heap.size) (w0 := wr) hB2 hB2.size hg5 (own_base hv3))))
        all_goals simp only [Act.put, List.getElem_toArray, List.getElem_cons_succ, List.getElem_cons_zero, List.setIfInBounds_toArray, List.set_cons_zero, List.set_cons_succ]
        all_goals go_wp2_with fail
        all_goals go_ret
        all_goals exact sor_new k hv5 (by simp) (by simp; omega) hB3
    · by_cases hck : k = cap
      · subst hck
        go_upto_region 6 with fail
        have BD := Aside0.mk ((Below.refl wr.heap.size wr).drew)
        have B_0 := Aside0.mk ((bel_a wr (.cells #[] 9)).drew)
        have B_5 := Aside0.mk ((bel_a wr (.cells #[.string s] 9)).drew)
        have B_05 := Aside0.mk ((below_alloc (bel_a wr (.cells #[] 9)) (.cells #[.string s] 9)).drew)
        have B_50 := Aside0.mk ((below_alloc (bel_a wr (.cells #[.string s] 9)) (.cells #[] 9)).drew)
        have F_0 : Aside0 (((wr.alloc (.cells #[] 9)).drew).heap[wr.heap.size]? = some (.cells #[] 9 (0, 0))) := ⟨(blk_new wr (.cells #[] 9) : _)⟩
        have F_05 : Aside0 ((((wr.alloc (.cells #[] 9)).alloc (.cells #[.string s] 9)).drew).heap[wr.heap.size]? = some (.cells #[] 9 (0, 0))) := ⟨(blk_below (blk_new wr (.cells #[] 9)) (bel_a (wr.alloc (.cells #[] 9)) (.cells #[.string s] 9)) : _)⟩
        have F_50 : Aside0 ((((wr.alloc (.cells #[.string s] 9)).alloc (.cells #[] 9)).drew).heap[wr.heap.size + 1]? = some (.cells #[] 9 (0, 0))) := ⟨(two_new wr (.cells #[.string s] 9) (.cells #[] 9) : _)⟩
        have G_05 : Aside0 ((((wr.alloc (.cells #[] 9)).alloc (.cells #[.string s] 9)).drew).heap[wr.heap.size + 1]? = some (.cells #[.string s] 9)) := ⟨(two_new wr (.cells #[] 9) (.cells #[.string s] 9) : _)⟩
        have G_50 : Aside0 ((((wr.alloc (.cells #[.string s] 9)).alloc (.cells #[] 9)).drew).heap[wr.heap.size]? = some (.cells #[.string s] 9)) := ⟨(blk_below (blk_new wr (.cells #[.string s] 9)) (bel_a (wr.alloc (.cells #[.string s] 9)) (.cells #[] 9)) : _)⟩
        refine wp_noexit ?_
        go_region_held_law (fun w' => True)
          (trivial)
          (first
            | ((refine step_append_src _ (by rfl) (.tmp 33) (.tmp 36) 22 (by rfl) wr.heap.size 9 i9 _ 1 16 und22 hi9 i9_z i9_s i9_b (by simp [Value.cells]) (by omega) _ 0 [] (by rfl) (own_zero (by first | with_reducible exact F_0.out | with_reducible exact F_05.out | with_reducible exact F_50.out) (by omega)) _ k ((l.take k).map Value.string) (by rfl) (src_cut1 HR.out k hk (by first | with_reducible exact B_0.out | with_reducible exact B_05.out | with_reducible exact B_50.out)) (by intro u hu; obtain ⟨z, _, rfl⟩ := List.mem_map.1 hu; simp [Value.oneCell']) (by unfold maxLen; omega) (by omega) (by first | with_reducible exact B_0.out.size | with_reducible exact B_05.out.size | with_reducible exact B_50.out.size) ?_
                intro v1 w2 hv1 hg1 ha1
                have hB1 := grown_below (B := wr.heap.size) (w0 := wr) (by first | with_reducible exact B_0.out | with_reducible exact B_05.out | with_reducible exact B_50.out) (by first | with_reducible exact B_0.out.size | with_reducible exact B_05.out.size | with_reducible exact B_50.out.size) hg1 (fun k hk => by simp [Value.ownBlock] at hk; omega)
                (first
                  | have hS5 := (grown_blk hg1 G_05.out (by simp [Value.ownBlock]))
                  | have hS5 := (grown_blk hg1 G_50.out (by simp [Value.ownBlock]))
                  | skip)))
            | ((refine step_append_src _ (by rfl) (.tmp 37) (.tmp 39) 22 (by rfl) wr.heap.size 9 i9 _ 1 16 und22 hi9 i9_z i9_s i9_b (by simp [Value.cells]) (by omega) v1 (0 + k) ([] ++ (l.take k).map Value.string) (by rfl) (by first | with_reducible exact hv1 | with_reducible exact own_keep hv1 (bel_a _ _)) _ 1 [.string s] (by rfl) (by first | exact blk_src hS5 rfl | exact blk_src (blk_new w2 _) rfl) (by simp [Value.oneCell']) (by unfold maxLen; omega) (by omega) (by first | with_reducible exact hB1.size | with_reducible exact (below_alloc hB1 _).size) ?_
                intro v3 w3 hv3 hg3 ha3
                have hB2 := grown_below (B := wr.heap.size) (w0 := wr) (by first | with_reducible exact hB1 | with_reducible exact below_alloc hB1 _) (by first | with_reducible exact hB1.size | with_reducible exact (below_alloc hB1 _).size) hg3 (own_base hv1)))
            | ((refine step_append_src _ (by rfl) (.tmp 40) (.tmp 43) 22 (by rfl) wr.heap.size 9 i9 _ 1 16 und22 hi9 i9_z i9_s i9_b (by simp [Value.cells]) (by omega) v3 (0 + k + 1) ([] ++ (l.take k).map Value.string ++ [.string s]) (by rfl) hv3 _ (0) ([]) (by rfl) (src_zero ⟨g, 0, none⟩ 0 0 rfl hB2) (by simp [Value.oneCell']) (by unfold maxLen; omega) (by omega) hB2.size ?_
                intro v5 w5 hv5 hg5 ha5
                have hB3 := grown_below (B := wr.heap.size) (w0 := wr) hB2 hB2.size hg5 (own_base hv3))))
        all_goals simp only [Act.put, List.getElem_toArray, List.getElem_cons_succ, List.getElem_cons_zero, List.setIfInBounds_toArray, List.set_cons_zero, List.set_cons_succ]
        all_goals go_wp2_with fail
        all_goals go_ret
        all_goals exact sor_new k hv5 (by rw [List.drop_eq_nil_of_le (by omega)]; simp) (by rw [List.drop_eq_nil_of_le (by omega)]; simp; omega) hB3
      · have hck2 : ¬ cap = k := fun e => hck e.symm
        clear hck
        go_upto_region 6 with fail
        have BD := Aside0.mk ((Below.refl wr.heap.size wr).drew)
        have B_0 := Aside0.mk ((bel_a wr (.cells #[] 9)).drew)
        have B_5 := Aside0.mk ((bel_a wr (.cells #[.string s] 9)).drew)
        have B_05 := Aside0.mk ((below_alloc (bel_a wr (.cells #[] 9)) (.cells #[.string s] 9)).drew)
        have B_50 := Aside0.mk ((below_alloc (bel_a wr (.cells #[.string s] 9)) (.cells #[] 9)).drew)
        have F_0 : Aside0 (((wr.alloc (.cells #[] 9)).drew).heap[wr.heap.size]? = some (.cells #[] 9 (0, 0))) := ⟨(blk_new wr (.cells #[] 9) : _)⟩
        have F_05 : Aside0 ((((wr.alloc (.cells #[] 9)).alloc (.cells #[.string s] 9)).drew).heap[wr.heap.size]? = some (.cells #[] 9 (0, 0))) := ⟨(blk_below (blk_new wr (.cells #[] 9)) (bel_a (wr.alloc (.cells #[] 9)) (.cells #[.string s] 9)) : _)⟩
        have F_50 : Aside0 ((((wr.alloc (.cells #[.string s] 9)).alloc (.cells #[] 9)).drew).heap[wr.heap.size + 1]? = some (.cells #[] 9 (0, 0))) := ⟨(two_new wr (.cells #[.string s] 9) (.cells #[] 9) : _)⟩
        have G_05 : Aside0 ((((wr.alloc (.cells #[] 9)).alloc (.cells #[.string s] 9)).drew).heap[wr.heap.size + 1]? = some (.cells #[.string s] 9)) := ⟨(two_new wr (.cells #[] 9) (.cells #[.string s] 9) : _)⟩
        have G_50 : Aside0 ((((wr.alloc (.cells #[.string s] 9)).alloc (.cells #[] 9)).drew).heap[wr.heap.size]? = some (.cells #[.string s] 9)) := ⟨(blk_below (blk_new wr (.cells #[.string s] 9)) (bel_a (wr.alloc (.cells #[.string s] 9)) (.cells #[] 9)) : _)⟩
        refine wp_noexit ?_
        go_region_held_law (fun w' => True)
          (trivial)
          (first
            | ((refine step_append_src _ (by rfl) (.tmp 33) (.tmp 36) 22 (by rfl) wr.heap.size 9 i9 _ 1 16 und22 hi9 i9_z i9_s i9_b (by simp [Value.cells]) (by omega) _ 0 [] (by rfl) (own_zero (by first | with_reducible exact F_0.out | with_reducible exact F_05.out | with_reducible exact F_50.out) (by omega)) _ k ((l.take k).map Value.string) (by rfl) (src_cut1 HR.out k hk (by first | with_reducible exact B_0.out | with_reducible exact B_05.out | with_reducible exact B_50.out)) (by intro u hu; obtain ⟨z, _, rfl⟩ := List.mem_map.1 hu; simp [Value.oneCell']) (by unfold maxLen; omega) (by omega) (by first | with_reducible exact B_0.out.size | with_reducible exact B_05.out.size | with_reducible exact B_50.out.size) ?_
                intro v1 w2 hv1 hg1 ha1
                have hB1 := grown_below (B := wr.heap.size) (w0 := wr) (by first | with_reducible exact B_0.out | with_reducible exact B_05.out | with_reducible exact B_50.out) (by first | with_reducible exact B_0.out.size | with_reducible exact B_05.out.size | with_reducible exact B_50.out.size) hg1 (fun k hk => by simp [Value.ownBlock] at hk; omega)
                (first
                  | have hS5 := (grown_blk hg1 G_05.out (by simp [Value.ownBlock]))
                  | have hS5 := (grown_blk hg1 G_50.out (by simp [Value.ownBlock]))
                  | skip)))
            | ((refine step_append_src _ (by rfl) (.tmp 37) (.tmp 39) 22 (by rfl) wr.heap.size 9 i9 _ 1 16 und22 hi9 i9_z i9_s i9_b (by simp [Value.cells]) (by omega) v1 (0 + k) ([] ++ (l.take k).map Value.string) (by rfl) (by first | with_reducible exact hv1 | with_reducible exact own_keep hv1 (bel_a _ _)) _ 1 [.string s] (by rfl) (by first | exact blk_src hS5 rfl | exact blk_src (blk_new w2 _) rfl) (by simp [Value.oneCell']) (by unfold maxLen; omega) (by omega) (by first | with_reducible exact hB1.size | with_reducible exact (below_alloc hB1 _).size) ?_
                intro v3 w3 hv3 hg3 ha3
                have hB2 := grown_below (B := wr.heap.size) (w0 := wr) (by first | with_reducible exact hB1 | with_reducible exact below_alloc hB1 _) (by first | with_reducible exact hB1.size | with_reducible exact (below_alloc hB1 _).size) hg3 (own_base hv1)))
            | ((refine step_append_src _ (by rfl) (.tmp 40) (.tmp 43) 22 (by rfl) wr.heap.size 9 i9 _ 1 16 und22 hi9 i9_z i9_s i9_b (by simp [Value.cells]) (by omega) v3 (0 + k + 1) ([] ++ (l.take k).map Value.string ++ [.string s]) (by rfl) hv3 _ (l.length - k) ([]) (by rfl) (src_zero ⟨g, k, none⟩ (l.length - k) (cap - k) (by omega) hB2) (by simp [Value.oneCell']) (by unfold maxLen; omega) (by omega) hB2.size ?_
                intro v5 w5 hv5 hg5 ha5
                have hB3 := grown_below (B := wr.heap.size) (w0 := wr) hB2 hB2.size hg5 (own_base hv3))))
        all_goals simp only [Act.put, List.getElem_toArray, List.getElem_cons_succ, List.getElem_cons_zero, List.setIfInBounds_toArray, List.set_cons_zero, List.set_cons_succ]
        all_goals go_wp2_with fail
        all_goals go_ret
        all_goals exact sor_new k hv5 (by rw [List.drop_eq_nil_of_le (by omega)]; simp) (by rw [List.drop_eq_nil_of_le (by omega)]; simp; omega) hB3
end Go.Proofs.YtjjnjnnfebifnaaGreatDoor.Rn
namespace Go.Proofs.YtjjnjnnfebifnaaGreatDoor.Rn
open Go.RowKit Go.Proofs.YtjjnjnnfebifnaaGreatDoorW.PrintWords Go.Proofs.YtjjnjnnfebifnaaGreatDoorW.PrintLast Go.Proofs.YtjjnjnnfebifnaaGreatDoor.PReachNormal

def RfrOk (N : Nat) : Prop := ∀ (x : S25) (A3 : Option Addr) (c3 : Nat) (A4 : Option Addr) (c4 : Nat) (A5 : Option Addr) (c5 : Nat) (w : World), size x ≤ N → size x ≤ 12000 → fine x = true → Lay w x A3 c3 A4 c4 A5 c5 →
    Calls Tryz.prog 14 #[ag x A3 c3 A4 c4 A5 c5] w fun e w' => ∃ v l, e = .returned v ∧ RowS w' v l ∧ (∀ z, z ∈ l ↔ rfree z x = true) ∧ l.length ≤ 12000 * size x ∧ Below w.heap.size w w'

theorem rfree_eq (z : ByteArray) (x : S25) : rfree z x = (memB z x.f4 || (!memB z x.f3 && rfreeL z x.f5)) := by
  obtain ⟨k, a, n, vs, ar, ks⟩ := x
  conv => lhs; unfold rfree
theorem rfreeL_at {z : ByteArray} {l : List S25} {k : Nat} {y : S25} (h : l[k]? = some y) : rfreeL z (l.drop k) = (rfree z y || rfreeL z (l.drop (k + 1))) := by
  rw [drop_at h]; conv => lhs; unfold rfreeL
theorem rfreeL_nil (z : ByteArray) : rfreeL z [] = false := by unfold rfreeL; rfl
theorem memdrop {l : List ByteArray} {k : Nat} {y : ByteArray} (h : l[k]? = some y) (z : ByteArray) : z ∈ l.drop k ↔ z = y ∨ z ∈ l.drop (k + 1) := by
  rw [sdrop_at h]; exact List.mem_cons

/-- what the first loop has gathered -/
def FrIn (x : S25) (k : Nat) (lo : List ByteArray) : Prop := (∀ z, rfree z x = true ↔ z ∈ lo ∨ (z ∉ x.f3 ∧ rfreeL z (x.f5.drop k) = true) ∨ z ∈ x.f4) ∧ lo.length + 12000 * sizeL (x.f5.drop k) + x.f4.length ≤ 12000 * size x
/-- .. inside it -/
def FrJn (x : S25) (k : Nat) (l : List ByteArray) (j : Nat) (lo : List ByteArray) : Prop := (∀ z, rfree z x = true ↔ z ∈ lo ∨ (z ∉ x.f3 ∧ z ∈ l.drop j) ∨ (z ∉ x.f3 ∧ rfreeL z (x.f5.drop (k + 1)) = true) ∨ z ∈ x.f4) ∧ lo.length + (l.length - j) + 12000 * sizeL (x.f5.drop (k + 1)) + x.f4.length ≤ 12000 * size x
/-- .. and the second -/
def FrKn (x : S25) (j : Nat) (lo : List ByteArray) : Prop := (∀ z, rfree z x = true ↔ z ∈ lo ∨ z ∈ x.f4.drop j) ∧ lo.length + (x.f4.length - j) ≤ 12000 * size x

theorem fr_start {x : S25} (h4 : x.f4.length ≤ 12000) : FrIn x 0 [] := by
  refine ⟨fun z => ?_, ?_⟩
  · rw [rfree_eq, List.drop_zero, Bool.or_eq_true, memB_iff, Bool.and_eq_true, Bool.not_eq_true', memB_not]
    simp only [List.not_mem_nil, false_or]
    exact or_comm
  · have := size_eq' x
    simp only [List.drop_zero, List.length_nil]; omega
theorem fr_in {x y : S25} {k : Nat} {lo l : List ByteArray} (h : FrIn x k lo) (hk : x.f5[k]? = some y) (hl : ∀ z, z ∈ l ↔ rfree z y = true) (hll : l.length ≤ 12000 * size y) : FrJn x k l 0 lo := by
  obtain ⟨h1, h2⟩ := h
  have hs := sizeL_drop' hk
  refine ⟨fun z => ?_, by omega⟩
  rw [h1 z, rfreeL_at hk, Bool.or_eq_true, List.drop_zero, hl z]
  constructor
  · rintro (h | ⟨h, h' | h'⟩ | h)
    · exact .inl h
    · exact .inr (.inl ⟨h, h'⟩)
    · exact .inr (.inr (.inl ⟨h, h'⟩))
    · exact .inr (.inr (.inr h))
  · rintro (h | ⟨h, h'⟩ | ⟨h, h'⟩ | h)
    · exact .inl h
    · exact .inr (.inl ⟨h, .inl h'⟩)
    · exact .inr (.inl ⟨h, .inr h'⟩)
    · exact .inr (.inr h)
theorem fr_skip {x : S25} {k j : Nat} {lo l : List ByteArray} {y : ByteArray} (h : FrJn x k l j lo) (hj : l[j]? = some y) (hm : memB y x.f3 = true) : FrJn x k l (j + 1) lo := by
  obtain ⟨h1, h2⟩ := h
  rw [memB_iff] at hm
  refine ⟨fun z => ?_, by omega⟩
  rw [h1 z, memdrop hj]
  constructor
  · rintro (h | ⟨h, rfl | h'⟩ | h | h)
    · exact .inl h
    · exact (h hm).elim
    · exact .inr (.inl ⟨h, h'⟩)
    · exact .inr (.inr (.inl h))
    · exact .inr (.inr (.inr h))
  · rintro (h | ⟨h, h'⟩ | h | h)
    · exact .inl h
    · exact .inr (.inl ⟨h, .inr h'⟩)
    · exact .inr (.inr (.inl h))
    · exact .inr (.inr (.inr h))
theorem fr_take {x : S25} {k j : Nat} {lo lo' l : List ByteArray} {y : ByteArray} (h : FrJn x k l j lo) (hj : l[j]? = some y) (hm : memB y x.f3 = false) (hl : ∀ z, z ∈ lo' ↔ z = y ∨ z ∈ lo) (hll : lo'.length ≤ lo.length + 1) : FrJn x k l (j + 1) lo' := by
  obtain ⟨h1, h2⟩ := h
  have hlt := (List.getElem?_eq_some_iff.1 hj).1
  rw [memB_not] at hm
  refine ⟨fun z => ?_, by omega⟩
  rw [h1 z, memdrop hj, hl z]
  constructor
  · rintro (h | ⟨h, rfl | h'⟩ | h | h)
    · exact .inl (.inr h)
    · exact .inl (.inl rfl)
    · exact .inr (.inl ⟨h, h'⟩)
    · exact .inr (.inr (.inl h))
    · exact .inr (.inr (.inr h))
  · rintro ((rfl | h) | ⟨h, h'⟩ | h | h)
    · exact .inr (.inl ⟨hm, .inl rfl⟩)
    · exact .inl h
    · exact .inr (.inl ⟨h, .inr h'⟩)
    · exact .inr (.inr (.inl h))
    · exact .inr (.inr (.inr h))
theorem fr_out {x : S25} {k j : Nat} {lo l : List ByteArray} (h : FrJn x k l j lo) (hj : l.length ≤ j) : FrIn x (k + 1) lo := by
  obtain ⟨h1, h2⟩ := h
  refine ⟨fun z => ?_, by omega⟩
  rw [h1 z, List.drop_eq_nil_of_le hj]
  simp
theorem fr_mid {x : S25} {k : Nat} {lo : List ByteArray} (h : FrIn x k lo) (hk : x.f5.length ≤ k) : FrKn x 0 lo := by
  obtain ⟨h1, h2⟩ := h
  rw [List.drop_eq_nil_of_le hk] at h1 h2
  refine ⟨fun z => ?_, by omega⟩
  rw [h1 z, rfreeL_nil, List.drop_zero]
  simp
theorem fr_arg {x : S25} {j : Nat} {lo lo' : List ByteArray} {y : ByteArray} (h : FrKn x j lo) (hj : x.f4[j]? = some y) (hl : ∀ z, z ∈ lo' ↔ z = y ∨ z ∈ lo) (hll : lo'.length ≤ lo.length + 1) : FrKn x (j + 1) lo' := by
  obtain ⟨h1, h2⟩ := h
  have hlt := (List.getElem?_eq_some_iff.1 hj).1
  refine ⟨fun z => ?_, by omega⟩
  rw [h1 z, memdrop hj, hl z]
  constructor
  · rintro (h | h | h)
    · exact .inl (.inr h)
    · exact .inl (.inl h)
    · exact .inr h
  · rintro ((h | h) | h)
    · exact .inr (.inl h)
    · exact .inl h
    · exact .inr (.inr h)
theorem fr_end {x : S25} {j : Nat} {lo : List ByteArray} (h : FrKn x j lo) (hj : x.f4.length ≤ j) : (∀ z, z ∈ lo ↔ rfree z x = true) ∧ lo.length ≤ 12000 * size x := by
  obtain ⟨h1, h2⟩ := h
  rw [List.drop_eq_nil_of_le hj] at h1
  refine ⟨fun z => ?_, by omega⟩
  rw [h1 z]
  simp
/-- sorted, on whatever list -/
theorem sorted_calls (l : List ByteArray) (s : ByteArray) (v : Value) (w : World) (hl : l.length ≤ 200000000) (h : RowS w v l) : Calls Tryz.prog 55 #[v, .string s] w (SorP l s w) := by
  rcases h.2 with ⟨rfl, h0⟩ | ⟨g, cap, cur, rfl, hbb, hh, hn, hcap, hsz, ht⟩
  · obtain rfl : l = [] := List.length_eq_zero_iff.1 h0
    exact sor_nil s w
  · exact sor_blk l s g cap w hl hn hcap h

set_option maxHeartbeats 8000000 in
set_option maxRecDepth 100000 in
theorem rfree_calls (N : Nat) : RfrOk N := by
  induction N with
  | zero => intro x A3 c3 A4 c4 A5 c5 w hn; cases x; unfold size at hn; omega
  | succ N ih =>
    intro x A3 c3 A4 c4 A5 c5 w hn hsz hf hL
    have hu25 := Tryz.underlying25
    have HF := Aside0.mk hf
    have HL := Aside0.mk hL
    have HN := Aside0.mk (And.intro hn hsz)
    have IH := Aside0.mk ih
    have hl5 : x.f5.length ≤ 12000 := (fine_len hf).2.2.2
    have hl4 : x.f4.length ≤ 12000 := (fine_len hf).2.2.1
    have hl3 : x.f3.length ≤ 12000 := (fine_len hf).2.1
    have HX := Aside0.mk (blk_new w (bx x A3 c3 A4 c4 A5 c5))
    have HB := Aside0.mk (bel_a w (bx x A3 c3 A4 c4 A5 c5))
    clear hf hL hn ih hsz
    go_enter Tryz.func14, Tryz.ntmps14
    go_upto_region 1 with fail
    generalize w.alloc (bx x A3 c3 A4 c4 A5 c5) = W1 at HX HB ⊢
    have a5 := (blk_cell HX.out 5).trans rfl
    go_wp2_with fail
    go_loopw [3, 4, 5, 6] (fun o i _ _ wr => ∃ (k : Nat) (lo : List ByteArray), k ≤ x.f5.length ∧ i = .int .i64 k ∧ Aside0 (RowS wr o lo) ∧ Aside0 (FrIn x k lo) ∧ Aside0 (wr.heap[w.heap.size]? = some (bx x A3 c3 A4 c4 A5 c5)) ∧ Aside0 (Below w.heap.size w wr)) (fun _ i _ _ _ => x.f5.length - (intOf i).toNat)
    case atStart => exact ⟨0, [], Nat.zero_le _, rfl, ⟨rowS_nil _⟩, ⟨fr_start hl4⟩, HX, HB⟩
    case round =>
      clear HX HB a5
      obtain ⟨k, lo, hk, rfl, HR, HI, HX, HB⟩ := hrel
      have a5 := (blk_cell HX.out 5).trans rfl
      by_cases hlt : k < x.f5.length
      · obtain ⟨y, ad, B3, e3, B4, e4, B5, e5, hx, rfl, h0, h1, h2, h3, h4, h5, hLy⟩ := kid_at (HL.out.below HB.out).g5 k hlt
        have HXX := Aside0.mk hx
        have hy := List.mem_of_getElem? hx
        have hsm := size_mem hy
        have HIH := Aside0.mk (IH.out y B3 e3 B4 e4 B5 e5 wr (by have := HN.out; omega) (by have := HN.out; omega) (fine_mem HF.out hy) hLy)
        clear hx hy hLy hsm
        go_upto_region 7 with (first
          | (go_at_call 14; with_reducible refine HIH.out.mono ?_; rintro e w3 ⟨v5, l5, rfl, hp1, hp2, hp3, hp4⟩; have HP := Aside0.mk hp1; have HJ := Aside0.mk (fr_in HI.out HXX.out hp2 hp3); have HB3 := Aside0.mk hp4; clear hp1 hp2 hp3 hp4))
        have HX3 := Aside0.mk (blk_below HX.out HB3.out)
        have HR3 := Aside0.mk (own_keep HR.out HB3.out)
        have HBB := Aside0.mk (below_step HB.out HB3.out)
        clear HX HR HB HB3 HI HXX HIH a5 h0 h1 h2 h3 h4 h5
        obtain ⟨A, c, rfl, hcl, hcm, _⟩ := RowS.C HP.out
        have hl6 : l5.length ≤ 144000000 := by have := HJ.out.2; have := HN.out.2; omega
        go_wp2_with fail
        go_loopw [3, 6] (fun o i wr => ∃ (j : Nat) (lo : List ByteArray), j ≤ l5.length ∧ i = .int .i64 j ∧ Aside0 (RowS wr o lo) ∧ Aside0 (RowS wr (.slice A l5.length c) l5) ∧ Aside0 (FrJn x k l5 j lo) ∧ Aside0 (wr.heap[w.heap.size]? = some (bx x A3 c3 A4 c4 (some ad) c5)) ∧ Aside0 (Below w.heap.size w wr)) (fun _ i _ => l5.length - (intOf i).toNat)
        case atStart => exact ⟨0, lo, Nat.zero_le _, rfl, HR3, HP, HJ, HX3, HBB⟩
        case round =>
          clear HX3 HR3 HBB HP HJ
          obtain ⟨j, lo2, hj, rfl, HR, HP, HJ, HX, HB⟩ := hrel
          by_cases hltj : j < l5.length
          · obtain ⟨A', c', e, _, _, hC⟩ := RowS.C HP.out
            simp only [Value.slice.injEq] at e
            obtain ⟨rfl, _, rfl⟩ := e
            obtain ⟨s, ad2, hx, rfl, h0⟩ := str_at hC j hltj
            have HXX := Aside0.mk hx
            have HAM := Aside0.mk (among_calls A3 c3 x.f3 s wr.drew (by omega) (HL.out.below HB.out.drew).g3)
            have a3 := (blk_cell HX.out 3).trans rfl
            have HXD := Aside0.mk (blk_below HX.out (Below.refl _ _).drew)
            have HRD := Aside0.mk (own_keep HR.out (Below.refl _ _).drew)
            have HPD := Aside0.mk (own_keep HP.out (Below.refl _ _).drew)
            have HBD := Aside0.mk HB.out.drew
            have h0d : (wr.drew).cell? _ = some (.string s) := h0
            have HSO := Aside0.mk (sorted_calls lo2 s _ wr.drew (by have := HJ.out.2; have := HN.out.2; omega) HRD.out)
            clear hx hC
            go_upto_region 9 with fail
            refine wp_region_still_tail 6 (by kernel_rfl) (by kernel_rfl) ?_
            simp only [List.take_succ_cons, List.take_zero, List.drop_succ_cons, List.drop_zero]
            change wpStill _ _ (World.drew wr) _ _ _
            repeat still_step
            refine wpStill_nil ?_
            change wpList _ _ _ _ _ (World.drew wr)
            generalize wr.drew = wd at HAM HXD HRD HPD HBD h0d HSO ⊢
            clear HR HP HX HB a3 h0
            cases hm : memB s x.f3
            · rw [hm] at HAM
              have HM := Aside0.mk hm
              clear hm
              go_wp2_with (first
                | (go_at_call 54; with_reducible refine HAM.out.mono ?_; rintro e w1 ⟨rfl, hw⟩; obtain rfl := hw.symm)
                | (go_at_call 55; (with_reducible refine HSO.out.mono ?_); rintro e w1 ⟨v', l', rfl, hp1, hp2, hp3, hp4⟩; have HR' := Aside0.mk hp1; have HJ' := Aside0.mk (fr_take HJ.out HXX.out HM.out hp2 hp3); have HB' := Aside0.mk hp4; clear hp1 hp2 hp3 hp4))
              go_roundw
              case rel => exact ⟨j + 1, l', by omega, by go_num, HR', ⟨own_keep HPD.out HB'.out⟩, HJ', ⟨blk_below HXD.out HB'.out⟩, ⟨below_step HBD.out HB'.out⟩⟩
              case measure => simp [intOf]; omega
            · rw [hm] at HAM
              have HM := Aside0.mk hm
              clear hm
              go_wp2_with (first
                | (go_at_call 54; with_reducible refine HAM.out.mono ?_; rintro e w1 ⟨rfl, hw⟩; obtain rfl := hw.symm))
              go_roundw
              case rel => exact ⟨j + 1, lo2, by omega, by go_num, HRD, HPD, ⟨fr_skip HJ.out HXX.out HM.out⟩, HXD, HBD⟩
              case measure => simp [intOf]; omega
          · go_wp2_with fail
            go_roundw
            case rel => exact ⟨k + 1, lo2, by omega, by go_num, HR, ⟨fr_out HJ.out (by omega)⟩, HX, HB⟩
            case measure => simp [intOf]; omega
      · have HM := Aside0.mk (fr_mid HI.out (by omega))
        have a4 := (blk_cell HX.out 4).trans rfl
        clear HI
        go_wp2_with fail
        go_loopw [3, 7] (fun o i wr => ∃ (j : Nat) (lo : List ByteArray), j ≤ x.f4.length ∧ i = .int .i64 j ∧ Aside0 (RowS wr o lo) ∧ Aside0 (FrKn x j lo) ∧ Aside0 (wr.heap[w.heap.size]? = some (bx x A3 c3 A4 c4 A5 c5)) ∧ Aside0 (Below w.heap.size w wr)) (fun _ i _ => x.f4.length - (intOf i).toNat)
        case atStart => exact ⟨0, lo, Nat.zero_le _, rfl, HR, HM, HX, HB⟩
        case round =>
          clear HX HR HM HB a4 a5
          obtain ⟨j, lo2, hj, rfl, HR, HI, HX, HB⟩ := hrel
          have a4 := (blk_cell HX.out 4).trans rfl
          by_cases hltj : j < x.f4.length
          · obtain ⟨s, ad, hx, rfl, h0⟩ := str_at (HL.out.below HB.out).g4 j hltj
            have HXX := Aside0.mk hx
            have HSO := Aside0.mk (sorted_calls lo2 s _ wr (by have := HI.out.2; have := HN.out.2; omega) HR.out)
            clear hx
            go_wp2_with (first
              | (go_at_call 55; (with_reducible refine HSO.out.mono ?_); rintro e w1 ⟨v', l', rfl, hp1, hp2, hp3, hp4⟩; have HR' := Aside0.mk hp1; have HJ' := Aside0.mk (fr_arg HI.out HXX.out hp2 hp3); have HB' := Aside0.mk hp4; clear hp1 hp2 hp3 hp4))
            exact ⟨⟨j + 1, l', by omega, by go_num, HR', HJ', ⟨blk_below HX.out HB'.out⟩, ⟨below_step HB.out HB'.out⟩⟩, by simp [intOf]; omega⟩
          · go_wp2_with fail
            go_ret
            have := fr_end HI.out (by omega)
            exact ⟨_, lo2, rfl, HR.out, this.1, this.2, HB.out⟩
end Go.Proofs.YtjjnjnnfebifnaaGreatDoor.Rn
