import Derived.Maps.OwnSet
import Derived.Maps.Own
import Derived.Test.YtjjnjnnfebifnaaGreatDoorRf
set_option linter.all false
namespace Go.Proofs.YtjjnjnnfebifnaaGreatDoor.Rn
open Go.RowKit Go.Proofs.YtjjnjnnfebifnaaGreatDoorW.PrintWords Go.Proofs.YtjjnjnnfebifnaaGreatDoorW.PrintLast Go.Proofs.YtjjnjnnfebifnaaGreatDoor.PReachNormal
open Go.Ev (setB setB_size setB_same setB_ne)

theorem start_st (w : World) (o : Obj) {p : Pl} (e1 : p.b = w.heap.size + 1 + 1 + 1) (e2 : p.base = w.heap.size) (e3 : p.m1 = w.heap.size + 1) (e4 : p.m2 = w.heap.size + 1 + 1) :
    WSt p 0 0 false [] (fun _ => none) ((((w.alloc o).alloc (.map #[] 0)).alloc (.map #[] 0)).alloc (ck p 0 0 false)) := by
  have s1 : (w.alloc o).heap.size = w.heap.size + 1 := size_alloc ..
  have s2 : ((w.alloc o).alloc (.map #[] 0)).heap.size = w.heap.size + 1 + 1 := by rw [size_alloc, s1]
  have s3 : (((w.alloc o).alloc (.map #[] 0)).alloc (.map #[] 0)).heap.size = w.heap.size + 1 + 1 + 1 := by rw [size_alloc, s2]
  have b := blk_new (((w.alloc o).alloc (.map #[] 0)).alloc (.map #[] 0)) (ck p 0 0 false)
  have m1 := blk_below (blk_below (blk_new (w.alloc o) (.map #[] 0)) (bel_a _ (.map #[] 0))) (bel_a _ (ck p 0 0 false))
  have m2 := blk_below (blk_new ((w.alloc o).alloc (.map #[] 0)) (.map #[] 0)) (bel_a _ (ck p 0 0 false))
  rw [s3, ← e1] at b
  rw [s1, ← e3] at m1
  rw [s2, ← e4] at m2
  exact ⟨by omega, b, ⟨#[], 0, m1, ⟨fun e he => by simp at he, fun s => rfl, fun s s' v v' _ h => by simp [look] at h⟩⟩, ⟨#[], 0, m2, ⟨fun e he => by simp at he, fun s => rfl⟩⟩⟩

set_option maxHeartbeats 1600000 in
set_option maxRecDepth 100000 in
theorem checked_calls (ho : OneKid shpP) (x : S25) (A3 : Option Addr) (c3 : Nat) (A4 : Option Addr) (c4 : Nat) (A5 : Option Addr) (c5 : Nat) (w : World) (hf : fine x = true) (hL : Lay w x A3 c3 A4 c4 A5 c5) :
    Calls Tryz.prog 91 #[ag x A3 c3 A4 c4 A5 c5] w fun e w' => ∃ b, e = .returned (.pointer (some ⟨b, 0, none⟩)) ∧ w'.cell? ⟨b, 4, none⟩ = some (.bool (walk shpP x 1 [] ⟨0, fun _ => none, false⟩).bad) ∧ Below w.heap.size w w' := by
  have hu25 := Tryz.underlying25
  have HF := Aside0.mk hf
  have HL := Aside0.mk hL
  clear hf hL
  have hmk : ∀ (t : TypeId) (w : World), (Instr.makeMap t none).run Tryz.prog w = .ok (.map (some w.heap.size)) (w.alloc (.map #[] 0)) := fun t w => rfl
  go_enter Tryz.func91, Tryz.ntmps91
  go_upto_region 2 with fail
  have hW : ∃ p : Pl, p.b = w.heap.size + 1 + 1 + 1 ∧ p.base = w.heap.size ∧ p.m1 = w.heap.size + 1 ∧ p.m2 = w.heap.size + 1 + 1 := ⟨⟨_, _, _, _⟩, rfl, rfl, rfl, rfl⟩
  obtain ⟨p, e1, e2, e3, e4⟩ := hW
  have HS := Aside0.mk (start_st w (bx x A3 c3 A4 c4 A5 c5) e1 e2 e3 e4)
  have HB := Aside0.mk (below_alloc (below_alloc (below_alloc (bel_a w (bx x A3 c3 A4 c4 A5 c5)) (.map #[] 0)) (.map #[] 0)) (ck p 0 0 false))
  have HBX := Aside0.mk (blk_below (blk_below (blk_below (blk_new w (bx x A3 c3 A4 c4 A5 c5)) (bel_a _ (.map #[] 0))) (bel_a _ (.map #[] 0))) (bel_a _ (ck p 0 0 false)))
  rw [← e1, ← e4, ← e3]
  have G := Aside0.mk (show w.heap.size ≤ p.b ∧ w.heap.size ≤ p.m1 ∧ w.heap.size ≤ p.m2 ∧ w.heap.size ≤ p.base ∧ p.base ≤ p.b by omega)
  clear e1 e2 e3 e4
  generalize (((w.alloc (bx x A3 c3 A4 c4 A5 c5)).alloc (.map #[] 0)).alloc (.map #[] 0)).alloc (ck p 0 0 false) = W4 at HS HB HBX ⊢
  have kb0 := (blk_cell HBX.out 0).trans rfl
  have kb1 := (blk_cell HBX.out 1).trans rfl
  have kb2 := (blk_cell HBX.out 2).trans rfl
  have kb3 := (blk_cell HBX.out 3).trans rfl
  have kb4 := (blk_cell HBX.out 4).trans rfl
  have kb5 := (blk_cell HBX.out 5).trans rfl
  have HW := walk_calls ho _ x 1 0 0 [] (fun _ => none) p A3 c3 A4 c4 A5 c5 w W4 (Nat.le_refl _) HF.out (by omega) (by simp) (by omega) HL.out HB.out G.out.1 G.out.2.1 G.out.2.2.1 G.out.2.2.2.1 G.out.2.2.2.2 HS.out
  rw [show (((1 : Nat)) : Int) = 1 by rfl] at HW
  have HW := Aside0.mk HW
  go_wp2_with (first
    | (go_at_call 158; with_reducible refine HW.out.mono ?_; rintro e w2 ⟨rfl, hp⟩; have HP := Aside0.mk hp; clear hp))
  go_ret
  obtain ⟨d, hs, ht⟩ := HP.out
  exact ⟨p.b, rfl, (blk_cell hs.cb 4).trans rfl, May.below HB.out ht G.out.1 G.out.2.1 G.out.2.2.1 G.out.2.2.2.1⟩

set_option maxHeartbeats 1600000 in
set_option maxRecDepth 100000 in
theorem valid_calls (ho : OneKid shpP) (x : S25) (A3 : Option Addr) (c3 : Nat) (A4 : Option Addr) (c4 : Nat) (A5 : Option Addr) (c5 : Nat) (w : World) (hf : fine x = true) (hL : Lay w x A3 c3 A4 c4 A5 c5) :
    Calls Tryz.prog 41 #[ag x A3 c3 A4 c4 A5 c5] w fun e w' => e = .returned (.bool (pvalid shpP x)) ∧ Below w.heap.size w w' := by
  have hu25 := Tryz.underlying25
  have HC := Aside0.mk (checked_calls ho x A3 c3 A4 c4 A5 c5 (w.alloc (bx x A3 c3 A4 c4 A5 c5)) hf (lay_alloc hL _))
  go_enter Tryz.func41, Tryz.ntmps41
  go_wp2_with (first
    | (go_at_call 91; with_reducible refine HC.out.mono ?_; rintro e w2 ⟨b, rfl, hc, hb⟩; have HB := Aside0.mk hb; clear hb))
  go_ret
  exact ⟨rfl, below_step (bel_a w _) HB.out⟩
end Go.Proofs.YtjjnjnnfebifnaaGreatDoor.Rn
namespace Go.Proofs.YtjjnjnnfebifnaaGreatDoor.Rn
open Go.RowKit Go.Proofs.YtjjnjnnfebifnaaGreatDoorW.PrintWords Go.Proofs.YtjjnjnnfebifnaaGreatDoorW.PrintLast Go.Proofs.YtjjnjnnfebifnaaGreatDoor.PReachNormal
open Go.Ev (setB setB_size setB_same setB_ne)

/-! ### names bound, counted -/
def cntB (s : ByteArray) : List ByteArray → Nat
  | [] => 0
  | a :: l => (if s = a then 1 else 0) + cntB s l
theorem cntB_app (s : ByteArray) : ∀ (l m : List ByteArray), cntB s (l ++ m) = cntB s l + cntB s m
  | [], m => by simp [cntB]
  | a :: l, m => by simp only [List.cons_append, cntB, cntB_app s l m]; omega
theorem cntB_le (s : ByteArray) : ∀ l : List ByteArray, cntB s l ≤ l.length
  | [] => Nat.le_refl _
  | a :: l => by have := cntB_le s l; simp only [cntB, List.length_cons]; split <;> omega
theorem cntB_mem (s : ByteArray) : ∀ l : List ByteArray, (cntB s l == 0) = !memB s l
  | [] => rfl
  | a :: l => by
    have := cntB_mem s l
    by_cases h : s = a
    · subst h; simp [cntB, memB]
    · have h' : ¬ a = s := fun e => h e.symm
      simp only [cntB, if_neg h, Nat.zero_add, this]
      simp [memB, h']
theorem cntB_int (s : ByteArray) (l : List ByteArray) : (((cntB s l : Nat) : Int) == 0) = !memB s l := by
  rw [← cntB_mem]
  by_cases h : cntB s l = 0
  · simp [h]
  · have : (cntB s l : Int) ≠ 0 := by omega
    rw [beq_eq_false_iff_ne.2 h, beq_eq_false_iff_ne.2 this]

/-- a name that is not bound among these -/
def fA (B l : List ByteArray) : Bool := l.any fun a => !memB a B
def pfB (x : Fm) (B : List ByteArray) : Bool := !(pfree x B).isEmpty
def pfBL (l : List Fm) (B : List ByteArray) : Bool := !(pfreeL l B).isEmpty
theorem filter_ne (B : List ByteArray) : ∀ l : List ByteArray, (!(l.filter fun a => !memB a B).isEmpty) = fA B l
  | [] => rfl
  | a :: l => by
    have := filter_ne B l
    unfold fA at this ⊢
    rw [List.filter_cons, List.any_cons]
    cases memB a B
    · simp
    · simpa using this
theorem ne_app {α : Type} (l m : List α) : (!(l ++ m).isEmpty) = (!l.isEmpty || !m.isEmpty) := by cases l <;> simp
theorem pfB_eq (x : Fm) (B : List ByteArray) : pfB x B = (fA B x.f4 || pfBL x.f5 (B ++ x.f3)) := by
  obtain ⟨k, a, n, vs, ar, ks⟩ := x
  unfold pfB pfBL
  conv => lhs; unfold pfree
  rw [ne_app, filter_ne]
theorem fA_drop {B l : List ByteArray} {k : Nat} {y : ByteArray} (h : l[k]? = some y) : fA B (l.drop k) = (!memB y B || fA B (l.drop (k + 1))) := by
  rw [sdrop_at h]; rfl
theorem pfBL_drop {B : List ByteArray} {l : List Fm} {k : Nat} {y : Fm} (h : l[k]? = some y) : pfBL (l.drop k) B = (pfB y B || pfBL (l.drop (k + 1)) B) := by
  rw [drop_at h]; unfold pfBL pfB
  conv => lhs; unfold pfreeL
  rw [ne_app]
theorem sizeL_drop {l : List Fm} {k : Nat} {y : Fm} (h : l[k]? = some y) : sizeL (l.drop k) = size y + sizeL (l.drop (k + 1)) := by
  rw [drop_at h]; conv => lhs; unfold sizeL

/-! ### the two maps -/
def BndAt (w : World) (mb : Nat) (B : List ByteArray) : Prop := ∃ es c, w.heap[mb]? = some (.map es c) ∧ allStr es.toList ∧ ∀ s, (look es.toList s).getD (.int .i64 0) = .int .i64 (cntB s B)
def OutAt (w : World) (mo nn : Nat) (b : Bool) : Prop := ∃ D : DataW Unit, w.ownsMap Tryz.prog 9 (plainElem Tryz.prog 4) mo nn D ∧ b = decide (Maps.size D ≠ 0)

theorem und93 : Tryz.prog.underlying 93 = some (.map 9 4) := by kernel_rfl
theorem und4 : Tryz.prog.underlying 4 = some .bool := by kernel_rfl

theorem BndAt.look {w : World} {mb : Nat} {B : List ByteArray} (h : BndAt w mb B) (s : ByteArray) : (Instr.lookup 155 (.map (some mb)) (.string s) false).run Tryz.prog w = .ok (.int .i64 (cntB s B)) w := by
  obtain ⟨es, c, hm, hs, hv⟩ := h
  have := run_look und155 und9 zero3 hm hs s false
  rw [this, ← hv s]; rfl
theorem BndAt.put {w : World} {mb : Nat} {B B' : List ByteArray} (h : BndAt w mb B) (s : ByteArray) (v : Int) (hv : v = (cntB s B' : Int)) (ho : ∀ s', s' ≠ s → cntB s' B' = cntB s' B) :
    ∃ w', (Instr.mapUpdate 155 (.map (some mb)) (.string s) (.int .i64 v)).run Tryz.prog w = .ok () w' ∧ BndAt w' mb B' ∧ Tch (· = mb) w w' := by
  obtain ⟨es, c, hm, hs, hl⟩ := h
  obtain ⟨es', c', hr, hs', hl'⟩ := run_upd und155 und9 hm hs s (.int .i64 v)
  refine ⟨_, hr, ⟨es', c', setB_same hm _, hs', fun s' => ?_⟩, setB_tch (S := (· = mb)) rfl _⟩
  rw [hl']
  by_cases e : s' = s
  · subst e; rw [if_pos rfl, hv]; rfl
  · rw [if_neg e, hl, ho s' e]
theorem OutAt.put {w : World} {mo nn : Nat} {b : Bool} (h : OutAt w mo nn b) (s : ByteArray) (hs : s.size ≤ maxLen) (hn : nn < maxLen) :
    ∃ w', (Instr.mapUpdate 93 (.map (some mo)) (.string s) (.bool true)).run Tryz.prog w = .ok () w' ∧ OutAt w' mo (nn + 1) true ∧ Tch (· = mo) w w' := by
  obtain ⟨D, hD, _⟩ := h
  have hkey : keyOf Tryz.prog 9 (.string s) = some (.string s.data.toList) := by simp [keyOf, und9, mapKey, hs]
  obtain ⟨w', hr, h1, h2⟩ := hD.update (Maps.string_keyed und9) und93 hn hkey (val := .bool true) (d := .lit (.bool true)) (ps := []) (by simp [plainElem, und4])
  refine ⟨w', hr, ⟨_, h1, ?_⟩, ⟨h2.os, h2.tape, h2.output, h2.size, fun i hi hn => h2.block i hi (fun e => hn (by simpa using e))⟩⟩
  obtain ⟨es, c, _, _, _, hes⟩ := hD
  rw [hes, DataW.put_eq]
  unfold ChangeMaps.putKey Maps.size
  simp [length_insert]

abbrev Two (mb mo : Nat) (i : Nat) : Prop := i = mb ∨ i = mo
theorem BndAt.tch {w w' : World} {S : Nat → Prop} {mb : Nat} {B : List ByteArray} (h : BndAt w mb B) (t : Tch S w w') (hn : ¬ S mb) : BndAt w' mb B := by
  obtain ⟨es, c, hm, r⟩ := h
  exact ⟨es, c, t.blk hm hn, r⟩
theorem OutAt.tch {w w' : World} {S : Nat → Prop} {mo nn : Nat} {b : Bool} (h : OutAt w mo nn b) (t : Tch S w w') (hn : ¬ S mo) : OutAt w' mo nn b := by
  obtain ⟨D, ⟨es, c, hm, r⟩, hb⟩ := h
  exact ⟨D, ⟨es, c, t.blk hm hn, r⟩, hb⟩
theorem BndAt.lt {w : World} {mb : Nat} {B : List ByteArray} (h : BndAt w mb B) : mb < w.heap.size := by
  obtain ⟨es, c, hm, r⟩ := h
  exact blk_lt hm
theorem OutAt.lt {w : World} {mo nn : Nat} {b : Bool} (h : OutAt w mo nn b) : mo < w.heap.size := by
  obtain ⟨D, ⟨es, c, hm, r⟩, hb⟩ := h
  exact blk_lt hm

/-- the inside of free -/
structure FI (mb mo : Nat) (x : S25) (A3 : Option Addr) (c3 : Nat) (A4 : Option Addr) (c4 : Nat) (A5 : Option Addr) (c5 : Nat) (ws : World) (B : List ByteArray) (nn : Nat) (b : Bool) (w : World) : Prop where
  ne : mb ≠ mo
  l1 : mb < ws.heap.size
  l2 : mo < ws.heap.size
  bd : BndAt w mb B
  ou : OutAt w mo nn b
  f : w.heap[ws.heap.size]? = some (bx x A3 c3 A4 c4 A5 c5)
  t : Tch (Two mb mo) ws w

section
variable {mb mo : Nat} {x : S25} {A3 : Option Addr} {c3 : Nat} {A4 : Option Addr} {c4 : Nat} {A5 : Option Addr} {c5 : Nat} {ws : World} {B B' : List ByteArray} {nn nn' : Nat} {b b' : Bool} {w w' : World}
theorem FI.f3 (h : FI mb mo x A3 c3 A4 c4 A5 c5 ws B nn b w) : w.cell? ⟨ws.heap.size, 3, none⟩ = some (.slice A3 x.f3.length c3) := (blk_cell h.f 3).trans rfl
theorem FI.f4 (h : FI mb mo x A3 c3 A4 c4 A5 c5 ws B nn b w) : w.cell? ⟨ws.heap.size, 4, none⟩ = some (.slice A4 x.f4.length c4) := (blk_cell h.f 4).trans rfl
theorem FI.f5 (h : FI mb mo x A3 c3 A4 c4 A5 c5 ws B nn b w) : w.cell? ⟨ws.heap.size, 5, none⟩ = some (.slice A5 x.f5.length c5) := (blk_cell h.f 5).trans rfl
theorem FI.next (h : FI mb mo x A3 c3 A4 c4 A5 c5 ws B nn b w) (hb : BndAt w' mb B') (ho : OutAt w' mo nn' b') (t : Tch (Two mb mo) w w') : FI mb mo x A3 c3 A4 c4 A5 c5 ws B' nn' b' w' :=
  ⟨h.ne, h.l1, h.l2, hb, ho, t.blk h.f (fun e => by have h1 := h.l1; have h2 := h.l2; rcases e with e | e <;> omega), h.t.trans (t.mono (fun i _ e => e))⟩
theorem FI.store (h : FI mb mo x A3 c3 A4 c4 A5 c5 ws B nn b w) (s : ByteArray) (hs : s.size ≤ maxLen) (hn : nn < maxLen) :
    ∃ w', (Instr.mapUpdate 93 (.map (some mo)) (.string s) (.bool true)).run Tryz.prog w = .ok () w' ∧ FI mb mo x A3 c3 A4 c4 A5 c5 ws B (nn + 1) true w' := by
  obtain ⟨w', hr, ho, ht⟩ := h.ou.put s hs hn
  exact ⟨w', hr, h.next (h.bd.tch ht (fun e => h.ne e)) ho (ht.mono (fun i _ e => .inr e))⟩
theorem FI.bump (h : FI mb mo x A3 c3 A4 c4 A5 c5 ws B nn b w) (s : ByteArray) (v : Int) (hv : v = (cntB s B' : Int)) (hc : ∀ s', s' ≠ s → cntB s' B' = cntB s' B) :
    ∃ w', (Instr.mapUpdate 155 (.map (some mb)) (.string s) (.int .i64 v)).run Tryz.prog w = .ok () w' ∧ FI mb mo x A3 c3 A4 c4 A5 c5 ws B' nn b w' := by
  obtain ⟨w', hr, hb, ht⟩ := h.bd.put s v hv hc
  exact ⟨w', hr, h.next hb (h.ou.tch ht (fun e => h.ne e.symm)) (ht.mono (fun i _ e => .inl e))⟩
theorem FI.below (h : FI mb mo x A3 c3 A4 c4 A5 c5 ws B nn b w) (hb : Below w.heap.size w w') : FI mb mo x A3 c3 A4 c4 A5 c5 ws B nn b w' := by
  have t : Tch (fun _ => False) w w' := Tch.of_below hb
  exact h.next (h.bd.tch t (fun e => e)) (h.ou.tch t (fun e => e)) (t.mono (fun i _ e => e.elim))
end
theorem twoF_below {w0 w w' : World} {mb mo : Nat} (h : Below w0.heap.size w0 w) (k : Tch (Two mb mo) w w') (h1 : w0.heap.size ≤ mb) (h2 : w0.heap.size ≤ mo) : Below w0.heap.size w0 w' :=
  Tch.below h k (fun i e => by rcases e with rfl | rfl <;> assumption)

theorem nm_size {s : ByteArray} (h : nmB s = true) : s.size ≤ maxLen := by
  unfold nmB at h
  simp only [Bool.and_eq_true, Bool.not_eq_true', decide_eq_false_iff_not] at h
  have := h.1.1.1.2
  unfold maxLen; omega
theorem nms_mem {ap : Bool} : ∀ {l pre : List ByteArray} {s : ByteArray}, nmsG ap pre l = true → s ∈ l → nmB s = true
  | [], _, s, _, h => by cases h
  | a :: l, pre, s, hn, h => by
    unfold nmsG at hn
    simp only [Bool.and_eq_true] at hn
    rcases List.mem_cons.1 h with rfl | h
    · exact hn.1.1
    · exact nms_mem hn.2 h
theorem shp_names {x : S25} (h : shpP x = true) : (∀ s ∈ x.f4, nmB s = true) ∧ (∀ s ∈ x.f3, nmB s = true) := by
  unfold shpP shpR namesB at h
  simp only [Bool.and_eq_true] at h
  exact ⟨fun s hs => nms_mem h.1.1.2.2 hs, fun s hs => nms_mem h.1.2.2 hs⟩
end Go.Proofs.YtjjnjnnfebifnaaGreatDoor.Rn
namespace Go.Proofs.YtjjnjnnfebifnaaGreatDoor.Rn
open Go.RowKit Go.Proofs.YtjjnjnnfebifnaaGreatDoorW.PrintWords Go.Proofs.YtjjnjnnfebifnaaGreatDoorW.PrintLast Go.Proofs.YtjjnjnnfebifnaaGreatDoor.PReachNormal

theorem size_eq (x : S25) : size x = 1 + sizeL x.f5 := by cases x; conv => lhs; unfold size
theorem take_next {l : List ByteArray} {k : Nat} {y : ByteArray} (h : l[k]? = some y) : l.take (k + 1) = l.take k ++ [y] := by
  rw [List.take_succ, h]; rfl

theorem cnt_take (s : ByteArray) (B : List ByteArray) {l : List ByteArray} {k : Nat} {y : ByteArray} (h : l[k]? = some y) : cntB s (B ++ l.take (k + 1)) = cntB s (B ++ l.take k) + (if s = y then 1 else 0) := by
  rw [take_next h, cntB_app, cntB_app, cntB_app]; simp only [cntB]; omega
theorem cnt_drop (s : ByteArray) (B : List ByteArray) {l : List ByteArray} {k : Nat} {y : ByteArray} (h : l[k]? = some y) : cntB s (B ++ l.drop k) = cntB s (B ++ l.drop (k + 1)) + (if s = y then 1 else 0) := by
  rw [sdrop_at h, cntB_app, cntB_app]; simp only [cntB]; omega

def FreeOk (N : Nat) : Prop := ∀ (x : S25) (B : List ByteArray) (nn : Nat) (b : Bool) (mb mo : Nat) (A3 : Option Addr) (c3 : Nat) (A4 : Option Addr) (c4 : Nat) (A5 : Option Addr) (c5 : Nat) (w0 w : World),
  size x ≤ N → fine x = true → shapes shpP x = true → Lay w0 x A3 c3 A4 c4 A5 c5 → Below w0.heap.size w0 w → w0.heap.size ≤ mb → w0.heap.size ≤ mo → mb ≠ mo → BndAt w mb B → OutAt w mo nn b →
  B.length + 12000 * size x ≤ 1000000000 → nn + 12000 * size x ≤ 1000000000 →
  Calls Tryz.prog 143 #[ag x A3 c3 A4 c4 A5 c5, .map (some mb), .map (some mo)] w fun e w' => e = .returned (.tuple #[]) ∧ ∃ nn', nn' ≤ nn + 12000 * size x ∧ BndAt w' mb B ∧ OutAt w' mo nn' (b || pfB x B) ∧ Tch (Two mb mo) w w'

set_option maxHeartbeats 4000000 in
set_option maxRecDepth 100000 in
theorem free_calls (N : Nat) : FreeOk N := by
  induction N with
  | zero => intro x B nn b mb mo A3 c3 A4 c4 A5 c5 w0 w hn; cases x; unfold size at hn; omega
  | succ N ih =>
    intro x B nn b mb mo A3 c3 A4 c4 A5 c5 w0 w hn hf hsh hL hB g1 g2 gne hbd hou hBl hnl
    have hu25 := Tryz.underlying25
    have HF := Aside0.mk hf
    have HL := Aside0.mk hL
    have HN := Aside0.mk hn
    have IH := Aside0.mk ih
    have HB := Aside0.mk hB
    have HSH := Aside0.mk hsh
    have HSZ := Aside0.mk (size_eq x)
    have HNM := Aside0.mk (shp_names (shapes_kids hsh).1)
    have HI := Aside0.mk (FI.mk (mb := mb) (mo := mo) (x := x) (A3 := A3) (c3 := c3) (A4 := A4) (c4 := c4) (A5 := A5) (c5 := c5) (B := B) (nn := nn) (b := b) gne hbd.lt hou.lt (hbd.tch (Tch.alloc (fun _ => False) w (bx x A3 c3 A4 c4 A5 c5)) (fun e => e)) (hou.tch (Tch.alloc (fun _ => False) w (bx x A3 c3 A4 c4 A5 c5)) (fun e => e)) (blk_new w _) (Tch.alloc _ _ _))
    have hl3 : x.f3.length ≤ 12000 := (fine_len hf).2.1
    have hl4 : x.f4.length ≤ 12000 := (fine_len hf).2.2.1
    have hl5 : x.f5.length ≤ 12000 := (fine_len hf).2.2.2
    have HBL := Aside0.mk (And.intro hBl hnl)
    clear hf hL hn ih hB hsh hbd hou gne hBl hnl
    go_enter Tryz.func143, Tryz.ntmps143
    go_upto_region 1 with fail
    generalize w.alloc (bx x A3 c3 A4 c4 A5 c5) = W1 at HI ⊢
    have a4 := HI.out.f4
    go_wp2_with fail
    go_loopw [17] (fun i wr => ∃ (k nn' : Nat) (b' : Bool), k ≤ x.f4.length ∧ i = .int .i64 k ∧ nn' ≤ nn + k ∧ Aside0 (FI mb mo x A3 c3 A4 c4 A5 c5 w B nn' b' wr) ∧ Aside0 ((b || pfB x B) = (b' || (fA B (x.f4.drop k) || pfBL x.f5 (B ++ x.f3))))) (fun i _ => x.f4.length - (intOf i).toNat)
    case atStart => exact ⟨0, nn, b, Nat.zero_le _, rfl, by omega, HI, ⟨by rw [List.drop_zero, pfB_eq]⟩⟩
    case round =>
      clear HI a4
      obtain ⟨k, n1, b1, hk, rfl, hn1, HI, HE⟩ := hrel
      by_cases hlt : k < x.f4.length
      · obtain ⟨y, ad, hx, rfl, h0⟩ := str_at (Kd.C_below HL.out.g4 (twoF_below HB.out HI.out.t g1 g2)) k hlt
        have HX := Aside0.mk hx
        have hlk := HI.out.bd.look y
        have hc := cntB_int y B
        obtain ⟨w3, hup, hI3⟩ := HI.out.store y (nm_size (HNM.out.1 y (List.mem_of_getElem? hx))) (by have := HBL.out.2; have := HSZ.out; unfold maxLen; omega)
        have HI3 := Aside0.mk hI3
        clear hx hI3
        generalize (((cntB y B : Nat) : Int)) = cc at hlk hc
        cases hmm : memB y B
        · rw [hmm] at hc
          have HM := Aside0.mk hmm
          clear hmm
          go_wp2_with fail
          exact ⟨⟨k + 1, n1 + 1, true, by omega, by go_num, by omega, HI3, ⟨by rw [HE.out, fA_drop HX.out, HM.out]; simp⟩⟩, by simp [intOf]; omega⟩
        · rw [hmm] at hc
          have HM := Aside0.mk hmm
          clear hmm
          go_wp2_with fail
          exact ⟨⟨k + 1, n1, b1, by omega, by go_num, by omega, HI, ⟨by rw [HE.out, fA_drop HX.out, HM.out]; simp⟩⟩, by simp [intOf]; omega⟩
      · have HE2 := Aside0.mk (show (b || pfB x B) = (b1 || pfBL x.f5 (B ++ x.f3)) by rw [HE.out, List.drop_eq_nil_of_le (by omega)]; rfl)
        have hn2 : n1 ≤ nn + 12000 := by omega
        have a3 := HI.out.f3
        clear HE
        go_wp2_with fail
        go_loopw [31] (fun i wr => ∃ k : Nat, k ≤ x.f3.length ∧ i = .int .i64 k ∧ Aside0 (FI mb mo x A3 c3 A4 c4 A5 c5 w (B ++ x.f3.take k) n1 b1 wr)) (fun i _ => x.f3.length - (intOf i).toNat)
        case atStart => exact ⟨0, Nat.zero_le _, rfl, ⟨by rw [List.take_zero, List.append_nil]; exact HI.out⟩⟩
        case round =>
          clear HI a3
          obtain ⟨k2, hk2, rfl, HI⟩ := hrel
          by_cases hlt2 : k2 < x.f3.length
          · obtain ⟨y, ad, hx, rfl, h0⟩ := str_at (Kd.C_below HL.out.g3 (twoF_below HB.out HI.out.t g1 g2)) k2 hlt2
            have hlk := HI.out.bd.look y
            have hct := cntB_le y (B ++ x.f3.take k2)
            have hcb : cntB y (B ++ x.f3.take k2) ≤ 2000000000 := by rw [List.length_append, List.length_take] at hct; have := HBL.out.1; omega
            obtain ⟨w3, hup, hI3⟩ := HI.out.bump (B' := B ++ x.f3.take (k2 + 1)) y (((cntB y (B ++ x.f3.take k2) : Nat) : Int) + 1) (by rw [cnt_take y B hx]; simp) (fun s' hs => by rw [cnt_take s' B hx]; simp [hs])
            have HI3 := Aside0.mk hI3
            clear hx hI3 hct
            go_wp2_with fail
            exact ⟨⟨k2 + 1, by omega, by go_num, HI3⟩, by simp [intOf]; omega⟩
          · have HI2 : Aside0 (FI mb mo x A3 c3 A4 c4 A5 c5 w (B ++ x.f3) n1 b1 wr) := ⟨by have := HI.out; rwa [List.take_of_length_le (by omega)] at this⟩
            clear HI
            have HI := HI2
            clear HI2
            have a5 := HI.out.f5
            go_wp2_with fail
            go_loopw [43] (fun i wr => ∃ (k n2 : Nat) (b2 : Bool), k ≤ x.f5.length ∧ i = .int .i64 k ∧ Aside0 (n2 + 12000 * sizeL (x.f5.drop k) ≤ n1 + 12000 * sizeL x.f5) ∧ Aside0 (FI mb mo x A3 c3 A4 c4 A5 c5 w (B ++ x.f3) n2 b2 wr) ∧ Aside0 ((b || pfB x B) = (b2 || pfBL (x.f5.drop k) (B ++ x.f3)))) (fun i _ => x.f5.length - (intOf i).toNat)
            case atStart => exact ⟨0, n1, b1, Nat.zero_le _, rfl, ⟨by rw [List.drop_zero]; omega⟩, HI, ⟨by rw [List.drop_zero]; exact HE2.out⟩⟩
            case round =>
              clear HI a5 HE2
              obtain ⟨k3, n2, b2, hk3, rfl, HN2, HI, HE⟩ := hrel
              by_cases hlt3 : k3 < x.f5.length
              · obtain ⟨y, ad, B3, e3, B4, e4, B5, e5, hx, rfl, h0, h1, h2, h3, h4, h5, hLy⟩ := kid_at HL.out.g5 k3 hlt3
                have hbw := twoF_below HB.out HI.out.t g1 g2
                replace h0 := (hbw.cell (World.block_lt_of_cell? _ _ h0)).trans h0
                replace h1 := (hbw.cell (World.block_lt_of_cell? _ _ h1)).trans h1
                replace h2 := (hbw.cell (World.block_lt_of_cell? _ _ h2)).trans h2
                replace h3 := (hbw.cell (World.block_lt_of_cell? _ _ h3)).trans h3
                replace h4 := (hbw.cell (World.block_lt_of_cell? _ _ h4)).trans h4
                replace h5 := (hbw.cell (World.block_lt_of_cell? _ _ h5)).trans h5
                have hy := List.mem_of_getElem? hx
                have HX := Aside0.mk hx
                have hszd := sizeL_drop hx
                have hsm := sizeL_mem hy
                have HI10 := Aside0.mk (HI.out.below (bel_a wr (bx y B3 e3 B4 e4 B5 e5)))
                have HIH := Aside0.mk (IH.out y (B ++ x.f3) n2 b2 mb mo B3 e3 B4 e4 B5 e5 w0 (wr.alloc (bx y B3 e3 B4 e4 B5 e5)) (by have := size_mem hy; have := HN.out; omega) (fine_mem HF.out hy) (shapesL_mem (shapes_kids HSH.out).2 hy) hLy (below_alloc hbw _) g1 g2 HI.out.ne HI10.out.bd HI10.out.ou
                  (by have h1 := HBL.out.1; have h2 := HSZ.out; rw [List.length_append]; omega) (by have h1 := HBL.out.2; have h2 := HSZ.out; have h3 := HN2.out; omega))
                have HSD := Aside0.mk hszd
                clear hx hy hLy hbw hszd hsm HI
                go_wp2_with (first
                  | (go_at_call 143; with_reducible refine HIH.out.mono ?_; rintro e w2 ⟨rfl, hp⟩; have HP := Aside0.mk hp; clear hp))
                obtain ⟨n3, hn3, hb3, ho3, ht3⟩ := HP.out
                exact ⟨⟨k3 + 1, n3, _, by omega, by go_num, ⟨by have h1 := HN2.out; have h2 := HSD.out; omega⟩, ⟨HI10.out.next hb3 ho3 ht3⟩, ⟨by rw [HE.out, pfBL_drop HX.out, Bool.or_assoc]⟩⟩, by simp [intOf]; omega⟩
              · have HE3 := Aside0.mk (show (b || pfB x B) = b2 by rw [HE.out, List.drop_eq_nil_of_le (by omega)]; simp [pfBL, pfreeL])
                have HN3 := Aside0.mk (show n2 ≤ nn + 12000 * size x by have h1 := HN2.out; have h2 := HSZ.out; omega)
                have a3 := HI.out.f3
                clear HE HN2
                go_wp2_with fail
                go_loopw [55] (fun i wr => ∃ k : Nat, k ≤ x.f3.length ∧ i = .int .i64 k ∧ Aside0 (FI mb mo x A3 c3 A4 c4 A5 c5 w (B ++ x.f3.drop k) n2 b2 wr)) (fun i _ => x.f3.length - (intOf i).toNat)
                case atStart => exact ⟨0, Nat.zero_le _, rfl, ⟨by rw [List.drop_zero]; exact HI.out⟩⟩
                case round =>
                  clear HI a3
                  obtain ⟨k4, hk4, rfl, HI⟩ := hrel
                  by_cases hlt4 : k4 < x.f3.length
                  · obtain ⟨y, ad, hx, rfl, h0⟩ := str_at (Kd.C_below HL.out.g3 (twoF_below HB.out HI.out.t g1 g2)) k4 hlt4
                    have hlk := HI.out.bd.look y
                    have hct := cntB_le y (B ++ x.f3.drop k4)
                    have hcb : cntB y (B ++ x.f3.drop k4) ≤ 2000000000 := by rw [List.length_append, List.length_drop] at hct; have := HBL.out.1; omega
                    obtain ⟨w3, hup, hI3⟩ := HI.out.bump (B' := B ++ x.f3.drop (k4 + 1)) y (((cntB y (B ++ x.f3.drop k4) : Nat) : Int) - 1) (by rw [cnt_drop y B hx]; simp) (fun s' hs => by rw [cnt_drop s' B hx]; simp [hs])
                    have HI3 := Aside0.mk hI3
                    clear hx hI3 hct
                    go_wp2_with fail
                    exact ⟨⟨k4 + 1, by omega, by go_num, HI3⟩, by simp [intOf]; omega⟩
                  · have HI2 : Aside0 (FI mb mo x A3 c3 A4 c4 A5 c5 w B n2 b2 wr) := ⟨by have := HI.out; rwa [List.drop_eq_nil_of_le (by omega), List.append_nil] at this⟩
                    go_wp2_with fail
                    go_end0
                    exact ⟨rfl, n2, HN3.out, HI2.out.bd, by rw [HE3.out]; exact HI2.out.ou, HI2.out.t⟩
end Go.Proofs.YtjjnjnnfebifnaaGreatDoor.Rn
