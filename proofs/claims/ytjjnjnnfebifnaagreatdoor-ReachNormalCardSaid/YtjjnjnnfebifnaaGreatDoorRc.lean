import Derived.Deep.AppendLies
import Derived.Test.YtjjnjnnfebifnaaGreatDoorRb
import Derived.Test.YtjjnjnnfebifnaaGreatDoorVa
set_option linter.all false
namespace Go.Proofs.YtjjnjnnfebifnaaGreatDoor.Rn
open Go.RowKit Go.Proofs.YtjjnjnnfebifnaaGreatDoorW.PrintWords Go.Proofs.YtjjnjnnfebifnaaGreatDoorW.PrintLast Go.Proofs.YtjjnjnnfebifnaaGreatDoor.PReachNormal
open Go.Ev (setB setB_size setB_same setB_ne run_getObj' run_setObj' findNow_shift)

/-! ### maps keyed by strings -/
/-- every key is a string -/
def allStr (l : List MapEntry) : Prop := ∀ e ∈ l, ∃ s, e.key = .string s
def keyIs (v : Value) (s : ByteArray) : Bool := match v with | .string t => s.toList == t.toList | _ => false
/-- what stands at a key -/
def look : List MapEntry → ByteArray → Option Value
  | [], _ => none
  | e :: l, s => if keyIs e.key s then some e.val else look l s

theorem keyIs_string (t s : ByteArray) : keyIs (.string t) s = decide (s = t) := bytes_eq s t
theorem same_str (s t : ByteArray) : Instr.sameNow .string (.string s) (.string t) = some (decide (s = t)) := by
  rw [← bytes_eq]; simp [Instr.sameNow]; rw [beq_toListBytes]

theorem find_look (s : ByteArray) : ∀ (l : List MapEntry) (i : Nat), allStr l → (look l s = none ∧ Instr.findNow .string (.string s) l i = some none) ∨
    (∃ j e, look l s = some e.val ∧ l[j]? = some e ∧ e.key = .string s ∧ Instr.findNow .string (.string s) l i = some (some (i + j, e.val)))
  | [], i, h => .inl ⟨rfl, rfl⟩
  | e :: l, i, h => by
    obtain ⟨t, ht⟩ := h e (by simp)
    unfold look
    rw [ht, keyIs_string]
    by_cases hs : s = t
    · subst hs
      refine .inr ⟨0, e, by simp, by simp, ht, ?_⟩
      simp [Instr.findNow, ht, same_str]
    · rcases find_look s l (i + 1) (fun e he => h e (by simp [he])) with ⟨h1, h2⟩ | ⟨j, e', h1, h2, h3, h4⟩
      · exact .inl ⟨by simp [hs, h1], by simp [Instr.findNow, ht, same_str, hs, h2]⟩
      · exact .inr ⟨j + 1, e', by simp [hs, h1], by simpa using h2, h3, by simp [Instr.findNow, ht, same_str, hs, h4]; omega⟩

/-- the entries behind a store -/
theorem look_push {l : List MapEntry} {s : ByteArray} {v : Value} {c : Nat} (h : look l s = none) : ∀ s', look (l ++ [{ key := .string s, val := v, born := c }]) s' = if s' = s then some v else look l s' := by
  induction l with
  | nil => intro s'; simp [look, keyIs_string]
  | cons e l ih =>
    intro s'
    unfold look at h
    split at h
    · cases h
    · rename_i hk
      have := ih h s'
      simp only [List.cons_append, look]
      rw [this]
      by_cases he : s' = s
      · subst he; rw [if_neg hk, if_pos rfl, if_pos rfl]
      · simp [he]
theorem look_modify {s : ByteArray} {v : Value} : ∀ {l : List MapEntry} {j : Nat} {e : MapEntry}, allStr l → Instr.findNow .string (.string s) l 0 = some (some (j, e.val)) → l[j]? = some e → e.key = .string s →
    ∀ s', look (l.modify j fun e => { e with key := .string s, val := v }) s' = if s' = s then some v else look l s'
  | [], j, e, h, hf, hj, hk => by simp at hj
  | y :: l, j, e, h, hf, hj, hk => by
    intro s'
    obtain ⟨t, ht⟩ := h y (by simp)
    by_cases hs : s = t
    · subst hs
      have : j = 0 := by
        simp [Instr.findNow, ht, same_str] at hf; omega
      subst this
      simp only [List.modify_zero_cons, look, keyIs_string, ht]
      by_cases he : s' = s <;> simp [he]
    · simp only [Instr.findNow, ht, same_str, hs, decide_false] at hf
      rw [findNow_shift] at hf
      cases j with
      | zero =>
        exfalso
        simp at hj; subst hj
        rw [ht] at hk
        simp only [Value.string.injEq] at hk
        exact hs hk.symm
      | succ j =>
        cases hq : Instr.findNow .string (.string s) l 0 with
        | none => rw [hq] at hf; simp at hf
        | some q =>
          cases q with
          | none => rw [hq] at hf; simp at hf
          | some q =>
            rw [hq] at hf
            simp at hf
            have hq2 : Instr.findNow .string (.string s) l 0 = some (some (j, e.val)) := by rw [hq]; congr 2; exact Prod.ext (by omega) hf.2
            have ih := look_modify (v := v) (fun e he => h e (by simp [he])) hq2 (by simpa using hj) hk s'
            simp only [List.modify_succ_cons, look, ht, keyIs_string, ih]
            by_cases he : s' = s
            · subst he; simp [hs]
            · simp [he]

variable {P : Program}

theorem key_ok (hu : P.underlying 9 = some .string) {b : Bool} (v : Value) (w : World) : (Instr.checkKey b 10000 9 v).run P w = .ok () w := by
  have : ∀ n, (Instr.checkKey b (n + 1) 9 v).run P w = .ok () w := fun n => by simp [Instr.checkKey, run_underlying hu]
  exact this 9999
theorem run_find (hu : P.underlying 9 = some .string) {w : World} {x : Value} {es : List MapEntry} {q} (hq : Instr.findNow .string x es 0 = some q) : (Instr.findKey 9 x es).run P w = .ok q w := by
  simp [Instr.findKey, run_underlying hu, hq]

/-- a look-up -/
theorem run_look {t et : TypeId} (ht : P.underlying t = some (.map 9 et)) (hu : P.underlying 9 = some .string) {z : Value} (hz : ∀ w, (zeroValue et).run P w = .ok z w) {w : World} {m : Nat} {es : Array MapEntry} {c : Nat}
    (hb : w.heap[m]? = some (.map es c)) (ha : allStr es.toList) (s : ByteArray) (ok : Bool) :
    (Instr.lookup t (.map (some m)) (.string s) ok).run P w = .ok (if ok then .tuple #[(look es.toList s).getD z, .bool (look es.toList s).isSome] else (look es.toList s).getD z) w := by
  have hget := run_getObj' (P := P) hb (by simp)
  rcases find_look s es.toList 0 ha with ⟨h1, h2⟩ | ⟨j, e, h1, _, _, h2⟩
  · simp [Instr.lookup, run_underlying ht, hget, key_ok hu, run_find hu h2, hz, h1]
  · simp [Instr.lookup, run_underlying ht, hget, key_ok hu, run_find hu h2, h1]

/-- a store: only that block turns -/
theorem run_upd {t et : TypeId} (ht : P.underlying t = some (.map 9 et)) (hu : P.underlying 9 = some .string) {w : World} {m : Nat} {es : Array MapEntry} {c : Nat}
    (hb : w.heap[m]? = some (.map es c)) (ha : allStr es.toList) (s : ByteArray) (v : Value) :
    ∃ es' c', (Instr.mapUpdate t (.map (some m)) (.string s) v).run P w = .ok () (setB w m (.map es' c')) ∧ allStr es'.toList ∧ ∀ s', look es'.toList s' = if s' = s then some v else look es.toList s' := by
  have hget := run_getObj' (P := P) hb (by simp)
  have hset := fun o => run_setObj' (P := P) hb (by simp) o
  rcases find_look s es.toList 0 ha with ⟨h1, h2⟩ | ⟨j, e, h1, hj, hk, h2⟩
  · refine ⟨es.push { key := .string s, val := v, born := c }, c + 1, by simp [Instr.mapUpdate, run_underlying ht, hget, key_ok hu, run_find hu h2, hset], ?_, ?_⟩
    · intro e he
      rw [Array.toList_push, List.mem_append] at he
      rcases he with he | he
      · exact ha e he
      · simp at he; subst he; exact ⟨s, rfl⟩
    · rw [Array.toList_push]; exact look_push h1
  · have hj' : es[j]? = some e := by simpa using hj
    rw [Nat.zero_add] at h2
    refine ⟨es.modify j fun e => { e with key := .string s, val := v }, c, ?_, ?_, ?_⟩
    · have hss : (s == s) = true := by rw [beq_toListBytes]; simp
      simp [Instr.mapUpdate, run_underlying ht, hget, key_ok hu, run_find hu h2, hset, hj', Instr.keyThatStays, hk, Instr.sameBits, hss]
    · intro e' he
      rw [Array.toList_modify] at he
      obtain ⟨i, hi, rfl⟩ := List.getElem_of_mem he
      rw [List.getElem_modify]
      split
      · exact ⟨s, rfl⟩
      · exact ha _ (List.getElem_mem _)
    · rw [Array.toList_modify]; exact look_modify ha h2 hj hk
end Go.Proofs.YtjjnjnnfebifnaaGreatDoor.Rn
namespace Go.Proofs.YtjjnjnnfebifnaaGreatDoor.Rn
open Go.RowKit Go.Proofs.YtjjnjnnfebifnaaGreatDoorW.PrintWords Go.Proofs.YtjjnjnnfebifnaaGreatDoorW.PrintLast Go.Proofs.YtjjnjnnfebifnaaGreatDoor.PReachNormal
open Go.Ev (setB setB_size setB_same setB_ne)

/-- the arities bound to a name, the last one last -/
def stk (bd : List Sym) (s : ByteArray) : List Int := (bd.filter fun p => decide (p.1 = s)).map (·.2)
theorem last_stk (bd : List Sym) (s : ByteArray) : last? bd s = (stk bd s).getLast? := rfl
theorem stk_snoc (bd : List Sym) (n : ByteArray) (a : Int) (s : ByteArray) : stk (bd ++ [(n, a)]) s = if s = n then stk bd s ++ [a] else stk bd s := by
  unfold stk
  rw [List.filter_append, List.map_append]
  by_cases h : s = n
  · subst h; simp
  · rw [if_neg h]; simp [show ¬ n = s from fun e => h e.symm]
theorem stk_le (bd : List Sym) (s : ByteArray) : (stk bd s).length ≤ bd.length := by
  unfold stk; rw [List.length_map]; exact List.length_filter_le _ _

/-- a block of whole numbers from base on: the rows of the map of arities are such -/
def IsRow (base : Nat) (w : World) (i : Nat) : Prop := base ≤ i ∧ ∃ cs, w.heap[i]? = some (.cells cs 3 (0, 0))

def SlOk (w : World) (base : Nat) : Option Value → List Int → Prop
  | none, l => l = []
  | some v, l => w.ownsRow base 3 1 v l.length (l.map (Value.int .i64))

structure BdOk (w : World) (base : Nat) (es : List MapEntry) (bd : List Sym) : Prop where
  str : allStr es
  row : ∀ s, SlOk w base (look es s) (stk bd s)
  apart : ∀ s s' v v', s ≠ s' → look es s = some v → look es s' = some v' → v.ownBlock = none ∨ v.ownBlock ≠ v'.ownBlock

structure FrOk (es : List MapEntry) (fr : Fr) : Prop where
  str : allStr es
  val : ∀ s, look es s = (fr s).map (Value.int .i64)

theorem row_block {w : World} {base n g : Nat} {v : Value} {xs : List Value} (h : w.ownsRow base 3 1 v n xs) (hg : v.ownBlock = some g) : IsRow base w g := by
  rcases h.2 with ⟨rfl, _⟩ | ⟨g', cap, cur, rfl, hb, hh, _⟩
  · simp [Value.ownBlock] at hg
  · simp [Value.ownBlock] at hg; subst hg; exact ⟨hb, cur, hh⟩

theorem BdOk.keep {w w' : World} {base : Nat} {es : List MapEntry} {bd : List Sym} (h : BdOk w base es bd) (hk : ∀ i, IsRow base w i → w'.heap[i]? = w.heap[i]?) : BdOk w' base es bd := by
  refine ⟨h.str, fun s => ?_, h.apart⟩
  have := h.row s
  cases hl : look es s with
  | none => rw [hl] at this; exact this
  | some v => rw [hl] at this; exact own_move this (fun k hk' => hk k (row_block this hk'))

/-- the blocks that a walk may turn -/
def May (b m1 m2 base : Nat) (w : World) (i : Nat) : Prop := i = b ∨ i = m1 ∨ i = m2 ∨ IsRow base w i

theorem May.step {b m1 m2 base : Nat} {w w1 : World} (h : Tch (May b m1 m2 base w) w w1) {i : Nat} (hi : i < w.heap.size) (k : May b m1 m2 base w1 i) : May b m1 m2 base w i := by
  by_cases hm : May b m1 m2 base w i
  · exact hm
  · have he := h.block i hi hm
    rcases k with k | k | k | ⟨k1, cs, k2⟩
    · exact .inl k
    · exact .inr (.inl k)
    · exact .inr (.inr (.inl k))
    · exact .inr (.inr (.inr ⟨k1, cs, by rw [← he]; exact k2⟩))
theorem May.trans {b m1 m2 base : Nat} {w w1 w2 : World} (h : Tch (May b m1 m2 base w) w w1) (k : Tch (May b m1 m2 base w1) w1 w2) : Tch (May b m1 m2 base w) w w2 :=
  ⟨k.os.trans h.os, k.tape.trans h.tape, k.output.trans h.output, Nat.le_trans h.size k.size, fun i hi hn => (k.block i (Nat.lt_of_lt_of_le hi h.size) (fun e => hn (May.step h hi e))).trans (h.block i hi hn)⟩
theorem May.below {b m1 m2 base : Nat} {w0 w w' : World} (h : Below w0.heap.size w0 w) (k : Tch (May b m1 m2 base w) w w') (h1 : w0.heap.size ≤ b) (h2 : w0.heap.size ≤ m1) (h3 : w0.heap.size ≤ m2) (h4 : w0.heap.size ≤ base) : Below w0.heap.size w0 w' :=
  Tch.below h k (fun i e => by
    rcases e with rfl | rfl | rfl | ⟨e, _⟩
    · exact h1
    · exact h2
    · exact h3
    · exact Nat.le_trans h4 e)

theorem setB_tch {S : Nat → Prop} {w : World} {m : Nat} (hm : S m) (o : Obj) : Tch S w (setB w m o) :=
  ⟨rfl, rfl, rfl, by rw [setB_size]; exact Nat.le_refl _, fun i _ hn => setB_ne w m o i (fun e => hn (e ▸ hm))⟩

/-- the value at a name, nil if there is none -/
def atOr (es : List MapEntry) (s : ByteArray) : Value := (look es s).getD (.slice none 0 0)
theorem BdOk.at_ {w : World} {base : Nat} {es : List MapEntry} {bd : List Sym} (h : BdOk w base es bd) (s : ByteArray) : w.ownsRow base 3 1 (atOr es s) (stk bd s).length ((stk bd s).map (Value.int .i64)) := by
  have := h.row s
  unfold atOr
  cases hl : look es s with
  | none => rw [hl] at this; rw [show stk bd s = [] from this]; exact own_nil w base 3 1
  | some v => rw [hl] at this; exact this

theorem not_row_map {w : World} {base m : Nat} {es : Array MapEntry} {c : Nat} (h : w.heap[m]? = some (.map es c)) : ¬ IsRow base w m := by
  rintro ⟨_, cs, h2⟩; rw [h] at h2; cases h2

/-- a push: the arity is appended to the row, the slice stored -/
theorem BdOk.push {w w1 : World} {base m : Nat} {es es' : Array MapEntry} {c c' : Nat} {bd : List Sym} {s : ByteArray} {a : Int} {g cap : Nat} (h : BdOk w base es.toList bd) (hm1 : w1.heap[m]? = some (.map es c))
    (hg : w.grownBy w1 (atOr es.toList s).ownBlock) (hr : w1.ownsRow base 3 1 (.slice (some ⟨g, 0, none⟩) ((stk bd s).length + 1) cap) ((stk bd s).length + 1) ((stk bd s).map (Value.int .i64) ++ [.int .i64 a]))
    (hw : (atOr es.toList s).ownBlock = some g ∨ w.heap.size ≤ g) (hs : allStr es'.toList)
    (hl : ∀ s', look es'.toList s' = if s' = s then some (.slice (some ⟨g, 0, none⟩) ((stk bd s).length + 1) cap) else look es.toList s') : BdOk (setB w1 m (.map es' c')) base es'.toList (bd ++ [(s, a)]) := by
  have hset : ∀ i, IsRow base w1 i → (setB w1 m (.map es' c')).heap[i]? = w1.heap[i]? := fun i hi => setB_ne w1 m _ i (fun e => by subst e; exact not_row_map hm1 hi)
  have hother : ∀ s' v, s' ≠ s → look es.toList s' = some v → v.ownBlock = none ∨ v.ownBlock ≠ (atOr es.toList s).ownBlock := by
    intro s' v hne hv
    cases ha : look es.toList s with
    | none => unfold atOr; rw [ha]; cases hvb : v.ownBlock with
      | none => exact .inl rfl
      | some k => exact .inr (by simp [Value.ownBlock])
    | some v0 => unfold atOr; rw [ha]; exact h.apart s' s v v0 hne hv ha
  have hlt : ∀ s' v k, look es.toList s' = some v → v.ownBlock = some k → k < w.heap.size := by
    intro s' v k hv hk
    have := h.row s'
    rw [hv] at this
    exact own_lt this k hk
  refine ⟨hs, fun s' => ?_, fun s1 s2 v1 v2 hne h1 h2 => ?_⟩
  · rw [hl, stk_snoc]
    by_cases he : s' = s
    · subst he
      rw [if_pos rfl, if_pos rfl]
      show World.ownsRow _ _ _ _ _ _ _
      rw [List.length_append, List.map_append]
      exact own_move hr (fun k hk => hset k (row_block hr hk))
    · rw [if_neg he, if_neg he]
      have := h.row s'
      cases hv : look es.toList s' with
      | none => rw [hv] at this; exact this
      | some v =>
        rw [hv] at this
        have h1 := this.kept hg (hother s' v he hv)
        exact own_move h1 (fun k hk => hset k (row_block h1 hk))
  · rw [hl] at h1 h2
    have new : ∀ s' v, s' ≠ s → look es.toList s' = some v → v.ownBlock = none ∨ v.ownBlock ≠ some g := by
      intro s' v hne' hv
      rcases hw with hw | hw
      · rw [← hw]; exact hother s' v hne' hv
      · cases hb : v.ownBlock with
        | none => exact .inl rfl
        | some k => exact .inr (fun e => by have := hlt s' v k hv hb; injection e with e; omega)
    by_cases e1 : s1 = s
    · subst e1
      rw [if_pos rfl] at h1
      rw [if_neg (fun e => hne e.symm)] at h2
      cases h1
      rcases new s2 v2 (fun e => hne e.symm) h2 with k | k
      · exact .inr (by rw [k]; simp [Value.ownBlock])
      · exact .inr (by simp only [Value.ownBlock]; exact fun e => k e.symm)
    · rw [if_neg e1] at h1
      by_cases e2 : s2 = s
      · subst e2
        rw [if_pos rfl] at h2
        cases h2
        exact new s1 v1 e1 h1
      · rw [if_neg e2] at h2
        exact h.apart s1 s2 v1 v2 hne h1 h2

/-- what a name's slice is behind a push -/
theorem BdOk.top {w : World} {base : Nat} {es : List MapEntry} {bd : List Sym} {s : ByteArray} {a : Int} (h : BdOk w base es (bd ++ [(s, a)])) :
    ∃ g cap, look es s = some (.slice (some ⟨g, 0, none⟩) ((stk bd s).length + 1) cap) ∧ (stk bd s).length + 1 ≤ cap ∧ cap ≤ maxLen ∧ IsRow base w g ∧ w.ownsRow base 3 1 (.slice (some ⟨g, 0, none⟩) (stk bd s).length cap) (stk bd s).length ((stk bd s).map (Value.int .i64)) := by
  have := h.row s
  rw [stk_snoc, if_pos rfl] at this
  cases hv : look es s with
  | none => rw [hv] at this; simp [SlOk] at this
  | some v =>
    rw [hv] at this
    obtain ⟨h1, h2⟩ : World.ownsRow _ _ _ _ _ _ _ := this
    rcases h2 with ⟨_, h0⟩ | ⟨g, cap, cur, rfl, hb, hh, hn, hcap, hsz, ht⟩
    · simp at h0
    · rw [List.length_append] at hn ht ⊢
      simp only [List.length_cons, List.length_nil, Nat.zero_add] at hn ht ⊢
      refine ⟨g, cap, rfl, hn, hcap, ⟨hb, cur, hh⟩, by simp, .inr ⟨g, cap, cur, rfl, hb, hh, by omega, hcap, hsz, ?_⟩⟩
      have : cur.toList.take ((stk bd s).length * 1) = (cur.toList.take (((stk bd s).length + 1) * 1)).take ((stk bd s).length) := by
        rw [List.take_take]; congr 1; omega
      rw [this, ht, List.map_append, List.take_left' (by simp)]

/-- a pop -/
theorem BdOk.pop {w : World} {base m : Nat} {es es' : Array MapEntry} {c c' : Nat} {bd : List Sym} {s : ByteArray} {a : Int} {g cap : Nat} (h : BdOk w base es.toList (bd ++ [(s, a)])) (hm : w.heap[m]? = some (.map es c))
    (hv : look es.toList s = some (.slice (some ⟨g, 0, none⟩) ((stk bd s).length + 1) cap)) (hr : w.ownsRow base 3 1 (.slice (some ⟨g, 0, none⟩) (stk bd s).length cap) (stk bd s).length ((stk bd s).map (Value.int .i64)))
    (hs : allStr es'.toList) (hl : ∀ s', look es'.toList s' = if s' = s then some (.slice (some ⟨g, 0, none⟩) (stk bd s).length cap) else look es.toList s') : BdOk (setB w m (.map es' c')) base es'.toList bd := by
  have hset : ∀ i, IsRow base w i → (setB w m (.map es' c')).heap[i]? = w.heap[i]? := fun i hi => setB_ne w m _ i (fun e => by subst e; exact not_row_map hm hi)
  refine ⟨hs, fun s' => ?_, fun s1 s2 v1 v2 hne h1 h2 => ?_⟩
  · rw [hl]
    by_cases he : s' = s
    · subst he
      rw [if_pos rfl]
      exact own_move hr (fun k hk => hset k (row_block hr hk))
    · rw [if_neg he]
      have := h.row s'
      rw [stk_snoc, if_neg he] at this
      cases hv' : look es.toList s' with
      | none => rw [hv'] at this; exact this
      | some v => rw [hv'] at this; exact own_move this (fun k hk => hset k (row_block this hk))
  · rw [hl] at h1 h2
    by_cases e1 : s1 = s
    · subst e1
      rw [if_pos rfl] at h1
      rw [if_neg (fun e => hne e.symm)] at h2
      cases h1
      have := h.apart s1 s2 _ v2 hne hv h2
      simpa only [Value.ownBlock] using this
    · rw [if_neg e1] at h1
      by_cases e2 : s2 = s
      · subst e2
        rw [if_pos rfl] at h2
        cases h2
        have := h.apart s1 s2 v1 _ hne h1 hv
        simpa only [Value.ownBlock] using this
      · rw [if_neg e2] at h2
        exact h.apart s1 s2 v1 v2 hne h1 h2

theorem FrOk.upd {es es' : List MapEntry} {fr : Fr} {s : ByteArray} {a : Int} (h : FrOk es fr) (hs : allStr es') (hl : ∀ s', look es' s' = if s' = s then some (.int .i64 a) else look es s') : FrOk es' (upd fr s a) := by
  refine ⟨hs, fun s' => ?_⟩
  rw [hl]
  unfold Rn.upd
  by_cases he : s' = s
  · simp [he]
  · simp [he, h.val]
end Go.Proofs.YtjjnjnnfebifnaaGreatDoor.Rn
namespace Go.Proofs.YtjjnjnnfebifnaaGreatDoor.Rn
open Go.RowKit Go.Proofs.YtjjnjnnfebifnaaGreatDoorW.PrintWords Go.Proofs.YtjjnjnnfebifnaaGreatDoorW.PrintLast Go.Proofs.YtjjnjnnfebifnaaGreatDoor.PReachNormal
open Go.Ev (setB setB_size setB_same setB_ne)

theorem und9 : Tryz.prog.underlying 9 = some .string := by kernel_rfl
theorem und154 : Tryz.prog.underlying 154 = some (.map 9 76) := by kernel_rfl
theorem und155 : Tryz.prog.underlying 155 = some (.map 9 3) := by kernel_rfl
theorem zero76 (w : World) : (zeroValue 76).run Tryz.prog w = .ok (.slice none 0 0) w := by kernel_rfl
theorem zero3 (w : World) : (zeroValue 3).run Tryz.prog w = .ok (.int .i64 0) w := by kernel_rfl

/-- what the pop leaves -/
def Popped (m1 base : Nat) (bd : List Sym) (w w' : World) : Prop := ∃ es' c', w'.heap[m1]? = some (.map es' c') ∧ BdOk w' base es'.toList bd ∧ Tch (· = m1) w w'

set_option maxHeartbeats 1600000 in
set_option maxRecDepth 100000 in
theorem pop_calls (q nb b m1 base : Nat) (es : Array MapEntry) (c : Nat) (bd : List Sym) (s : ByteArray) (a : Int) (u : FrameMode) (w : World)
    (h0 : w.cell? ⟨q, 0, none⟩ = some (.pointer (some ⟨b, 0, none⟩))) (h1 : w.cell? ⟨nb, 0, none⟩ = some (.string s)) (h2 : w.cell? ⟨b, 2, none⟩ = some (.map (some m1)))
    (hm : w.heap[m1]? = some (.map es c)) (hB : BdOk w base es.toList (bd ++ [(s, a)])) :
    CallsD Tryz.prog 231 #[.pointer (some ⟨q, 0, none⟩), .pointer (some ⟨nb, 0, none⟩)] u w fun e u' w' => u' = u ∧ (e = .returned (.tuple #[]) ∧ Popped m1 base bd w w') := by
  obtain ⟨g, cap, hv, hn, hcap, hrow, hown⟩ := hB.top
  have hb154 : ∀ w', w'.heap[m1]? = some (.map es c) → (Instr.lookup 154 (.map (some m1)) (.string s) false).run Tryz.prog w' = .ok (.slice (some ⟨g, 0, none⟩) ((stk bd s).length + 1) cap) w' := fun w' hw => by
    have := run_look und154 und9 zero76 hw hB.str s false
    rw [hv] at this; exact this
  have hlk := hb154 w.drew hm
  obtain ⟨es', c', hup, hstr, hlook⟩ := run_upd und154 und9 (w := w.drew) hm hB.str s (.slice (some ⟨g, 0, none⟩) (stk bd s).length cap)
  have HP := Aside0.mk (hB.keep (w' := w.drew) (fun i _ => rfl))
  have HM := Aside0.mk hm
  have HV := Aside0.mk (And.intro hv (And.intro hown (And.intro hstr hlook)))
  have hn' : (stk bd s).length + 1 ≤ cap := hn
  unfold maxLen at hcap
  clear hrow hB hm hv hown hstr hlook hb154 hn
  generalize hk : (stk bd s).length = k at *
  have hkc : k ≤ cap := by omega
  have hwk : IntKind.i64.wrap (k : Int) = k := IntWalk.i64_in _ (by omega)
  go_enter_d Tryz.func231, Tryz.ntmps231
  refine wp_region_still_tail 20 (by kernel_rfl) (by kernel_rfl) ?_
  simp only [List.take_succ_cons, List.take_zero, List.drop_succ_cons, List.drop_zero]
  change wpStill _ _ (World.drew w) _ _ _
  repeat still_step
  refine wpStill_nil ?_
  change wpList _ _ _ _ _ (World.drew w)
  go_wp2_with fail
  go_end0
  subst hk
  exact ⟨rfl, es', c', setB_same (w := w.drew) HM.out _, HP.out.pop (c' := c') HM.out HV.out.1 (own_move HV.out.2.1 (fun _ _ => rfl)) HV.out.2.2.1 HV.out.2.2.2, (Tch.drew _ w).trans (setB_tch (S := (· = m1)) rfl _)⟩
end Go.Proofs.YtjjnjnnfebifnaaGreatDoor.Rn
namespace Go.Proofs.YtjjnjnnfebifnaaGreatDoor.Rn
open Go.RowKit Go.Proofs.YtjjnjnnfebifnaaGreatDoorW.PrintWords Go.Proofs.YtjjnjnnfebifnaaGreatDoorW.PrintLast Go.Proofs.YtjjnjnnfebifnaaGreatDoor.PReachNormal
open Go.Ev (setB setB_size setB_same setB_ne)

/-- where a checker lies -/
structure Pl where
  b : Nat
  m1 : Nat
  m2 : Nat
  base : Nat

abbrev ck (p : Pl) (n : Nat) (d : Int) (bad : Bool) : Obj := .cells #[.int .i64 n, .int .i64 d, .map (some p.m1), .map (some p.m2), .bool bad] 157

/-- the checker at p -/
structure WSt (p : Pl) (n : Nat) (d : Int) (bad : Bool) (bd : List Sym) (fr : Fr) (w : World) : Prop where
  ne : p.m1 ≠ p.m2
  cb : w.heap[p.b]? = some (ck p n d bad)
  c1 : ∃ es k, w.heap[p.m1]? = some (.map es k) ∧ BdOk w p.base es.toList bd
  c2 : ∃ es k, w.heap[p.m2]? = some (.map es k) ∧ FrOk es.toList fr

abbrev May' (p : Pl) (w : World) (i : Nat) : Prop := May p.b p.m1 p.m2 p.base w i

section
variable {p : Pl} {n : Nat} {d : Int} {bad : Bool} {bd : List Sym} {fr : Fr} {w w' : World}

theorem WSt.not_row (h : WSt p n d bad bd fr w) : ¬ IsRow p.base w p.b := by
  rintro ⟨_, cs, h2⟩
  have := h.cb.symm.trans h2
  simp at this

/-- what keeps the checker's blocks and the rows keeps the checker -/
theorem WSt.keep (h : WSt p n d bad bd fr w) (hb : w'.heap[p.b]? = w.heap[p.b]?) (h1 : w'.heap[p.m1]? = w.heap[p.m1]?) (h2 : w'.heap[p.m2]? = w.heap[p.m2]?) (hr : ∀ i, IsRow p.base w i → w'.heap[i]? = w.heap[i]?) : WSt p n d bad bd fr w' := by
  obtain ⟨es1, k1, e1, B⟩ := h.c1
  obtain ⟨es2, k2, e2, F⟩ := h.c2
  exact ⟨h.ne, hb.trans h.cb, ⟨es1, k1, h1.trans e1, B.keep hr⟩, ⟨es2, k2, h2.trans e2, F⟩⟩
theorem WSt.below (h : WSt p n d bad bd fr w) (hb : Below w.heap.size w w') : WSt p n d bad bd fr w' := by
  obtain ⟨es1, k1, e1, B⟩ := h.c1
  obtain ⟨es2, k2, e2, F⟩ := h.c2
  exact h.keep (hb.block _ (blk_lt h.cb)) (hb.block _ (blk_lt e1)) (hb.block _ (blk_lt e2)) (fun i hi => hb.block i (blk_lt hi.2.choose_spec))
theorem WSt.alloc (h : WSt p n d bad bd fr w) (o : Obj) : WSt p n d bad bd fr (w.alloc o) := h.below (bel_a w o)
theorem WSt.drew (h : WSt p n d bad bd fr w) : WSt p n d bad bd fr w.drew := h.below ((Below.refl _ w).drew)
theorem WSt.drewN (h : WSt p n d bad bd fr w) (j : Nat) : WSt p n d bad bd fr (w.drewN j) := h.below (pw_below_drewN (Below.refl _ w) j)

theorem set_blk {g : Nat} {t : TypeId} {cs : Array Value} (h : w.heap[g]? = some (.cells cs t (0, 0))) (i : Nat) (u : Value) : (w.setCell ⟨g, i, none⟩ u).heap[g]? = some (.cells (cs.setIfInBounds i u) t (0, 0)) := blk_set h i u

/-- a store into the checker itself -/
theorem WSt.set (h : WSt p n d bad bd fr w) (i : Nat) (u : Value) {n' : Nat} {d' : Int} {bad' : Bool} (e : (#[.int .i64 n, .int .i64 d, .map (some p.m1), .map (some p.m2), .bool bad] : Array Value).setIfInBounds i u = #[.int .i64 n', .int .i64 d', .map (some p.m1), .map (some p.m2), .bool bad']) :
    WSt p n' d' bad' bd fr (w.setCell ⟨p.b, i, none⟩ u) := by
  obtain ⟨es1, k1, e1, B⟩ := h.c1
  obtain ⟨es2, k2, e2, F⟩ := h.c2
  have hne : ∀ j, j ≠ p.b → (w.setCell ⟨p.b, i, none⟩ u).heap[j]? = w.heap[j]? := fun j hj => Below.heap_setCell w _ u j hj
  have n1 : p.m1 ≠ p.b := fun e => by rw [e, h.cb] at e1; cases e1
  have n2 : p.m2 ≠ p.b := fun e => by rw [e, h.cb] at e2; cases e2
  refine ⟨h.ne, ?_, ⟨es1, k1, (hne _ n1).trans e1, B.keep (fun j hj => hne j (fun e => by subst e; exact h.not_row hj))⟩, ⟨es2, k2, (hne _ n2).trans e2, F⟩⟩
  rw [blk_set h.cb i u, e]

theorem WSt.setn (h : WSt p n d bad bd fr w) (n' : Nat) : WSt p n' d bad bd fr (w.setCell ⟨p.b, 0, none⟩ (.int .i64 n')) := h.set 0 _ (by simp)
theorem WSt.setd (h : WSt p n d bad bd fr w) (d' : Int) : WSt p n d' bad bd fr (w.setCell ⟨p.b, 1, none⟩ (.int .i64 d')) := h.set 1 _ (by simp)
theorem WSt.setbad (h : WSt p n d bad bd fr w) (b' : Bool) : WSt p n d b' bd fr (w.setCell ⟨p.b, 4, none⟩ (.bool b')) := h.set 4 _ (by simp)
end

/-- the inside of a walk: the checker, the two boxes, what has been turned since the call -/
structure In (p : Pl) (x : S25) (A3 : Option Addr) (c3 : Nat) (A4 : Option Addr) (c4 : Nat) (A5 : Option Addr) (c5 : Nat) (ws : World) (n : Nat) (d : Int) (bad : Bool) (bd : List Sym) (fr : Fr) (w : World) : Prop where
  st : WSt p n d bad bd fr w
  q : w.heap[ws.heap.size]? = some (.cells #[.pointer (some ⟨p.b, 0, none⟩)] 158 (0, 0))
  f : w.heap[ws.heap.size + 1]? = some (bx x A3 c3 A4 c4 A5 c5)
  t : Tch (May' p ws) ws w

section
variable {p : Pl} {x : S25} {A3 : Option Addr} {c3 : Nat} {A4 : Option Addr} {c4 : Nat} {A5 : Option Addr} {c5 : Nat} {ws : World} {n : Nat} {d : Int} {bad : Bool} {bd : List Sym} {fr : Fr} {w w' : World}

theorem In.below (h : In p x A3 c3 A4 c4 A5 c5 ws n d bad bd fr w) (hb : Below w.heap.size w w') : In p x A3 c3 A4 c4 A5 c5 ws n d bad bd fr w' :=
  ⟨h.st.below hb, blk_below h.q hb, blk_below h.f hb, h.t.trans (Tch.of_below hb)⟩
theorem In.alloc (h : In p x A3 c3 A4 c4 A5 c5 ws n d bad bd fr w) (o : Obj) : In p x A3 c3 A4 c4 A5 c5 ws n d bad bd fr (w.alloc o) := h.below (bel_a w o)
theorem In.drew (h : In p x A3 c3 A4 c4 A5 c5 ws n d bad bd fr w) : In p x A3 c3 A4 c4 A5 c5 ws n d bad bd fr w.drew := h.below ((Below.refl _ w).drew)
theorem In.drewN (h : In p x A3 c3 A4 c4 A5 c5 ws n d bad bd fr w) (j : Nat) : In p x A3 c3 A4 c4 A5 c5 ws n d bad bd fr (w.drewN j) := h.below (pw_below_drewN (Below.refl _ w) j)

theorem In.qb (h : In p x A3 c3 A4 c4 A5 c5 ws n d bad bd fr w) : ws.heap.size ≠ p.b := fun e => by
  have h1 := h.q; have h2 := h.st.cb
  rw [e, h2] at h1; simp at h1
theorem In.fb (h : In p x A3 c3 A4 c4 A5 c5 ws n d bad bd fr w) : ws.heap.size + 1 ≠ p.b := fun e => by
  have h1 := h.f; have h2 := h.st.cb
  rw [e, h2] at h1; simp at h1

theorem In.set (h : In p x A3 c3 A4 c4 A5 c5 ws n d bad bd fr w) {n' : Nat} {d' : Int} {bad' : Bool} (i : Nat) (u : Value) (hs : WSt p n' d' bad' bd fr (w.setCell ⟨p.b, i, none⟩ u)) : In p x A3 c3 A4 c4 A5 c5 ws n' d' bad' bd fr (w.setCell ⟨p.b, i, none⟩ u) :=
  ⟨hs, (Below.heap_setCell w _ u _ h.qb).trans h.q, (Below.heap_setCell w _ u _ h.fb).trans h.f, h.t.trans (Tch.set (S := May' p ws) (p := ⟨p.b, i, none⟩) (Or.inl rfl) u)⟩
theorem In.setn (h : In p x A3 c3 A4 c4 A5 c5 ws n d bad bd fr w) (n' : Nat) : In p x A3 c3 A4 c4 A5 c5 ws n' d bad bd fr (w.setCell ⟨p.b, 0, none⟩ (.int .i64 n')) := h.set 0 _ (h.st.setn n')
theorem In.setd (h : In p x A3 c3 A4 c4 A5 c5 ws n d bad bd fr w) (d' : Int) : In p x A3 c3 A4 c4 A5 c5 ws n d' bad bd fr (w.setCell ⟨p.b, 1, none⟩ (.int .i64 d')) := h.set 1 _ (h.st.setd d')
theorem In.setbad (h : In p x A3 c3 A4 c4 A5 c5 ws n d bad bd fr w) (b' : Bool) : In p x A3 c3 A4 c4 A5 c5 ws n d b' bd fr (w.setCell ⟨p.b, 4, none⟩ (.bool b')) := h.set 4 _ (h.st.setbad b')

/-- the cells, as the walk reads them -/
theorem In.cq (h : In p x A3 c3 A4 c4 A5 c5 ws n d bad bd fr w) : w.cell? ⟨ws.heap.size, 0, none⟩ = some (.pointer (some ⟨p.b, 0, none⟩)) := (blk_cell h.q 0).trans rfl
theorem In.b0 (h : In p x A3 c3 A4 c4 A5 c5 ws n d bad bd fr w) : w.cell? ⟨p.b, 0, none⟩ = some (.int .i64 n) := (blk_cell h.st.cb 0).trans rfl
theorem In.b1 (h : In p x A3 c3 A4 c4 A5 c5 ws n d bad bd fr w) : w.cell? ⟨p.b, 1, none⟩ = some (.int .i64 d) := (blk_cell h.st.cb 1).trans rfl
theorem In.b2 (h : In p x A3 c3 A4 c4 A5 c5 ws n d bad bd fr w) : w.cell? ⟨p.b, 2, none⟩ = some (.map (some p.m1)) := (blk_cell h.st.cb 2).trans rfl
theorem In.b3 (h : In p x A3 c3 A4 c4 A5 c5 ws n d bad bd fr w) : w.cell? ⟨p.b, 3, none⟩ = some (.map (some p.m2)) := (blk_cell h.st.cb 3).trans rfl
theorem In.b4 (h : In p x A3 c3 A4 c4 A5 c5 ws n d bad bd fr w) : w.cell? ⟨p.b, 4, none⟩ = some (.bool bad) := (blk_cell h.st.cb 4).trans rfl
theorem In.fz (h : In p x A3 c3 A4 c4 A5 c5 ws n d bad bd fr w) (i : Nat) : w.frozen? ⟨p.b, i, none⟩ = false := blk_frozen h.st.cb i
theorem In.f0 (h : In p x A3 c3 A4 c4 A5 c5 ws n d bad bd fr w) : w.cell? ⟨ws.heap.size + 1, 0, none⟩ = some (.int .i64 x.f0) := (blk_cell h.f 0).trans rfl
theorem In.f1 (h : In p x A3 c3 A4 c4 A5 c5 ws n d bad bd fr w) : w.cell? ⟨ws.heap.size + 1, 1, none⟩ = some (.int .i64 x.f1) := (blk_cell h.f 1).trans rfl
theorem In.f2 (h : In p x A3 c3 A4 c4 A5 c5 ws n d bad bd fr w) : w.cell? ⟨ws.heap.size + 1, 2, none⟩ = some (.string x.f2) := (blk_cell h.f 2).trans rfl
theorem In.f3 (h : In p x A3 c3 A4 c4 A5 c5 ws n d bad bd fr w) : w.cell? ⟨ws.heap.size + 1, 3, none⟩ = some (.slice A3 x.f3.length c3) := (blk_cell h.f 3).trans rfl
theorem In.f4 (h : In p x A3 c3 A4 c4 A5 c5 ws n d bad bd fr w) : w.cell? ⟨ws.heap.size + 1, 4, none⟩ = some (.slice A4 x.f4.length c4) := (blk_cell h.f 4).trans rfl
theorem In.f5 (h : In p x A3 c3 A4 c4 A5 c5 ws n d bad bd fr w) : w.cell? ⟨ws.heap.size + 1, 5, none⟩ = some (.slice A5 x.f5.length c5) := (blk_cell h.f 5).trans rfl

/-- a store into the map of free symbols -/
theorem In.setm2 (h : In p x A3 c3 A4 c4 A5 c5 ws n d bad bd fr w) {es es' : Array MapEntry} {k k' : Nat} {s : ByteArray} {a : Int} (hm : w.heap[p.m2]? = some (.map es k)) (hF : FrOk es.toList fr) (hs : allStr es'.toList)
    (hl : ∀ s', look es'.toList s' = if s' = s then some (.int .i64 a) else look es.toList s') : In p x A3 c3 A4 c4 A5 c5 ws n d bad bd (upd fr s a) (setB w p.m2 (.map es' k')) := by
  obtain ⟨es1, k1, e1, B⟩ := h.st.c1
  have hne : ∀ j, j ≠ p.m2 → (setB w p.m2 (.map es' k')).heap[j]? = w.heap[j]? := fun j hj => setB_ne w _ _ j hj
  have nb : p.b ≠ p.m2 := fun e => by have h1 := h.st.cb; rw [e, hm] at h1; cases h1
  have nq : ws.heap.size ≠ p.m2 := fun e => by have h1 := h.q; rw [e, hm] at h1; cases h1
  have nf : ws.heap.size + 1 ≠ p.m2 := fun e => by have h1 := h.f; rw [e, hm] at h1; cases h1
  exact ⟨⟨h.st.ne, (hne _ nb).trans h.st.cb, ⟨es1, k1, (hne _ h.st.ne).trans e1, B.keep (fun i hi => hne i (fun e => by subst e; exact not_row_map hm hi))⟩, ⟨es', k', setB_same hm _, hF.upd hs hl⟩⟩,
    (hne _ nq).trans h.q, (hne _ nf).trans h.f, h.t.trans (setB_tch (S := May' p ws) (Or.inr (Or.inr (Or.inl rfl))) _)⟩
end
end Go.Proofs.YtjjnjnnfebifnaaGreatDoor.Rn
namespace Go.Proofs.YtjjnjnnfebifnaaGreatDoor.Rn
open Go.RowKit Go.Proofs.YtjjnjnnfebifnaaGreatDoorW.PrintWords Go.Proofs.YtjjnjnnfebifnaaGreatDoorW.PrintLast Go.Proofs.YtjjnjnnfebifnaaGreatDoor.PReachNormal

theorem BdOk.nolast {w : World} {base : Nat} {es : List MapEntry} {bd : List Sym} {s : ByteArray} (h : BdOk w base es bd) (hl : last? bd s = none) : ∃ A c, atOr es s = .slice A 0 c := by
  have := h.at_ s
  rw [last_stk, List.getLast?_eq_none_iff] at hl
  rw [hl] at this
  obtain ⟨A, c, e⟩ := own_slice this
  exact ⟨A, c, e⟩
theorem BdOk.lastcell {w : World} {base : Nat} {es : List MapEntry} {bd : List Sym} {s : ByteArray} {m : Int} (h : BdOk w base es bd) (hl : last? bd s = some m) :
    ∃ g cap k, atOr es s = .slice (some ⟨g, 0, none⟩) (k + 1) cap ∧ w.cell? ⟨g, k, none⟩ = some (.int .i64 m) ∧ k + 1 ≤ bd.length ∧ k + 1 ≤ cap := by
  have := h.at_ s
  rw [last_stk, List.getLast?_eq_some_iff] at hl
  obtain ⟨l, hl⟩ := hl
  have hle := stk_le bd s
  rw [hl] at this hle
  obtain ⟨h1, h2⟩ := this
  rcases h2 with ⟨_, h0⟩ | ⟨g, cap, cur, e, hb, hh, hn, hcap, hsz, ht⟩
  · simp at h0
  · simp only [List.length_append, List.length_cons, List.length_nil, Nat.zero_add] at e hn ht hle
    refine ⟨g, cap, l.length, e, ?_, hle, hn⟩
    rw [blk_cell hh]
    have hx : cur.toList[l.length]? = some (.int .i64 m) := by
      have : (cur.toList.take ((l.length + 1) * 1))[l.length]? = cur.toList[l.length]? := by rw [List.getElem?_take]; simp
      rw [← this, ht]; simp
    simpa using hx
/-- the map of free symbols, asked for a name -/
theorem free_look {w : World} {m2 : Nat} {es : Array MapEntry} {k : Nat} {fr : Fr} (hF : FrOk es.toList fr) (hm : w.heap[m2]? = some (.map es k)) (s : ByteArray) (a : Int) :
    ∃ (v0 : Int) (is : Bool), (∀ w' : World, w'.heap = w.heap → (Instr.lookup 155 (.map (some m2)) (.string s) true).run Tryz.prog w' = .ok (.tuple #[.int .i64 v0, .bool is]) w') ∧ (is && (v0 != a)) = (match fr s with | some m => m != a | none => false) := by
  have hv := hF.val s
  cases hf : fr s with
  | none =>
    rw [hf] at hv
    refine ⟨0, false, fun w' hw => ?_, rfl⟩
    have := run_look und155 und9 zero3 (w := w') (by rw [hw]; exact hm) hF.str s true
    rw [this, hv]; rfl
  | some m =>
    rw [hf] at hv
    refine ⟨m, true, fun w' hw => ?_, by simp⟩
    have := run_look und155 und9 zero3 (w := w') (by rw [hw]; exact hm) hF.str s true
    rw [this, hv]; rfl
end Go.Proofs.YtjjnjnnfebifnaaGreatDoor.Rn
namespace Go.Proofs.YtjjnjnnfebifnaaGreatDoor.Rn
open Go.RowKit Go.Proofs.YtjjnjnnfebifnaaGreatDoorW.PrintWords Go.Proofs.YtjjnjnnfebifnaaGreatDoorW.PrintLast Go.Proofs.YtjjnjnnfebifnaaGreatDoor.PReachNormal
open Go.Ev (setB setB_size setB_same setB_ne)

theorem In.call {p : Pl} {x : S25} {A3 : Option Addr} {c3 : Nat} {A4 : Option Addr} {c4 : Nat} {A5 : Option Addr} {c5 : Nat} {ws : World} {n n' : Nat} {d d' : Int} {bad bad' : Bool} {bd bd' : List Sym} {fr fr' : Fr} {w w' : World}
    (h : In p x A3 c3 A4 c4 A5 c5 ws n d bad bd fr w) (hs : WSt p n' d' bad' bd' fr' w') (ht : Tch (May' p w) w w') : In p x A3 c3 A4 c4 A5 c5 ws n' d' bad' bd' fr' w' := by
  obtain ⟨es1, k1, e1, B⟩ := h.st.c1
  obtain ⟨es2, k2, e2, F⟩ := h.st.c2
  refine ⟨hs, ht.blk h.q ?_, ht.blk h.f ?_, May.trans h.t ht⟩
  · rintro (e | e | e | ⟨_, cs, e⟩)
    · exact h.qb e
    · have h1 := h.q; rw [e, e1] at h1; cases h1
    · have h1 := h.q; rw [e, e2] at h1; cases h1
    · have h1 := h.q; rw [e] at h1; simp at h1
  · rintro (e | e | e | ⟨_, cs, e⟩)
    · exact h.fb e
    · have h1 := h.f; rw [e, e1] at h1; cases h1
    · have h1 := h.f; rw [e, e2] at h1; cases h1
    · have h1 := h.f; rw [e] at h1; simp at h1

/-- what a walk leaves -/
def WPost (p : Pl) (bd : List Sym) (r : St) (w w' : World) : Prop := ∃ d, WSt p r.n d r.bad bd r.fr w' ∧ Tch (May' p w) w w'

def WalkOk (N : Nat) : Prop := ∀ (x : S25) (lvl n : Nat) (d : Int) (bd : List Sym) (fr : Fr) (p : Pl) (A3 : Option Addr) (c3 : Nat) (A4 : Option Addr) (c4 : Nat) (A5 : Option Addr) (c5 : Nat) (w0 w : World),
  size x ≤ N → fine x = true → lvl ≤ 61 → bd.length < lvl → n ≤ 4000 → Lay w0 x A3 c3 A4 c4 A5 c5 → Below w0.heap.size w0 w → w0.heap.size ≤ p.b → w0.heap.size ≤ p.m1 → w0.heap.size ≤ p.m2 → w0.heap.size ≤ p.base → p.base ≤ p.b → WSt p n d false bd fr w →
  Calls Tryz.prog 158 #[.pointer (some ⟨p.b, 0, none⟩), ag x A3 c3 A4 c4 A5 c5, .int .i64 lvl] w fun e w' => e = .returned (.tuple #[]) ∧ WPost p bd (walk shpP x lvl bd ⟨n, fr, false⟩) w w'

/-- the ways in which a walk stops at once -/
def stops (x : S25) (lvl n : Nat) : Bool := decide (4000 < (n : Int) + 1) || decide (60 < (lvl : Int)) || !shpP x

theorem walk_stop {x : S25} {lvl n : Nat} {bd : List Sym} {fr : Fr} (h : stops x lvl n = true) : walk shpP x lvl bd ⟨n, fr, false⟩ = ⟨n + 1, fr, true⟩ := by
  cases x
  unfold walk
  rw [if_pos]
  unfold stops at h
  simp only [Bool.or_eq_true, decide_eq_true_eq, Bool.not_eq_true'] at h
  rcases h with (h | h) | h
  · exact Or.inl (by simp only; omega)
  · exact Or.inr (Or.inl (by omega))
  · exact Or.inr (Or.inr h)
theorem stops_no {x : S25} {lvl n : Nat} (h : stops x lvl n = false) : ¬ (n + 1 > 4000 ∨ lvl > 60 ∨ shpP x = false) ∧ shpP x = true ∧ lvl ≤ 60 ∧ n + 1 ≤ 4000 := by
  unfold stops at h
  simp only [Bool.or_eq_false_iff, decide_eq_false_iff_not, Bool.not_eq_false'] at h
  obtain ⟨⟨h1, h2⟩, h3⟩ := h
  refine ⟨?_, h3, by omega, by omega⟩
  rintro (h | h | h)
  · omega
  · omega
  · rw [h3] at h; cases h

theorem walk_bound {x : S25} {lvl n : Nat} {bd : List Sym} {fr : Fr} {m : Int} (h : ¬ (n + 1 > 4000 ∨ lvl > 60 ∨ shpP x = false)) (h0 : (x.f0 == 0) = true) (hl : last? bd x.f2 = some m) :
    walk shpP x lvl bd ⟨n, fr, false⟩ = ⟨n + 1, fr, m != (x.f4.length : Int)⟩ := by
  obtain ⟨k, a, nm, vs, ar, ks⟩ := x
  simp only [beq_iff_eq] at h0
  unfold walk
  rw [if_neg h, if_pos h0]
  simp only at hl
  rw [hl]
  simp only [St.mk.injEq, true_and]
  by_cases e : m = (ar.length : Int) <;> simp [e]
theorem walk_free {x : S25} {lvl n : Nat} {bd : List Sym} {fr : Fr} (h : ¬ (n + 1 > 4000 ∨ lvl > 60 ∨ shpP x = false)) (h0 : (x.f0 == 0) = true) (hl : last? bd x.f2 = none) :
    walk shpP x lvl bd ⟨n, fr, false⟩ = ⟨n + 1, upd fr x.f2 x.f4.length, match fr x.f2 with | some m => m != (x.f4.length : Int) | none => false⟩ := by
  obtain ⟨k, a, nm, vs, ar, ks⟩ := x
  simp only [beq_iff_eq] at h0
  unfold walk
  rw [if_neg h, if_pos h0]
  simp only at hl
  rw [hl]
  simp only [St.mk.injEq, true_and]
  cases fr nm with
  | none => rfl
  | some m => by_cases e : m = (ar.length : Int) <;> simp [e]

end Go.Proofs.YtjjnjnnfebifnaaGreatDoor.Rn
namespace Go.Proofs.YtjjnjnnfebifnaaGreatDoor.Rn
open Go.RowKit Go.Proofs.YtjjnjnnfebifnaaGreatDoorW.PrintWords Go.Proofs.YtjjnjnnfebifnaaGreatDoorW.PrintLast Go.Proofs.YtjjnjnnfebifnaaGreatDoor.PReachNormal
open Go.Ev (setB setB_size setB_same setB_ne)

theorem binds_ne {x : S25} {a : Int} (h : bindsF x = some a) : (x.f0 == 0) = false := by
  rw [beq_eq_false_iff_ne]; intro e; unfold bindsF at h; rw [e] at h; simp at h

theorem own_row {w : World} {base n g : Nat} {v : Value} {xs : List Value} (h : w.ownsRow base 3 1 v n xs) (hg : some g = v.ownBlock) : IsRow base w g := row_block h hg.symm

section
variable {p : Pl} {x : S25} {A3 : Option Addr} {c3 : Nat} {A4 : Option Addr} {c4 : Nat} {A5 : Option Addr} {c5 : Nat} {ws : World} {n : Nat} {d : Int} {bad : Bool} {bd : List Sym} {fr : Fr} {w wz w1 : World}

/-- behind the append: what is no row is as it was -/
theorem push_blk {es : Array MapEntry} {s : ByteArray} (hB : BdOk w p.base es.toList bd) (hz : Below w.heap.size w wz) (hg : wz.grownBy w1 (atOr es.toList s).ownBlock) {i : Nat} {o : Obj} (hi : w.heap[i]? = some o) (hn : ¬ IsRow p.base w i) : w1.heap[i]? = some o := by
  have hlt := blk_lt hi
  rw [hg.block i (Nat.lt_of_lt_of_le hlt hz.size) (fun e => hn (own_row (hB.at_ s) e)), hz.block i hlt]
  exact hi

theorem not_row_ty {i : Nat} {cs : Array Value} {t : TypeId} (h : w.heap[i]? = some (.cells cs t (0, 0))) (ht : t ≠ 3) (base : Nat) : ¬ IsRow base w i := by
  rintro ⟨_, cs', h2⟩
  rw [h] at h2
  simp only [Option.some.injEq, Obj.cells.injEq] at h2
  exact ht h2.2.1

theorem In.push (h : In p x A3 c3 A4 c4 A5 c5 ws n d bad bd fr w) {es es' : Array MapEntry} {k k' : Nat} {s : ByteArray} {a : Int} {g cap : Nat} (hm : w.heap[p.m1]? = some (.map es k)) (hB : BdOk w p.base es.toList bd)
    (hz : Below w.heap.size w wz) (hg : wz.grownBy w1 (atOr es.toList s).ownBlock) (hr : w1.ownsRow p.base 3 1 (.slice (some ⟨g, 0, none⟩) ((stk bd s).length + 1) cap) ((stk bd s).length + 1) ((stk bd s).map (Value.int .i64) ++ [.int .i64 a]))
    (hat : (atOr es.toList s).ownBlock = some g ∨ g = wz.heap.size) (hs : allStr es'.toList)
    (hl : ∀ s', look es'.toList s' = if s' = s then some (.slice (some ⟨g, 0, none⟩) ((stk bd s).length + 1) cap) else look es.toList s') :
    In p x A3 c3 A4 c4 A5 c5 ws n d bad (bd ++ [(s, a)]) fr (setB w1 p.m1 (.map es' k')) ∧ (∀ (i : Nat) (cs : Array Value) (t : TypeId), t ≠ 3 → w.heap[i]? = some (.cells cs t (0, 0)) → (setB w1 p.m1 (.map es' k')).heap[i]? = some (.cells cs t (0, 0))) := by
  obtain ⟨es2, k2, e2, F⟩ := h.st.c2
  have hm1 := push_blk hB hz hg hm (not_row_map hm)
  have hBz : BdOk wz p.base es.toList bd := hB.keep (fun i hi => hz.block i (blk_lt hi.2.choose_spec))
  have hBP := hBz.push (c' := k') hm1 hg hr (by
    rcases hat with hat | hat
    · exact .inl hat
    · exact .inr (by omega)) hs hl
  have hcell : ∀ (i : Nat) (cs : Array Value) (t : TypeId), t ≠ 3 → w.heap[i]? = some (.cells cs t (0, 0)) → (setB w1 p.m1 (.map es' k')).heap[i]? = some (.cells cs t (0, 0)) := fun i cs t ht hi => by
    rw [setB_ne w1 p.m1 _ i (fun e => by rw [e, hm] at hi; cases hi)]
    exact push_blk hB hz hg hi (not_row_ty hi ht _)
  have e2' : (setB w1 p.m1 (.map es' k')).heap[p.m2]? = some (.map es2 k2) := by
    rw [setB_ne w1 p.m1 _ p.m2 (fun e => h.st.ne e.symm)]
    exact push_blk hB hz hg e2 (not_row_map e2)
  refine ⟨⟨⟨h.st.ne, hcell _ _ _ (by decide) h.st.cb, ⟨es', k', setB_same hm1 _, hBP⟩, ⟨es2, k2, e2', F⟩⟩, hcell _ _ _ (by decide) h.q, hcell _ _ _ (by decide) h.f, ?_⟩, hcell⟩
  have t1 : Tch (May' p w) w w1 := ⟨hg.os.trans hz.os, hg.tape.trans hz.tape, hg.output.trans hz.output, Nat.le_trans hz.size hg.size, fun i hi hn => by
    rw [hg.block i (Nat.lt_of_lt_of_le hi hz.size) (fun e => hn (.inr (.inr (.inr (own_row (hB.at_ s) e))))), hz.block i hi]⟩
  exact May.trans h.t (t1.trans (setB_tch (S := May' p w) (.inr (.inl rfl)) _))

/-- what region 16 reads -/
theorem reads16 (h : In p x A3 c3 A4 c4 A5 c5 ws n d bad bd fr w) {es : Array MapEntry} {k nb : Nat} {s : ByteArray} (hm : w.heap[p.m1]? = some (.map es k)) (hB : BdOk w p.base es.toList bd) (hN : w.heap[nb]? = some (.cells #[.string s] 9 (0, 0))) {w' : World}
    (h1 : ∀ i o, w.heap[i]? = some o → ¬ IsRow p.base w i → w'.heap[i]? = some o) :
    (w'.cell? ⟨ws.heap.size, 0, none⟩ = some (.pointer (some ⟨p.b, 0, none⟩)) ∧ w'.cell? ⟨p.b, 2, none⟩ = some (.map (some p.m1)) ∧ w'.cell? ⟨nb, 0, none⟩ = some (.string s)) ∧
    (Instr.lookup 154 (.map (some p.m1)) (.string s) false).run Tryz.prog w' = .ok (atOr es.toList s) w' := by
  refine ⟨⟨(blk_cell (h1 _ _ h.q (not_row_ty h.q (by decide) _)) 0).trans rfl, (blk_cell (h1 _ _ h.st.cb (not_row_ty h.st.cb (by decide) _)) 2).trans rfl, (blk_cell (h1 _ _ hN (not_row_ty hN (by decide) _)) 0).trans rfl⟩, ?_⟩
  exact run_look und154 und9 zero76 (h1 _ _ hm (not_row_map hm)) hB.str s false
/-- .. and once the map is written -/
theorem reads16s (h : In p x A3 c3 A4 c4 A5 c5 ws n d bad bd fr w) {es : Array MapEntry} {k nb : Nat} {s : ByteArray} (hm : w.heap[p.m1]? = some (.map es k)) (hB : BdOk w p.base es.toList bd) (hN : w.heap[nb]? = some (.cells #[.string s] 9 (0, 0))) {w' : World}
    (h1 : ∀ i o, w.heap[i]? = some o → ¬ IsRow p.base w i → w'.heap[i]? = some o) (es' : Array MapEntry) (k' : Nat) :
    (setB w' p.m1 (.map es' k')).cell? ⟨ws.heap.size, 0, none⟩ = some (.pointer (some ⟨p.b, 0, none⟩)) ∧ (setB w' p.m1 (.map es' k')).cell? ⟨p.b, 2, none⟩ = some (.map (some p.m1)) ∧ (setB w' p.m1 (.map es' k')).cell? ⟨nb, 0, none⟩ = some (.string s) := by
  have hne : ∀ {i : Nat} {cs : Array Value} {t : TypeId}, w.heap[i]? = some (.cells cs t (0, 0)) → i ≠ p.m1 := fun hi e => by rw [e, hm] at hi; cases hi
  have f : ∀ {i : Nat} {cs : Array Value} {t : TypeId}, t ≠ 3 → w.heap[i]? = some (.cells cs t (0, 0)) → (setB w' p.m1 (.map es' k')).heap[i]? = some (.cells cs t (0, 0)) := fun ht hi => by
    rw [setB_ne _ _ _ _ (hne hi)]
    exact h1 _ _ hi (not_row_ty hi ht _)
  exact ⟨(blk_cell (f (by decide) h.q) 0).trans rfl, (blk_cell (f (by decide) h.st.cb) 2).trans rfl, (blk_cell (f (by decide) hN) 0).trans rfl⟩
end
end Go.Proofs.YtjjnjnnfebifnaaGreatDoor.Rn
namespace Go.Proofs.YtjjnjnnfebifnaaGreatDoor.Rn
open Go.RowKit Go.Proofs.YtjjnjnnfebifnaaGreatDoorW.PrintWords Go.Proofs.YtjjnjnnfebifnaaGreatDoorW.PrintLast Go.Proofs.YtjjnjnnfebifnaaGreatDoor.PReachNormal
open Go.Ev (setB setB_size setB_same setB_ne)

/-- a region that never leaves by another way -/
theorem wp_noexit {P : Program} {c : Code} {Q : Exit → Act → World → Prop} {a : Act} {w : World} (h : c.wp P (fun e a w => match e with | .normal => Q .normal a w | _ => False) a w) : c.wp P Q a w :=
  Code.wp_mono (fun e a w h => by
    cases e with
    | normal => exact h
    | _ => exact h.elim) h

theorem walk_kids {x : S25} {lvl n : Nat} {bd : List Sym} {fr : Fr} (h : ¬ (n + 1 > 4000 ∨ lvl > 60 ∨ shpP x = false)) (h0 : (x.f0 == 0) = false) :
    walk shpP x lvl bd ⟨n, fr, false⟩ = (let r := walkL shpP x.f5 (lvl + 1) (under x bd) ⟨n + 1, fr, false⟩; if r.bad then r else ⟨r.n, r.fr, decide (x.f0 = 8) && !posL x.f2 (x.f5.take 1) true⟩) := by
  obtain ⟨k, a, nm, vs, ar, ks⟩ := x
  simp only [beq_eq_false_iff_ne] at h0
  conv => lhs; unfold walk
  rw [if_neg h, if_neg h0]
theorem walkL_cons {l : List S25} {k lvl : Nat} {y : S25} {bd : List Sym} {s : St} (h : l[k]? = some y) : walkL shpP (l.drop k) lvl bd s = (let r := walk shpP y lvl bd s; if r.bad then r else walkL shpP (l.drop (k + 1)) lvl bd r) := by
  rw [drop_at h]; conv => lhs; unfold walkL
theorem walkL_nil {l : List S25} {k lvl : Nat} {bd : List Sym} {s : St} (h : l.length ≤ k) : walkL shpP (l.drop k) lvl bd s = s := by
  rw [List.drop_eq_nil_of_le h]; unfold walkL; rfl
theorem walk_n (H : OneKid shpP) {y : S25} {lvl : Nat} {bd : List Sym} {s : St} (hs : s.bad = false) (h : (walk shpP y lvl bd s).bad = false) : (walk shpP y lvl bd s).n ≤ 4000 := by
  have := walk_spec shpP H y lvl bd s hs
  have h1 := this.1.1 h
  rw [(this.2 h).1]; exact h1.1
theorem walkL_shapes (H : OneKid shpP) {l : List S25} {lvl : Nat} {bd : List Sym} {s r : St} (hs : s.bad = false) (hn : s.n ≤ 4000) (h : walkL shpP l lvl bd s = r) (hr : r.bad = false) : shapesL shpP l = true := by
  have := (walk_specL shpP H l lvl bd s hs hn).1.1 (by rw [h]; exact hr)
  exact this.2.2.1

section
variable {p : Pl} {x : S25} {A3 : Option Addr} {c3 : Nat} {A4 : Option Addr} {c4 : Nat} {A5 : Option Addr} {c5 : Nat} {ws : World} {n n' : Nat} {d d' : Int} {bad bad' : Bool} {bd bd' : List Sym} {fr fr' : Fr} {w w' : World}

theorem In.popped (h : In p x A3 c3 A4 c4 A5 c5 ws n d bad bd' fr w) (hP : Popped p.m1 p.base bd w w') : WSt p n d bad bd fr w' ∧ Tch (May' p ws) ws w' := by
  obtain ⟨es', c', e1, B, t⟩ := hP
  obtain ⟨es1, k1, f1, _⟩ := h.st.c1
  obtain ⟨es2, k2, f2, F⟩ := h.st.c2
  refine ⟨⟨h.st.ne, t.blk h.st.cb (fun e => by have h1 := h.st.cb; rw [show p.b = p.m1 from e, f1] at h1; cases h1), ⟨es', c', e1, B⟩, ⟨es2, k2, t.blk f2 (fun e => h.st.ne e.symm), F⟩⟩, May.trans h.t (t.mono (fun i _ e => .inr (.inl e)))⟩

/-- a block that is none of a walk's own stands behind a call -/
theorem In.far (h : In p x A3 c3 A4 c4 A5 c5 ws n d bad bd fr w) (ht : Tch (May' p w) w w') {i : Nat} {cs : Array Value} {t : TypeId} (hi : w.heap[i]? = some (.cells cs t (0, 0))) (h3 : t ≠ 3) (h157 : t ≠ 157) : w'.heap[i]? = some (.cells cs t (0, 0)) := by
  obtain ⟨es1, k1, e1, B⟩ := h.st.c1
  obtain ⟨es2, k2, e2, F⟩ := h.st.c2
  refine ht.blk hi ?_
  rintro (e | e | e | e)
  · have h1 := h.st.cb; rw [← e, hi] at h1; simp only [Option.some.injEq, Obj.cells.injEq] at h1; exact h157 h1.2.1
  · rw [e, e1] at hi; cases hi
  · rw [e, e2] at hi; cases hi
  · exact not_row_ty hi h3 _ e
end
end Go.Proofs.YtjjnjnnfebifnaaGreatDoor.Rn
