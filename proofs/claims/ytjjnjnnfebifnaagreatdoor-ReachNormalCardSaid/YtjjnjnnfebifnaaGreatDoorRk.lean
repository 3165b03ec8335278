import Derived.Deep.AppendLies
import Derived.Laws.OwnMore
import Derived.Deep.RegionHeldLaw
import Derived.Deep.DrawnRows
import Derived.Test.YtjjnjnnfebifnaaGreatDoorRh
set_option linter.all false
namespace Go.Proofs.YtjjnjnnfebifnaaGreatDoor.Rn
open Go.RowKit Go.Proofs.YtjjnjnnfebifnaaGreatDoorW.PrintWords Go.Proofs.YtjjnjnnfebifnaaGreatDoorW.PrintLast Go.Proofs.YtjjnjnnfebifnaaGreatDoor.PReachNormal

/-! ### appending what lies anywhere -/
def SrcC (w : World) (size : Nat) (sv : Value) (m : Nat) (ys : List Value) : Prop :=
  (sv = .slice none 0 0 ∧ m = 0 ∧ ys = []) ∨ ∃ (ad : Addr) (c : Nat), sv = .slice (some ad) m c ∧ ys.length = m * size ∧ ∀ j u, ys[j]? = some u → w.cell? (ad.add j) = some u

section
variable {P : Program}
theorem run_append_src (w : World) (t ty : TypeId) (base : Nat) (e : TypeId) (i : TypeInfo) (z : Value) (size bytes : Nat) (ht : P.underlying t = some (.slice e)) (hi : P.info? e = some i) (hz : i.zero = some z)
    (hsize : i.size = size) (hby : i.bytes = bytes) (hzs : z.cells.size = size) (hsz : 0 < size)
    (v : Value) (n : Nat) (xs : List Value) (hown : w.ownsRow base e size v n xs) (sv : Value) (m : Nat) (ys : List Value) (hs : SrcC w size sv m ys) (h1 : ∀ u ∈ ys, u.oneCell' = true)
    (h63 : n + m ≤ maxLen) (hbytes : (n + m) * bytes ≤ 140737488355328) (hbase : base ≤ w.heap.size) :
    ∃ v' w', (Builtin.append_ #[t, t] ty #[v, sv]).run P w = .ok v' w' ∧ w'.ownsRow base e size v' (n + m) (xs ++ ys) ∧ w.grownBy w' v.ownBlock ∧ (v'.ownBlock = v.ownBlock ∨ v'.ownBlock = some w.heap.size) := by
  rcases hs with ⟨rfl, rfl, rfl⟩ | ⟨ad, c, rfl, hl, hc⟩
  · refine ⟨v, w, run_append_owned_none w base t ty e i size ht hi v n xs hown, ?_, ⟨rfl, rfl, rfl, Nat.le_refl _, fun _ _ _ => rfl⟩, .inl rfl⟩
    rw [List.append_nil]; exact hown
  · obtain ⟨v', w', hr, h2, h3, _, h5⟩ := run_append_own_at (P := P) w base t ty e i z size bytes ht hi hz hsize hby hzs hsz v n xs hown ad m c ys hl hc h1 h63 hbytes hbase
    exact ⟨v', w', hr, h2, h3, h5⟩

theorem step_append_src (w : World) {ops : Array Oper} {o : Oper} {a : Act} {K : Act → World → Prop} {Q : Exit → Act → World → Prop} {E : Prop} (hgd : o.guard = none) (s x : Operand) (t : TypeId)
    (ho : o.op = .call { callee := .builtin .append, args := #[s, x], argTypes := #[t, t] })
    (base : Nat) (e : TypeId) (i : TypeInfo) (z : Value) (size bytes : Nat) (ht : P.underlying t = some (.slice e)) (hi : P.info? e = some i) (hz : i.zero = some z)
    (hsize : i.size = size) (hby : i.bytes = bytes) (hzs : z.cells.size = size) (hsz : 0 < size)
    (v : Value) (n : Nat) (xs : List Value) (hs : a.eval s = v) (hown : w.ownsRow base e size v n xs) (sv : Value) (m : Nat) (ys : List Value) (hx : a.eval x = sv) (hsrc : SrcC w size sv m ys) (h1 : ∀ u ∈ ys, u.oneCell' = true)
    (h63 : n + m ≤ maxLen) (hbytes : (n + m) * bytes ≤ 140737488355328) (hbase : base ≤ w.heap.size)
    (h : ∀ v' w', w'.ownsRow base e size v' (n + m) (xs ++ ys) → w.grownBy w' v.ownBlock → (v'.ownBlock = v.ownBlock ∨ v'.ownBlock = some w.heap.size) → K (a.put o.dst v') w') :
    if Region.wanted o (yielded ops a.tmps) = true then Oper.wp P o a w K Q else E := by
  have hw : Region.wanted o (yielded ops a.tmps) = true := by simp [Region.wanted, hgd]
  rw [if_pos hw]
  obtain ⟨v', w', hr, h2, h3, h4⟩ := run_append_src (P := P) w t o.type base e i z size bytes ht hi hz hsize hby hzs hsz v n xs hown sv m ys hsrc h1 h63 hbytes hbase
  unfold Oper.wp execOp
  simp only [ho, resolve, invoke, builtin, Sem.run_bind, Sem.run_pure, Result.andThen_ok, List.map_toArray, List.map_cons, List.map_nil, hs, hx, hr]
  exact h v' w' h2 h3 h4
theorem wp_append_src (w : World) {o : Oper} {a : Act} {K : Act → World → Prop} {Q : Exit → Act → World → Prop} (s x : Operand) (t : TypeId)
    (ho : o.op = .call { callee := .builtin .append, args := #[s, x], argTypes := #[t, t] })
    (base : Nat) (e : TypeId) (i : TypeInfo) (z : Value) (size bytes : Nat) (ht : P.underlying t = some (.slice e)) (hi : P.info? e = some i) (hz : i.zero = some z)
    (hsize : i.size = size) (hby : i.bytes = bytes) (hzs : z.cells.size = size) (hsz : 0 < size)
    (v : Value) (n : Nat) (xs : List Value) (hs : a.eval s = v) (hown : w.ownsRow base e size v n xs) (sv : Value) (m : Nat) (ys : List Value) (hx : a.eval x = sv) (hsrc : SrcC w size sv m ys) (h1 : ∀ u ∈ ys, u.oneCell' = true)
    (h63 : n + m ≤ maxLen) (hbytes : (n + m) * bytes ≤ 140737488355328) (hbase : base ≤ w.heap.size)
    (h : ∀ v' w', w'.ownsRow base e size v' (n + m) (xs ++ ys) → w.grownBy w' v.ownBlock → (v'.ownBlock = v.ownBlock ∨ v'.ownBlock = some w.heap.size) → K (a.put o.dst v') w') : Oper.wp P o a w K Q := by
  obtain ⟨v', w', hr, h2, h3, h4⟩ := run_append_src (P := P) w t o.type base e i z size bytes ht hi hz hsize hby hzs hsz v n xs hown sv m ys hsrc h1 h63 hbytes hbase
  unfold Oper.wp execOp
  simp only [ho, resolve, invoke, builtin, Sem.run_bind, Sem.run_pure, Result.andThen_ok, List.map_toArray, List.map_cons, List.map_nil, hs, hx, hr]
  exact h v' w' h2 h3 h4
theorem wpList_append_src (w : World) {ops : Array Oper} {rest : List Oper} {o : Oper} {a : Act} {Q : Exit → Act → World → Prop} (hgd : o.guard = none) (s x : Operand) (t : TypeId)
    (ho : o.op = .call { callee := .builtin .append, args := #[s, x], argTypes := #[t, t] })
    (base : Nat) (e : TypeId) (i : TypeInfo) (z : Value) (size bytes : Nat) (ht : P.underlying t = some (.slice e)) (hi : P.info? e = some i) (hz : i.zero = some z)
    (hsize : i.size = size) (hby : i.bytes = bytes) (hzs : z.cells.size = size) (hsz : 0 < size)
    (v : Value) (n : Nat) (xs : List Value) (hs : a.eval s = v) (hown : w.ownsRow base e size v n xs) (sv : Value) (m : Nat) (ys : List Value) (hx : a.eval x = sv) (hsrc : SrcC w size sv m ys) (h1 : ∀ u ∈ ys, u.oneCell' = true)
    (h63 : n + m ≤ maxLen) (hbytes : (n + m) * bytes ≤ 140737488355328) (hbase : base ≤ w.heap.size)
    (h : ∀ v' w', w'.ownsRow base e size v' (n + m) (xs ++ ys) → w.grownBy w' v.ownBlock → (v'.ownBlock = v.ownBlock ∨ v'.ownBlock = some w.heap.size) → wpList P ops Q rest (a.put o.dst v') w') : wpList P ops Q (o :: rest) a w :=
  wpList_plain hgd fun _ hK => wp_append_src w s x t ho base e i z size bytes ht hi hz hsize hby hzs hsz v n xs hs hown sv m ys hx hsrc h1 h63 hbytes hbase fun v' w' h2 h3 h4 => hK _ _ (h v' w' h2 h3 h4)
end

theorem own_src {w : World} {base : Nat} {e : TypeId} {size : Nat} {v : Value} {n : Nat} {xs : List Value} (h : w.ownsRow base e size v n xs) : SrcC w size v n xs := by
  obtain ⟨hl, h2⟩ := h
  rcases h2 with ⟨rfl, rfl⟩ | ⟨g, cap, cur, rfl, hb, hh, hn, hcap, hsz, ht⟩
  · exact .inl ⟨rfl, rfl, by simpa using hl⟩
  · refine .inr ⟨_, _, rfl, hl, fun j u hu => World.news_of_block hh j u ?_⟩
    rw [← ht, List.getElem?_take] at hu
    split at hu
    · exact hu
    · cases hu
theorem blk_src {w : World} {g : Nat} {cs : Array Value} {t : TypeId} {size m c : Nat} (h : w.heap[g]? = some (.cells cs t (0, 0))) (hm : cs.size = m * size) : SrcC w size (.slice (some ⟨g, 0, none⟩) m c) m cs.toList :=
  .inr ⟨_, _, rfl, by simpa using hm, World.news_of_block h⟩
theorem own_zero {w : World} {g base : Nat} {e : TypeId} {size : Nat} (h : w.heap[g]? = some (.cells #[] e (0, 0))) (hb : base ≤ g) : w.ownsRow base e size (.slice (some ⟨g, 0, none⟩) 0 0) 0 [] :=
  ⟨by simp, .inr ⟨g, 0, #[], rfl, hb, h, Nat.le_refl _, by simp [maxLen], by simp, by simp⟩⟩
theorem grown_below {B : Nat} {w0 w w' : World} {row : Option Nat} (h : Below B w0 w) (hs : B ≤ w.heap.size) (hg : w.grownBy w' row) (hr : ∀ k, row = some k → B ≤ k) : Below B w0 w' :=
  ⟨hg.os.trans h.os, hg.tape.trans h.tape, hg.output.trans h.output, Nat.le_trans h.size hg.size, fun k hk => (hg.block k (by omega) (fun e => by have := hr k e.symm; omega)).trans (h.block k hk)⟩
theorem grown_tch {w wz w' : World} {row : Option Nat} (hb : Below w.heap.size w wz) (hg : wz.grownBy w' row) : Tch (fun i => row = some i) w w' :=
  ⟨hg.os.trans hb.os, hg.tape.trans hb.tape, hg.output.trans hb.output, Nat.le_trans hb.size hg.size, fun i hi hn => (hg.block i (Nat.lt_of_lt_of_le hi hb.size) (fun e => hn e.symm)).trans (hb.block i hi)⟩
theorem grown_blk {w w' : World} {row : Option Nat} (hg : w.grownBy w' row) {i : Nat} {o : Obj} (h : w.heap[i]? = some o) (hn : some i ≠ row) : w'.heap[i]? = some o := (hg.block i (blk_lt h) hn).trans h
theorem own_base {w : World} {base : Nat} {e : TypeId} {size : Nat} {v : Value} {n : Nat} {xs : List Value} (h : w.ownsRow base e size v n xs) : ∀ k, v.ownBlock = some k → base ≤ k := by
  intro k hk
  rcases h.2 with ⟨rfl, _⟩ | ⟨g, cap, cur, rfl, hb, _⟩
  · simp [Value.ownBlock] at hk
  · simp [Value.ownBlock] at hk; omega
theorem own_keep {w w' : World} {base : Nat} {e : TypeId} {size : Nat} {v : Value} {n : Nat} {xs : List Value} (h : w.ownsRow base e size v n xs) (hb : Below w.heap.size w w') : w'.ownsRow base e size v n xs := by
  obtain ⟨hl, h2⟩ := h
  refine ⟨hl, ?_⟩
  rcases h2 with h2 | ⟨g, cap, cur, e1, hbb, hh, r⟩
  · exact .inl h2
  · exact .inr ⟨g, cap, cur, e1, hbb, (hb.block g (blk_lt hh)).trans hh, r⟩
/-- a row that is not touched -/
theorem own_far {w w' : World} {base : Nat} {e : TypeId} {size : Nat} {v : Value} {n : Nat} {xs : List Value} {S : Nat → Prop} (h : w.ownsRow base e size v n xs) (ht : Tch S w w') (hn : ∀ g cs, w.heap[g]? = some (.cells cs e (0, 0)) → ¬ S g) : w'.ownsRow base e size v n xs := by
  obtain ⟨hl, h2⟩ := h
  refine ⟨hl, ?_⟩
  rcases h2 with h2 | ⟨g, cap, cur, e1, hbb, hh, r⟩
  · exact .inl h2
  · exact .inr ⟨g, cap, cur, e1, hbb, ht.blk hh (hn g cur hh), r⟩
theorem own_low {w : World} {base base' : Nat} {e : TypeId} {size : Nat} {v : Value} {n : Nat} {xs : List Value} (h : w.ownsRow base e size v n xs) (hb : base' ≤ base) : w.ownsRow base' e size v n xs := by
  obtain ⟨hl, h2⟩ := h
  refine ⟨hl, ?_⟩
  rcases h2 with h2 | ⟨g, cap, cur, e1, hbb, r⟩
  · exact .inl h2
  · exact .inr ⟨g, cap, cur, e1, Nat.le_trans hb hbb, r⟩

/-- a row of strings, as a list of strings -/
abbrev RowS (w : World) (v : Value) (l : List ByteArray) : Prop := w.ownsRow 0 9 1 v l.length (l.map Value.string)
theorem C_nil (w : World) : Kd.string.C w none 0 [] := ⟨rfl, by simp, fun h => by simp at h⟩
theorem RowS.C {w : World} {v : Value} {l : List ByteArray} (h : RowS w v l) : ∃ A c, v = .slice A l.length c ∧ l.length ≤ c ∧ c ≤ maxLen ∧ Kd.string.C w A l.length l := by
  obtain ⟨hl, h2⟩ := h
  rcases h2 with ⟨rfl, h0⟩ | ⟨g, cap, cur, rfl, hbb, hh, hn, hcap, hsz, ht⟩
  · obtain rfl : l = [] := List.length_eq_zero_iff.1 h0
    exact ⟨none, 0, rfl, Nat.le_refl _, by simp [maxLen], C_nil w⟩
  · refine ⟨_, _, rfl, hn, hcap, rfl, by unfold maxLen at hcap; omega, fun _ => ⟨_, rfl, fun j p hp => ⟨[.string p], rfl, rfl, fun i u hu => ?_⟩⟩⟩
    match i, hu with
    | 0, hu =>
      simp only [List.getElem?_cons_zero, Option.some.injEq] at hu
      subst hu
      rw [add_plain, blk_cell hh]
      have hz : j * Kd.string.sz + 0 = j := Nat.mul_one j
      rw [hz]
      have hj : j < l.length := (List.getElem?_eq_some_iff.1 hp).1
      have : (cur.toList.take (l.length * 1))[j]? = cur.toList[j]? := by rw [List.getElem?_take]; simp [hj]
      rw [ht] at this
      rw [← Array.getElem?_toList, ← this]
      simp [hp]
end Go.Proofs.YtjjnjnnfebifnaaGreatDoor.Rn
namespace Go.Proofs.YtjjnjnnfebifnaaGreatDoor.Rn
open Go.RowKit Go.Proofs.YtjjnjnnfebifnaaGreatDoorW.PrintWords Go.Proofs.YtjjnjnnfebifnaaGreatDoorW.PrintLast Go.Proofs.YtjjnjnnfebifnaaGreatDoor.PReachNormal

theorem und22 : Tryz.prog.underlying 22 = some (.slice 9) := by kernel_rfl
theorem und45 : Tryz.prog.underlying 45 = some (.slice 49) := by kernel_rfl
noncomputable abbrev i9 : TypeInfo := (Tryz.prog.info? 9).getD default
theorem hi9 : Tryz.prog.info? 9 = some i9 := by kernel_rfl
noncomputable abbrev i49 : TypeInfo := (Tryz.prog.info? 49).getD default
theorem hi49 : Tryz.prog.info? 49 = some i49 := by kernel_rfl
theorem i9_z : i9.zero = some (.string ⟨#[]⟩) := by kernel_rfl
theorem i9_s : i9.size = 1 := by kernel_rfl
theorem i9_b : i9.bytes = 16 := by kernel_rfl
theorem i49_z : i49.zero = some (.agg #[.string ⟨#[]⟩, .int .i64 0]) := by kernel_rfl
theorem i49_c : (Value.agg #[.string ⟨#[]⟩, .int .i64 0]).cells.size = 2 := by simp [Value.cells]
theorem i49_s : i49.size = 2 := by kernel_rfl
theorem i49_b : i49.bytes = 24 := by kernel_rfl

/-- the cells of a list of names with their numbers -/
def symC : List Sym → List Value
  | [] => []
  | (s, a) :: l => .string s :: .int .i64 a :: symC l
theorem symC_app : ∀ (l m : List Sym), symC (l ++ m) = symC l ++ symC m
  | [], m => rfl
  | (s, a) :: l, m => by simp [symC, symC_app l m]
theorem symC_len : ∀ l : List Sym, (symC l).length = l.length * 2
  | [] => rfl
  | (s, a) :: l => by simp [symC, symC_len l]; omega
abbrev RowY (w : World) (base : Nat) (v : Value) (O : List Sym) : Prop := w.ownsRow base 49 2 v O.length (symC O)

theorem last_none (bd : List Sym) (n : ByteArray) : memB n (bd.map (·.1)) = (last? bd n).isSome := by
  unfold last?
  induction bd with
  | nil => rfl
  | cons p l ih =>
    obtain ⟨s, a⟩ := p
    simp only [List.map_cons, List.filter_cons]
    by_cases h : s = n
    · subst h; simp [memB]
    · have : memB n (s :: l.map (·.1)) = memB n (l.map (·.1)) := by simp [memB, h]
      rw [this, ih]; simp [h]

theorem occs_zero {x : S25} {bd : List Sym} (h : (x.f0 == 0) = true) (hl : memB x.f2 (bd.map (·.1)) = false) : occs x bd = [(x.f2, (x.f4.length : Int))] := by
  obtain ⟨k, a, n, vs, ar, ks⟩ := x
  simp only [beq_iff_eq] at h
  rw [last_none] at hl
  simp only [Option.isSome_eq_false_iff, Option.isNone_iff_eq_none] at hl
  unfold occs
  rw [if_pos ⟨h, hl⟩]
theorem occs_kids {x : S25} {bd : List Sym} (h : (x.f0 == 0) = false ∨ memB x.f2 (bd.map (·.1)) = true) : occs x bd = occsL x.f5 (under x bd) := by
  obtain ⟨k, a, n, vs, ar, ks⟩ := x
  conv => lhs; unfold occs
  rw [if_neg]
  rintro ⟨h1, h2⟩
  rcases h with h | h
  · rw [beq_eq_false_iff_ne] at h; exact h h1
  · rw [last_none] at h; simp only at h; rw [h2] at h; cases h
theorem occsL_at {l : List S25} {k : Nat} {y : S25} {bd : List Sym} (h : l[k]? = some y) : occsL (l.drop k) bd = occs y bd ++ occsL (l.drop (k + 1)) bd := by
  rw [drop_at h]; conv => lhs; unfold occsL
theorem under_map {x : S25} {bd : List Sym} : (under x bd).map (·.1) = if bis x then bd.map (·.1) ++ [x.f2] else bd.map (·.1) := by
  unfold under bis
  cases bindsF x <;> simp
mutual
theorem occs_len : ∀ (F : Fm) (bd : List Sym), (occs F bd).length ≤ size F
  | ⟨k, a, n, vs, ar, ks⟩, bd => by
    unfold occs size
    split
    · simp
    · have := occs_lenL ks (under ⟨k, a, n, vs, ar, ks⟩ bd); omega
theorem occs_lenL : ∀ (l : List Fm) (bd : List Sym), (occsL l bd).length ≤ sizeL l
  | [], bd => by unfold occsL; simp
  | f :: l, bd => by
    unfold occsL sizeL
    have h1 := occs_len f bd
    have h2 := occs_lenL l bd
    simp; omega
end
end Go.Proofs.YtjjnjnnfebifnaaGreatDoor.Rn
namespace Go.Proofs.YtjjnjnnfebifnaaGreatDoor.Rn
open Go.RowKit Go.Proofs.YtjjnjnnfebifnaaGreatDoorW.PrintWords Go.Proofs.YtjjnjnnfebifnaaGreatDoorW.PrintLast Go.Proofs.YtjjnjnnfebifnaaGreatDoor.PReachNormal

def OccR (N : Nat) : Prop := ∀ (x : S25) (bd : List Sym) (bv ov : Value) (O : List Sym) (base : Nat) (A3 : Option Addr) (c3 : Nat) (A4 : Option Addr) (c4 : Nat) (A5 : Option Addr) (c5 : Nat) (w0 w : World), size x ≤ N → fine x = true → Lay w0 x A3 c3 A4 c4 A5 c5 → Below w0.heap.size w0 w → w0.heap.size ≤ base → base ≤ w.heap.size →
    RowS w bv (bd.map (·.1)) → RowY w base ov O → bd.length + size x ≤ 100000 → O.length + size x ≤ 100000 →
    Calls Tryz.prog 52 #[ag x A3 c3 A4 c4 A5 c5, bv, ov] w fun e w' => ∃ ov', e = .returned ov' ∧ RowY w' base ov' (O ++ occs x bd) ∧ Tch (fun i => ov.ownBlock = some i) w w' ∧ (∀ k, ov'.ownBlock = some k → ov.ownBlock = some k ∨ w.heap.size ≤ k)

set_option maxHeartbeats 4000000 in
set_option maxRecDepth 100000 in
theorem occ_leaf (x : S25) (bd : List Sym) (bv ov : Value) (O : List Sym) (base : Nat) (A3 : Option Addr) (c3 : Nat) (A4 : Option Addr) (c4 : Nat) (A5 : Option Addr) (c5 : Nat) (w : World) (hf : fine x = true) (hbs : base ≤ w.heap.size)
    (hB : RowS w bv (bd.map (·.1))) (hO : RowY w base ov O) (hbl : bd.length ≤ 100000) (hol : O.length < 100000) (e0 : (x.f0 == 0) = true) (hm : memB x.f2 (bd.map (·.1)) = false) :
    Calls Tryz.prog 52 #[ag x A3 c3 A4 c4 A5 c5, bv, ov] w fun e w' => ∃ ov', e = .returned ov' ∧ RowY w' base ov' (O ++ occs x bd) ∧ Tch (fun i => ov.ownBlock = some i) w w' ∧ (∀ k, ov'.ownBlock = some k → ov.ownBlock = some k ∨ w.heap.size ≤ k) := by
  have hu25 := Tryz.underlying25
  have hl4 : x.f4.length ≤ 12000 := (fine_len hf).2.2.1
  have hLl : (bd.map (·.1)).length ≤ 100000 := by rw [List.length_map]; exact hbl
  have HOC := Aside0.mk (occs_zero e0 hm)
  generalize hLn : bd.map (·.1) = L at hB hm hLl
  clear hLn hbl
  obtain ⟨A, c, rfl, hcl, hcm, hC⟩ := RowS.C (own_keep hB (bel_a w (bx x A3 c3 A4 c4 A5 c5)))
  have HAM := Aside0.mk (among_calls A c L x.f2 (w.alloc (bx x A3 c3 A4 c4 A5 c5)) (by omega) hC)
  have HO := Aside0.mk hO
  rw [hm] at HAM
  have HBW := Aside0.mk (below_alloc (bel_a w (bx x A3 c3 A4 c4 A5 c5)) (.cells #[.string x.f2, .int .i64 x.f4.length] 49))
  clear hB hC hO hf
  have HSC := Aside0.mk (blk_src (size := 2) (m := 1) (c := 1) (two_new w (bx x A3 c3 A4 c4 A5 c5) (.cells #[.string x.f2, .int .i64 x.f4.length] 49)) rfl)
  go_enter Tryz.func52, Tryz.ntmps52
  go_wp2_with (first
    | (go_at_call 54; with_reducible refine HAM.out.mono ?_; rintro e w1 ⟨rfl, hw⟩; obtain rfl := hw.symm)
    | (at_builtin; (refine wpList_append_src _ (by rfl) _ _ _ (by rfl) base 49 i49 _ 2 24 und45 hi49 i49_z i49_s i49_b i49_c (by omega) ov O.length (symC O) (by rfl) (own_keep HO.out HBW.out) _ 1 [.string x.f2, .int .i64 x.f4.length] (by rfl) HSC.out (by simp [Value.oneCell']) (by unfold maxLen; omega) (by omega) (by simp; omega) ?_; intro v' w' hv hg hat)))
  go_ret
  refine ⟨v', rfl, ?_, grown_tch HBW.out hg, ?_⟩
  · rw [HOC.out]
    show World.ownsRow _ _ _ _ _ _ _
    rw [List.length_append, symC_app]
    exact hv
  · intro k hk
    rcases hat with h | h
    · exact .inl (h ▸ hk)
    · right
      rw [h] at hk
      have := HBW.out.size
      simp only [Option.some.injEq] at hk
      omega

theorem own_blk {w : World} {base : Nat} {e : TypeId} {size : Nat} {v : Value} {n : Nat} {xs : List Value} {g : Nat} (h : w.ownsRow base e size v n xs) (hg : v.ownBlock = some g) : ∃ cs, w.heap[g]? = some (.cells cs e (0, 0)) := by
  rcases h.2 with ⟨rfl, _⟩ | ⟨g', cap, cur, rfl, hb, hh, _⟩
  · simp [Value.ownBlock] at hg
  · simp [Value.ownBlock] at hg; subst hg; exact ⟨cur, hh⟩
theorem occ_tch {w wr w3 : World} {ov o : Value} (h : Tch (fun i => ov.ownBlock = some i) w wr) (ho : ∀ k, o.ownBlock = some k → ov.ownBlock = some k ∨ w.heap.size ≤ k) (k : Tch (fun i => o.ownBlock = some i) wr w3) : Tch (fun i => ov.ownBlock = some i) w w3 :=
  ⟨k.os.trans h.os, k.tape.trans h.tape, k.output.trans h.output, Nat.le_trans h.size k.size, fun i hi hn => (k.block i (Nat.lt_of_lt_of_le hi h.size) (fun e => by rcases ho i e with e | e; exact hn e; omega)).trans (h.block i hi hn)⟩
theorem size_eqF (x : S25) : size x = 1 + sizeL x.f5 := by cases x; conv => lhs; unfold size
theorem sizeL_drop' {l : List Fm} {k : Nat} {y : Fm} (h : l[k]? = some y) : sizeL (l.drop k) = size y + sizeL (l.drop (k + 1)) := by
  rw [drop_at h]; conv => lhs; unfold sizeL

theorem rowS_snoc {w : World} {base : Nat} {v : Value} {L : List ByteArray} {s : ByteArray} (h : w.ownsRow base 9 1 v (0 + L.length + 1) ([] ++ L.map Value.string ++ [.string s])) : RowS w v (L ++ [s]) := by
  have := own_low h (Nat.zero_le _)
  show World.ownsRow _ _ _ _ _ _ _
  rw [List.length_append, List.map_append]
  simpa using this

set_option maxHeartbeats 4000000 in
set_option maxRecDepth 100000 in
theorem occ_rest (N : Nat) (IH : OccR N) (x : S25) (bd : List Sym) (bv ov : Value) (O : List Sym) (base : Nat) (A3 : Option Addr) (c3 : Nat) (A4 : Option Addr) (c4 : Nat) (A5 : Option Addr) (c5 : Nat) (w0 w : World) (hn : size x ≤ N + 1) (hf : fine x = true) (hL : Lay w0 x A3 c3 A4 c4 A5 c5) (hB0 : Below w0.heap.size w0 w) (hb1 : w0.heap.size ≤ base) (hbs : base ≤ w.heap.size)
    (hB : RowS w bv (bd.map (·.1))) (hO : RowY w base ov O) (hbl : bd.length + size x ≤ 100000) (hol : O.length + size x ≤ 100000) (hcase : (x.f0 == 0) = false ∨ memB x.f2 (bd.map (·.1)) = true) :
    Calls Tryz.prog 52 #[ag x A3 c3 A4 c4 A5 c5, bv, ov] w fun e w' => ∃ ov', e = .returned ov' ∧ RowY w' base ov' (O ++ occs x bd) ∧ Tch (fun i => ov.ownBlock = some i) w w' ∧ (∀ k, ov'.ownBlock = some k → ov.ownBlock = some k ∨ w.heap.size ≤ k) := by
  have hu25 := Tryz.underlying25
  have HF := Aside0.mk hf
  have HL := Aside0.mk hL
  have HN := Aside0.mk hn
  have IH := Aside0.mk IH
  have HB0 := Aside0.mk hB0
  have HO := Aside0.mk hO
  have HOK := Aside0.mk (occs_kids hcase)
  have HLN := Aside0.mk (And.intro hbl hol)
  have hLl : (bd.map (·.1)).length ≤ 100000 := by rw [List.length_map]; omega
  have HUM := Aside0.mk (under_map (x := x) (bd := bd))
  generalize hLn : bd.map (·.1) = L at hB hcase hLl HUM
  have HBV := Aside0.mk hB
  obtain ⟨A, c, rfl, hcl, hcm, hC⟩ := RowS.C (own_keep hB (bel_a w (bx x A3 c3 A4 c4 A5 c5)))
  have HAM := Aside0.mk (among_calls A c L x.f2 (w.alloc (bx x A3 c3 A4 c4 A5 c5)) (by omega) hC)
  have HX := Aside0.mk (blk_new w (bx x A3 c3 A4 c4 A5 c5))
  have HB := Aside0.mk (bel_a w (bx x A3 c3 A4 c4 A5 c5))
  have hl5 : x.f5.length ≤ 12000 := (fine_len hf).2.2.2
  clear hf hL hn hB0 hO hbl hol hB hC hLn
  go_enter Tryz.func52, Tryz.ntmps52
  go_upto_region 1 with fail
  generalize w.alloc (bx x A3 c3 A4 c4 A5 c5) = W1 at HX HB HAM ⊢
  have a0 := (blk_cell HX.out 0).trans rfl
  have a1 := (blk_cell HX.out 1).trans rfl
  have a2 := (blk_cell HX.out 2).trans rfl
  have a3 := (blk_cell HX.out 3).trans rfl
  have a4 := (blk_cell HX.out 4).trans rfl
  have a5 := (blk_cell HX.out 5).trans rfl
  go_cut [19] from 10 (fun v wc => v = .bool false ∧ wc = W1)
  case first =>
    rcases hcase with hq | hq
    · go_wp2_with fail
      go_meet
      exact ⟨rfl, rfl⟩
    · rw [hq] at HAM
      cases e0 : (x.f0 == 0)
      · go_wp2_with fail
        go_meet
        exact ⟨rfl, rfl⟩
      · go_wp2_with (first
          | (go_at_call 54; with_reducible refine HAM.out.mono ?_; rintro e w1 ⟨rfl, hw⟩; obtain rfl := hw.symm))
        go_meet
        exact ⟨rfl, rfl⟩
  case rest =>
    obtain ⟨rfl, rfl⟩ := hcut
    clear HAM
    go_upto_region 4 with (first
      | (go_at_call 111; with_reducible refine (rbinds_calls x A3 c3 A4 c4 A5 c5 _).mono ?_; rintro e w1 ⟨rfl, hb⟩; have HB1 := Aside0.mk hb; clear hb))
    have HX1 := Aside0.mk (blk_below HX.out HB1.out)
    have HBB := Aside0.mk (below_step HB.out HB1.out)
    have HBV1 := Aside0.mk (own_keep HBV.out HBB.out)
    clear HX HB HB1 a0 a1 a2 a3 a4 a5 HBV
    have HUL := Aside0.mk (show (under x bd).length ≤ bd.length + 1 by unfold under; cases bindsF x <;> simp)
    generalize hU : under x bd = U at HUM HOK HUL
    go_upto_if 34 with fail
    go_cut [1, 7] from 10 (fun v1 v7 wc => Aside0 (RowS wc v1 (U.map (·.1))) ∧ Aside0 (Below w1.heap.size w1 wc))
    case first =>
      cases hbis : bis x
      · have HU := Aside0.mk (show U.map (·.1) = L by rw [HUM.out, hbis]; rfl)
        go_wp2_with fail
        go_meet
        exact ⟨⟨by rw [HU.out]; exact HBV1.out⟩, ⟨Below.refl _ _⟩⟩
      · have HU := Aside0.mk (show U.map (·.1) = L ++ [x.f2] by rw [HUM.out, hbis]; rfl)
        go_upto_region 5 with fail
        have HSk := Aside0.mk (fun (w' : World) (h : Below w1.heap.size w1 w') => (blk_cell (blk_below HX1.out h) 2).trans (rfl : _ = some (Value.string x.f2)))
        have BD := Aside0.mk ((Below.refl w1.heap.size w1).drew)
        have B_0 := Aside0.mk ((bel_a w1 (.cells #[] 9)).drew)
        have B_5 := Aside0.mk ((bel_a w1 (.cells #[.string x.f2] 9)).drew)
        have B_05 := Aside0.mk ((below_alloc (bel_a w1 (.cells #[] 9)) (.cells #[.string x.f2] 9)).drew)
        have B_50 := Aside0.mk ((below_alloc (bel_a w1 (.cells #[.string x.f2] 9)) (.cells #[] 9)).drew)
        have F_0 : Aside0 (((w1.alloc (.cells #[] 9)).drew).heap[w1.heap.size]? = some (.cells #[] 9 (0, 0))) := ⟨(blk_new w1 (.cells #[] 9) : _)⟩
        have F_05 : Aside0 ((((w1.alloc (.cells #[] 9)).alloc (.cells #[.string x.f2] 9)).drew).heap[w1.heap.size]? = some (.cells #[] 9 (0, 0))) := ⟨(blk_below (blk_new w1 (.cells #[] 9)) (bel_a (w1.alloc (.cells #[] 9)) (.cells #[.string x.f2] 9)) : _)⟩
        have F_50 : Aside0 ((((w1.alloc (.cells #[.string x.f2] 9)).alloc (.cells #[] 9)).drew).heap[w1.heap.size + 1]? = some (.cells #[] 9 (0, 0))) := ⟨(two_new w1 (.cells #[.string x.f2] 9) (.cells #[] 9) : _)⟩
        have G_05 : Aside0 ((((w1.alloc (.cells #[] 9)).alloc (.cells #[.string x.f2] 9)).drew).heap[w1.heap.size + 1]? = some (.cells #[.string x.f2] 9)) := ⟨(two_new w1 (.cells #[] 9) (.cells #[.string x.f2] 9) : _)⟩
        have G_50 : Aside0 ((((w1.alloc (.cells #[.string x.f2] 9)).alloc (.cells #[] 9)).drew).heap[w1.heap.size]? = some (.cells #[.string x.f2] 9)) := ⟨(blk_below (blk_new w1 (.cells #[.string x.f2] 9)) (bel_a (w1.alloc (.cells #[.string x.f2] 9)) (.cells #[] 9)) : _)⟩
        refine wp_noexit ?_
        go_region_held_law (fun w' => w'.cell? ⟨w.heap.size, 2, none⟩ = some (.string x.f2))
          (first | with_reducible exact HSk.out _ BD.out | with_reducible exact HSk.out _ B_0.out | with_reducible exact HSk.out _ B_5.out | with_reducible exact HSk.out _ B_05.out | with_reducible exact HSk.out _ B_50.out | with_reducible exact HSk.out _ hB1 | with_reducible exact HSk.out _ (below_alloc hB1 _) | with_reducible exact HSk.out _ hB2)
          (first
            | ((refine step_append_src _ (by rfl) (.tmp 35) (.tmp 36) 22 (by rfl) w1.heap.size 9 i9 _ 1 16 und22 hi9 i9_z i9_s i9_b (by simp [Value.cells]) (by omega) _ 0 [] (by rfl) (own_zero (by first | with_reducible exact F_0.out | with_reducible exact F_05.out | with_reducible exact F_50.out) (by omega)) _ L.length (L.map Value.string) (by rfl) (own_src (own_keep HBV1.out (by first | with_reducible exact B_0.out | with_reducible exact B_05.out | with_reducible exact B_50.out))) (by simp [Value.oneCell']) (by unfold maxLen; omega) (by omega) (by first | with_reducible exact B_0.out.size | with_reducible exact B_05.out.size | with_reducible exact B_50.out.size) ?_
                intro v1 w2 hv1 hg1 ha1
                have hB1 := grown_below (B := w1.heap.size) (w0 := w1) (by first | with_reducible exact B_0.out | with_reducible exact B_05.out | with_reducible exact B_50.out) (by first | with_reducible exact B_0.out.size | with_reducible exact B_05.out.size | with_reducible exact B_50.out.size) hg1 (fun k hk => by simp [Value.ownBlock] at hk; omega)
                (first
                  | have hS5 := (grown_blk hg1 G_05.out (by simp [Value.ownBlock]))
                  | have hS5 := (grown_blk hg1 G_50.out (by simp [Value.ownBlock]))
                  | skip)))
            | ((refine step_append_src _ (by rfl) (.tmp 37) (.tmp 40) 22 (by rfl) w1.heap.size 9 i9 _ 1 16 und22 hi9 i9_z i9_s i9_b (by simp [Value.cells]) (by omega) v1 (0 + L.length) ([] ++ L.map Value.string) (by rfl) (by first | with_reducible exact hv1 | with_reducible exact own_keep hv1 (bel_a _ _)) _ 1 [.string x.f2] (by rfl) (by first | exact blk_src hS5 rfl | exact blk_src (blk_new w2 _) rfl) (by simp [Value.oneCell']) (by unfold maxLen; omega) (by omega) (by first | with_reducible exact hB1.size | with_reducible exact (below_alloc hB1 _).size) ?_
                intro v3 w3 hv3 hg3 ha3
                have hB2 := grown_below (B := w1.heap.size) (w0 := w1) (by first | with_reducible exact hB1 | with_reducible exact below_alloc hB1 _) (by first | with_reducible exact hB1.size | with_reducible exact (below_alloc hB1 _).size) hg3 (own_base hv1))))
        all_goals simp only [Act.put, List.getElem_toArray, List.getElem_cons_succ, List.getElem_cons_zero, List.setIfInBounds_toArray, List.set_cons_zero, List.set_cons_succ]
        all_goals go_wp2_with fail
        all_goals go_meet
        all_goals exact ⟨⟨by rw [HU.out]; exact rowS_snoc hv3⟩, ⟨hB2⟩⟩
    case rest =>
      obtain ⟨HV1, HBc⟩ := hcut
      have HX2 := Aside0.mk (blk_below HX1.out HBc.out)
      have HB2 := Aside0.mk (below_step HBB.out HBc.out)
      have HO2 := Aside0.mk (own_keep HO.out HB2.out)
      clear HX1 HBB HBV1 HBc HUM
      go_wp2_with fail
      go_loopw [2, 9] (fun o i wr => ∃ (k : Nat) (O' : List Sym), k ≤ x.f5.length ∧ i = .int .i64 k ∧ Aside0 (RowY wr base o O') ∧ Aside0 (O ++ occs x bd = O' ++ occsL (x.f5.drop k) U) ∧ Aside0 (O'.length + sizeL (x.f5.drop k) ≤ 100000) ∧ Aside0 (wr.heap[w.heap.size]? = some (bx x A3 c3 A4 c4 A5 c5)) ∧ Aside0 (Tch (fun i => ov.ownBlock = some i) w wr) ∧ Aside0 (∀ k, o.ownBlock = some k → ov.ownBlock = some k ∨ w.heap.size ≤ k) ∧ Aside0 (RowS wr u1 (U.map (·.1)))) (fun _ i _ => x.f5.length - (intOf i).toNat)
      case atStart => exact ⟨0, O, Nat.zero_le _, rfl, HO2, ⟨by rw [List.drop_zero, HOK.out]⟩, ⟨by rw [List.drop_zero]; have := size_eqF x; have := HLN.out.2; omega⟩, HX2, ⟨Tch.of_below HB2.out⟩, ⟨fun k hk => .inl hk⟩, HV1⟩
      case round =>
        clear HX2 HO2 HV1 HB2
        obtain ⟨k, O', hk, rfl, HRY, HE, HLE, HX, HT, HOW, HV1⟩ := hrel
        have a5 := (blk_cell HX.out 5).trans rfl
        by_cases hlt : k < x.f5.length
        · have hbw := Tch.below HB0.out HT.out (fun i e => by have := own_base HO.out i e; omega)
          obtain ⟨y, ad, B3, e3, B4, e4, B5, e5, hx, rfl, h0, h1, h2, h3, h4, h5, hLy⟩ := kid_at HL.out.g5 k hlt
          replace h0 := (hbw.cell (World.block_lt_of_cell? _ _ h0)).trans h0
          replace h1 := (hbw.cell (World.block_lt_of_cell? _ _ h1)).trans h1
          replace h2 := (hbw.cell (World.block_lt_of_cell? _ _ h2)).trans h2
          replace h3 := (hbw.cell (World.block_lt_of_cell? _ _ h3)).trans h3
          replace h4 := (hbw.cell (World.block_lt_of_cell? _ _ h4)).trans h4
          replace h5 := (hbw.cell (World.block_lt_of_cell? _ _ h5)).trans h5
          have HXX := Aside0.mk hx
          have hy := List.mem_of_getElem? hx
          have hsz := sizeL_drop' hx
          have hsm := size_mem hy
          have hsd : size y ≤ sizeL (x.f5.drop k) := by omega
          have HIH := Aside0.mk (IH.out y U u1 _ O' base B3 e3 B4 e4 B5 e5 w0 wr (by have := HN.out; omega) (fine_mem HF.out hy) hLy hbw hb1 (by have := HT.out.size; omega) HV1.out HRY.out (by have := HLN.out.1; have := HUL.out; omega) (by have := HLE.out; omega))
          have HSZ := Aside0.mk hsz
          clear hx hy hLy hbw hsz hsm hsd
          go_wp2_with (first
            | (go_at_call 52; with_reducible refine HIH.out.mono ?_; rintro e w3 ⟨ov2, rfl, hp⟩; have HP := Aside0.mk hp; clear hp))
          obtain ⟨p1, p2, p3⟩ := HP.out
          have q1 := p2.blk HX.out (fun e => by obtain ⟨cs, hc⟩ := own_blk HRY.out e; rw [HX.out] at hc; simp at hc)
          have q2 := occ_tch HT.out HOW.out p2
          have q3 := own_far HV1.out p2 (fun g cs h e => by obtain ⟨cs', hc⟩ := own_blk HRY.out e; rw [h] at hc; simp at hc)
          exact ⟨⟨k + 1, O' ++ occs y U, by omega, by go_num, ⟨p1⟩, ⟨by rw [HE.out, occsL_at HXX.out, List.append_assoc]⟩, ⟨by rw [List.length_append]; have := occs_len y U; have := HSZ.out; have := HLE.out; omega⟩, ⟨q1⟩, ⟨q2⟩,
            ⟨fun k' hk' => by
              rcases p3 k' hk' with h | h
              · exact HOW.out k' h
              · right; have := HT.out.size; omega⟩, ⟨q3⟩⟩, by simp [intOf]; omega⟩
        · go_wp2_with fail
          go_ret
          exact ⟨_, rfl, by rw [HE.out, List.drop_eq_nil_of_le (by omega)]; simpa [occsL] using HRY.out, HT.out, HOW.out⟩

theorem occ_calls (N : Nat) : OccR N := by
  induction N with
  | zero => intro x bd bv ov O base A3 c3 A4 c4 A5 c5 w0 w hn; cases x; unfold size at hn; omega
  | succ N ih =>
    intro x bd bv ov O base A3 c3 A4 c4 A5 c5 w0 w hn hf hL hB0 hb1 hbs hB hO hbl hol
    have hs := size_eqF x
    cases e0 : (x.f0 == 0)
    · exact occ_rest N ih x bd bv ov O base A3 c3 A4 c4 A5 c5 w0 w hn hf hL hB0 hb1 hbs hB hO hbl hol (.inl e0)
    · cases hm : memB x.f2 (bd.map (·.1))
      · exact occ_leaf x bd bv ov O base A3 c3 A4 c4 A5 c5 w hf hbs hB hO (by omega) (by omega) e0 hm
      · exact occ_rest N ih x bd bv ov O base A3 c3 A4 c4 A5 c5 w0 w hn hf hL hB0 hb1 hbs hB hO hbl hol (.inr hm)
end Go.Proofs.YtjjnjnnfebifnaaGreatDoor.Rn
namespace Go.Proofs.YtjjnjnnfebifnaaGreatDoor.Rn
open Go.RowKit Go.Proofs.YtjjnjnnfebifnaaGreatDoorW.PrintWords Go.Proofs.YtjjnjnnfebifnaaGreatDoorW.PrintLast Go.Proofs.YtjjnjnnfebifnaaGreatDoor.PReachNormal

theorem symC_one : ∀ (l : List Sym), ∀ u ∈ symC l, u.oneCell' = true
  | [], u, h => by cases h
  | (s, a) :: l, u, h => by
    simp only [symC, List.mem_cons] at h
    rcases h with rfl | rfl | h
    · simp [Value.oneCell']
    · simp [Value.oneCell']
    · exact symC_one l u h
theorem symC_get : ∀ (l : List Sym) (k : Nat) (s : ByteArray) (a : Int), l[k]? = some (s, a) → (symC l)[k * 2]? = some (.string s) ∧ (symC l)[k * 2 + 1]? = some (.int .i64 a)
  | [], k, s, a, h => by simp at h
  | (s', a') :: l, 0, s, a, h => by simp at h; obtain ⟨rfl, rfl⟩ := h; simp [symC]
  | (s', a') :: l, k + 1, s, a, h => by
    have := symC_get l k s a (by simpa using h)
    rw [show (k + 1) * 2 = k * 2 + 1 + 1 by omega]
    simp only [symC, List.getElem?_cons_succ]
    exact this
theorem sym_at {w : World} {base : Nat} {v : Value} {bd : List Sym} (h : RowY w base v bd) (k : Nat) (hk : k < bd.length) :
    ∃ (ad : Addr) (cap : Nat) (s : ByteArray) (a : Int), v = .slice (some ad) bd.length cap ∧ bd.length ≤ cap ∧ bd[k]? = some (s, a) ∧ w.cell? (ad.add (k * 2)) = some (.string s) ∧ w.cell? ⟨(ad.add (k * 2)).block, (ad.add (k * 2)).off + 1, none⟩ = some (.int .i64 a) := by
  have hs := own_src h
  rcases hs with ⟨_, h0, _⟩ | ⟨ad, c, e, hl, hc⟩
  · omega
  · obtain ⟨⟨s, a⟩, hx⟩ : ∃ y, bd[k]? = some y := ⟨bd[k], List.getElem?_eq_getElem hk⟩
    obtain ⟨g1, g2⟩ := symC_get bd k s a hx
    have hcap : bd.length ≤ c := by
      rcases h.2 with ⟨e', _⟩ | ⟨g, cap, cur, e', _, _, hn, _⟩
      · rw [e] at e'; cases e'
      · rw [e] at e'; simp only [Value.slice.injEq] at e'; omega
    have had : ∃ g, ad = ⟨g, 0, none⟩ := by
      rcases h.2 with ⟨e', _⟩ | ⟨g, cap, cur, e', _, _, hn, _⟩
      · rw [e] at e'; cases e'
      · rw [e] at e'; simp only [Value.slice.injEq, Option.some.injEq] at e'; exact ⟨g, e'.1⟩
    refine ⟨ad, c, s, a, e, hcap, hx, hc _ _ g1, ?_⟩
    have := hc _ _ g2
    have e2 : ad.add (k * 2 + 1) = ⟨(ad.add (k * 2)).block, (ad.add (k * 2)).off + 1, none⟩ := by
      obtain ⟨g, rfl⟩ := had
      rw [add_plain, add_plain]
    rw [e2] at this
    exact this
theorem last_snoc (l : List Sym) (s : ByteArray) (a : Int) (n : ByteArray) : last? (l ++ [(s, a)]) n = if s = n then some a else last? l n := by
  unfold last?
  rw [List.filter_append, List.map_append]
  by_cases h : s = n
  · simp [h]
  · simp [h]
theorem arit_zero {x : S25} {bd : List Sym} (h : (x.f0 == 0) = true) : arit x bd = (match last? bd x.f2 with | some m => decide (m = x.f4.length) | none => true) := by
  obtain ⟨k, a, n, vs, ar, ks⟩ := x
  simp only [beq_iff_eq] at h
  conv => lhs; unfold arit
  rw [if_pos h]
  rfl
theorem arit_kids {x : S25} {bd : List Sym} (h : (x.f0 == 0) = false) : arit x bd = aritL x.f5 (under x bd) := by
  obtain ⟨k, a, n, vs, ar, ks⟩ := x
  simp only [beq_eq_false_iff_ne] at h
  conv => lhs; unfold arit
  rw [if_neg h]
theorem aritL_at {l : List S25} {k : Nat} {y : S25} {bd : List Sym} (h : l[k]? = some y) : aritL (l.drop k) bd = (arit y bd && aritL (l.drop (k + 1)) bd) := by
  rw [drop_at h]; conv => lhs; unfold aritL
theorem take_sym {l : List Sym} {k : Nat} {y : Sym} (h : l[k]? = some y) : l.take (k + 1) = l.take k ++ [y] := by
  rw [List.take_add_one, h]; rfl

set_option maxHeartbeats 4000000 in
set_option maxRecDepth 100000 in
theorem arit_leaf (x : S25) (bd : List Sym) (bv : Value) (A3 : Option Addr) (c3 : Nat) (A4 : Option Addr) (c4 : Nat) (A5 : Option Addr) (c5 : Nat) (w : World) (hf : fine x = true) (hB : RowY w 0 bv bd) (hbl : bd.length ≤ 100000) (e0 : (x.f0 == 0) = true) :
    Calls Tryz.prog 50 #[ag x A3 c3 A4 c4 A5 c5, bv] w fun e w' => e = .returned (.bool (arit x bd)) ∧ Below w.heap.size w w' := by
  have hu25 := Tryz.underlying25
  have HF := Aside0.mk hf
  have HA := Aside0.mk (arit_zero (bd := bd) e0)
  have HBV := Aside0.mk (own_keep hB (bel_a w (bx x A3 c3 A4 c4 A5 c5)))
  have HX := Aside0.mk (blk_new w (bx x A3 c3 A4 c4 A5 c5))
  have HB := Aside0.mk (bel_a w (bx x A3 c3 A4 c4 A5 c5))
  have hl4 : x.f4.length ≤ 12000 := (fine_len hf).2.2.1
  obtain ⟨A, c, rfl⟩ : ∃ A c, bv = .slice A bd.length c := by
    rcases hB.2 with ⟨rfl, h0⟩ | ⟨g, cap, cur, rfl, _⟩
    · exact ⟨none, 0, by rw [h0]⟩
    · exact ⟨_, _, rfl⟩
  clear hf hB
  go_enter Tryz.func50, Tryz.ntmps50
  go_upto_region 1 with fail
  generalize w.alloc (bx x A3 c3 A4 c4 A5 c5) = W1 at HX HB HBV ⊢
  have a0 := (blk_cell HX.out 0).trans rfl
  go_wp2_with fail
  go_loopw [5] (fun i wr => ∃ k : Nat, k ≤ bd.length ∧ i = .int .i64 ((k : Int) - 1) ∧ Aside0 (Below W1.heap.size W1 wr) ∧ Aside0 (last? bd x.f2 = last? (bd.take k) x.f2)) (fun i _ => (intOf i + 1).toNat)
  case atStart => exact ⟨bd.length, Nat.le_refl _, rfl, ⟨Below.refl _ _⟩, ⟨by rw [List.take_length]⟩⟩
  case round =>
    obtain ⟨k, hk, hi, HW, HI⟩ := hrel
    cases k with
    | zero =>
      have hz : ¬ (0 : Int) ≤ ((0 : Nat) : Int) - 1 := by omega
      subst hi
      go_wp2_with fail
      go_ret
      exact ⟨ret_bool (by rw [HA.out, HI.out]; rfl), below_step HB.out HW.out⟩
    | succ j =>
      rw [show (((j + 1 : Nat)) : Int) - 1 = j by omega] at hi
      subst hi
      obtain ⟨ad, cap, s, a, he, hcap, hx, c1, c2⟩ := sym_at (own_keep HBV.out HW.out) j hk
      simp only [Value.slice.injEq] at he
      obtain ⟨rfl, _, rfl⟩ := he
      have HXX := Aside0.mk hx
      have HX2 := Aside0.mk (blk_below HX.out HW.out)
      have a2 := (blk_cell HX2.out 2).trans rfl
      have a4 := (blk_cell HX2.out 4).trans rfl
      clear hx
      have hj0 : (0 : Int) ≤ j := by omega
      cases hs : (s.toList == x.f2.toList)
      · go_wp2_with fail
        go_quiet (fail)
        go_wp2_with fail
        exact ⟨⟨j, by omega, rfl, ⟨pw_below_drewN HW.out _⟩, ⟨by
          rw [HI.out, take_sym HXX.out, last_snoc]
          rw [bytes_eq] at hs
          simp only [decide_eq_false_iff_not] at hs
          rw [if_neg hs]⟩⟩, by simp [intOf] <;> omega⟩
      · go_wp2_with fail
        go_quiet (fail)
        have HW2 := Aside0.mk (pw_below_drewN HW.out nq)
        have d2 : (wr.drewN nq).cell? ⟨(ad.add (j * 2)).block, (ad.add (j * 2)).off + 1, none⟩ = some (.int .i64 a) := c2
        have d4 : (wr.drewN nq).cell? ⟨w.heap.size, 4, none⟩ = some (.slice A4 x.f4.length c4) := a4
        clear c1 c2 a2 a4 HW HX2
        generalize wr.drewN nq = wq at HW2 d2 d4 ⊢
        go_wp2_with fail
        go_quiet (fail)
        go_wp2_with fail
        go_ret
        exact ⟨ret_bool (by
          rw [HA.out, HI.out, take_sym HXX.out, last_snoc]
          rw [bytes_eq] at hs
          simp only [decide_eq_true_eq] at hs
          rw [if_pos hs]
          rfl), below_step HB.out (pw_below_drewN HW2.out _)⟩

def AriR (N : Nat) : Prop := ∀ (x : S25) (bd : List Sym) (bv : Value) (A3 : Option Addr) (c3 : Nat) (A4 : Option Addr) (c4 : Nat) (A5 : Option Addr) (c5 : Nat) (w : World), size x ≤ N → fine x = true → Lay w x A3 c3 A4 c4 A5 c5 → RowY w 0 bv bd → bd.length + size x ≤ 100000 →
    Calls Tryz.prog 50 #[ag x A3 c3 A4 c4 A5 c5, bv] w fun e w' => e = .returned (.bool (arit x bd)) ∧ Below w.heap.size w w'
theorem rowY_snoc {w : World} {base : Nat} {v : Value} {L : List Sym} {s : ByteArray} {a : Int} (h : w.ownsRow base 49 2 v (0 + L.length + 1) ([] ++ symC L ++ [.string s, .int .i64 a])) : RowY w 0 v (L ++ [(s, a)]) := by
  have := own_low h (Nat.zero_le _)
  show World.ownsRow _ _ _ _ _ _ _
  rw [List.length_append, symC_app]
  simpa [symC] using this

set_option maxHeartbeats 4000000 in
set_option maxRecDepth 100000 in
theorem arit_rest (N : Nat) (IH : AriR N) (x : S25) (bd : List Sym) (bv : Value) (A3 : Option Addr) (c3 : Nat) (A4 : Option Addr) (c4 : Nat) (A5 : Option Addr) (c5 : Nat) (w : World) (hn : size x ≤ N + 1) (hf : fine x = true) (hL : Lay w x A3 c3 A4 c4 A5 c5) (hB : RowY w 0 bv bd) (hbl : bd.length + size x ≤ 100000) (e0 : (x.f0 == 0) = false) :
    Calls Tryz.prog 50 #[ag x A3 c3 A4 c4 A5 c5, bv] w fun e w' => e = .returned (.bool (arit x bd)) ∧ Below w.heap.size w w' := by
  have hu25 := Tryz.underlying25
  have HF := Aside0.mk hf
  have HL := Aside0.mk hL
  have HN := Aside0.mk hn
  have IH := Aside0.mk IH
  have HA := Aside0.mk (arit_kids (bd := bd) e0)
  have HLN := Aside0.mk hbl
  have hLl : bd.length ≤ 100000 := by omega
  have HBV := Aside0.mk hB
  have HX := Aside0.mk (blk_new w (bx x A3 c3 A4 c4 A5 c5))
  have HB := Aside0.mk (bel_a w (bx x A3 c3 A4 c4 A5 c5))
  have hl5 : x.f5.length ≤ 12000 := (fine_len hf).2.2.2
  obtain ⟨A, c, rfl⟩ : ∃ A c, bv = .slice A bd.length c := by
    rcases hB.2 with ⟨rfl, h0⟩ | ⟨g, cap, cur, rfl, _⟩
    · exact ⟨none, 0, by rw [h0]⟩
    · exact ⟨_, _, rfl⟩
  clear hf hL hn hbl hB
  go_enter Tryz.func50, Tryz.ntmps50
  go_upto_region 1 with fail
  generalize w.alloc (bx x A3 c3 A4 c4 A5 c5) = W1 at HX HB ⊢
  have a0 := (blk_cell HX.out 0).trans rfl
  have a1 := (blk_cell HX.out 1).trans rfl
  have a2 := (blk_cell HX.out 2).trans rfl
  have a3 := (blk_cell HX.out 3).trans rfl
  have a4 := (blk_cell HX.out 4).trans rfl
  have a5 := (blk_cell HX.out 5).trans rfl
  go_upto_region 9 with (first
    | (go_at_call 111; with_reducible refine (rbinds_calls x A3 c3 A4 c4 A5 c5 _).mono ?_; rintro e w1 ⟨rfl, hb⟩; have HB1 := Aside0.mk hb; clear hb))
  have HX1 := Aside0.mk (blk_below HX.out HB1.out)
  have HBB := Aside0.mk (below_step HB.out HB1.out)
  have HBV1 := Aside0.mk (own_keep HBV.out HBB.out)
  clear HX HB HB1 a0 a1 a2 a3 a4 a5 HBV
  have HUL := Aside0.mk (show (under x bd).length ≤ bd.length + 1 by unfold under; cases bindsF x <;> simp)
  go_upto_if 41 with fail
  go_cut [1, 6, 7] from 9 (fun v1 v6 v7 wc => Aside0 (RowY wc 0 v1 (under x bd)) ∧ Aside0 (Below w1.heap.size w1 wc))
  case first =>
    cases hbis : bindsF x with
    | none =>
      have hb2 : bis x = false := by unfold bis; rw [hbis]; rfl
      have HU := Aside0.mk (show under x bd = bd by unfold under; rw [hbis])
      clear hbis
      rw [hb2]
      go_wp2_with fail
      go_meet
      exact ⟨⟨by rw [HU.out]; exact HBV1.out⟩, ⟨Below.refl _ _⟩⟩
    | some aa =>
      have hb2 : bis x = true := by unfold bis; rw [hbis]; rfl
      have hb3 : barity x = aa := by unfold barity; rw [hbis]; rfl
      have HU := Aside0.mk (show under x bd = bd ++ [(x.f2, aa)] by unfold under; rw [hbis])
      clear hbis
      rw [hb2, hb3]
      go_upto_region 10 with fail
      have HSk := Aside0.mk (fun (w' : World) (h : Below w1.heap.size w1 w') => (blk_cell (blk_below HX1.out h) 2).trans (rfl : _ = some (Value.string x.f2)))
      have BD := Aside0.mk ((Below.refl w1.heap.size w1).drew)
      have B_0 := Aside0.mk ((bel_a w1 (.cells #[] 49)).drew)
      have B_5 := Aside0.mk ((bel_a w1 (.cells #[.string x.f2, .int .i64 aa] 49)).drew)
      have B_05 := Aside0.mk ((below_alloc (bel_a w1 (.cells #[] 49)) (.cells #[.string x.f2, .int .i64 aa] 49)).drew)
      have B_50 := Aside0.mk ((below_alloc (bel_a w1 (.cells #[.string x.f2, .int .i64 aa] 49)) (.cells #[] 49)).drew)
      have F_0 : Aside0 (((w1.alloc (.cells #[] 49)).drew).heap[w1.heap.size]? = some (.cells #[] 49 (0, 0))) := ⟨(blk_new w1 (.cells #[] 49) : _)⟩
      have F_05 : Aside0 ((((w1.alloc (.cells #[] 49)).alloc (.cells #[.string x.f2, .int .i64 aa] 49)).drew).heap[w1.heap.size]? = some (.cells #[] 49 (0, 0))) := ⟨(blk_below (blk_new w1 (.cells #[] 49)) (bel_a (w1.alloc (.cells #[] 49)) (.cells #[.string x.f2, .int .i64 aa] 49)) : _)⟩
      have F_50 : Aside0 ((((w1.alloc (.cells #[.string x.f2, .int .i64 aa] 49)).alloc (.cells #[] 49)).drew).heap[w1.heap.size + 1]? = some (.cells #[] 49 (0, 0))) := ⟨(two_new w1 (.cells #[.string x.f2, .int .i64 aa] 49) (.cells #[] 49) : _)⟩
      have G_05 : Aside0 ((((w1.alloc (.cells #[] 49)).alloc (.cells #[.string x.f2, .int .i64 aa] 49)).drew).heap[w1.heap.size + 1]? = some (.cells #[.string x.f2, .int .i64 aa] 49)) := ⟨(two_new w1 (.cells #[] 49) (.cells #[.string x.f2, .int .i64 aa] 49) : _)⟩
      have G_50 : Aside0 ((((w1.alloc (.cells #[.string x.f2, .int .i64 aa] 49)).alloc (.cells #[] 49)).drew).heap[w1.heap.size]? = some (.cells #[.string x.f2, .int .i64 aa] 49)) := ⟨(blk_below (blk_new w1 (.cells #[.string x.f2, .int .i64 aa] 49)) (bel_a (w1.alloc (.cells #[.string x.f2, .int .i64 aa] 49)) (.cells #[] 49)) : _)⟩
      refine wp_noexit ?_
      go_region_held_law (fun w' => w'.cell? ⟨w.heap.size, 2, none⟩ = some (.string x.f2))
        (first | with_reducible exact HSk.out _ BD.out | with_reducible exact HSk.out _ B_0.out | with_reducible exact HSk.out _ B_5.out | with_reducible exact HSk.out _ B_05.out | with_reducible exact HSk.out _ B_50.out | with_reducible exact HSk.out _ hB1 | with_reducible exact HSk.out _ (below_alloc hB1 _) | with_reducible exact HSk.out _ hB2)
        (first
          | ((refine step_append_src _ (by rfl) (.tmp 42) (.tmp 43) 45 (by rfl) w1.heap.size 49 i49 _ 2 24 und45 hi49 i49_z i49_s i49_b i49_c (by omega) _ 0 [] (by rfl) (own_zero (by first | with_reducible exact F_0.out | with_reducible exact F_05.out | with_reducible exact F_50.out) (by omega)) _ bd.length (symC bd) (by rfl) (own_src (own_keep HBV1.out (by first | with_reducible exact B_0.out | with_reducible exact B_05.out | with_reducible exact B_50.out))) (symC_one bd) (by unfold maxLen; omega) (by omega) (by first | with_reducible exact B_0.out.size | with_reducible exact B_05.out.size | with_reducible exact B_50.out.size) ?_
              intro v1 w2 hv1 hg1 ha1
              have hB1 := grown_below (B := w1.heap.size) (w0 := w1) (by first | with_reducible exact B_0.out | with_reducible exact B_05.out | with_reducible exact B_50.out) (by first | with_reducible exact B_0.out.size | with_reducible exact B_05.out.size | with_reducible exact B_50.out.size) hg1 (fun k hk => by simp [Value.ownBlock] at hk; omega)
              (first
                | have hS5 := (grown_blk hg1 G_05.out (by simp [Value.ownBlock]))
                | have hS5 := (grown_blk hg1 G_50.out (by simp [Value.ownBlock]))
                | skip)))
          | ((refine step_append_src _ (by rfl) (.tmp 44) (.tmp 49) 45 (by rfl) w1.heap.size 49 i49 _ 2 24 und45 hi49 i49_z i49_s i49_b i49_c (by omega) v1 (0 + bd.length) ([] ++ symC bd) (by rfl) (by first | with_reducible exact hv1 | with_reducible exact own_keep hv1 (bel_a _ _)) _ 1 [.string x.f2, .int .i64 aa] (by rfl) (by first | exact blk_src hS5 rfl | exact blk_src (blk_new w2 _) rfl) (by simp [Value.oneCell']) (by unfold maxLen; omega) (by omega) (by first | with_reducible exact hB1.size | with_reducible exact (below_alloc hB1 _).size) ?_
              intro v3 w3 hv3 hg3 ha3
              have hB2 := grown_below (B := w1.heap.size) (w0 := w1) (by first | with_reducible exact hB1 | with_reducible exact below_alloc hB1 _) (by first | with_reducible exact hB1.size | with_reducible exact (below_alloc hB1 _).size) hg3 (own_base hv1))))
      all_goals simp only [Act.put, List.getElem_toArray, List.getElem_cons_succ, List.getElem_cons_zero, List.setIfInBounds_toArray, List.set_cons_zero, List.set_cons_succ]
      all_goals go_wp2_with fail
      all_goals go_meet
      all_goals exact ⟨⟨by rw [HU.out]; exact rowY_snoc hv3⟩, ⟨hB2⟩⟩
  case rest =>
    generalize hU : under x bd = U at hcut HA HUL
    obtain ⟨HV1, HBc⟩ := hcut
    have HX2 := Aside0.mk (blk_below HX1.out HBc.out)
    have HB2 := Aside0.mk (below_step HBB.out HBc.out)
    clear HX1 HBB HBV1 HBc
    go_wp2_with fail
    go_loopw [8] (fun i wr => ∃ k : Nat, k ≤ x.f5.length ∧ i = .int .i64 k ∧ Aside0 (wr.heap[w.heap.size]? = some (bx x A3 c3 A4 c4 A5 c5)) ∧ Aside0 (Below w.heap.size w wr) ∧ Aside0 (RowY wr 0 u1 U) ∧ Aside0 (arit x bd = aritL (x.f5.drop k) U)) (fun i _ => x.f5.length - (intOf i).toNat)
    case atStart => exact ⟨0, Nat.zero_le _, rfl, HX2, HB2, HV1, ⟨by rw [List.drop_zero]; exact HA.out⟩⟩
    case round =>
      clear HX2 HB2 HV1 HA
      obtain ⟨k, hk, rfl, HX, HB, HV1, HI⟩ := hrel
      have a5 := (blk_cell HX.out 5).trans rfl
      by_cases hlt : k < x.f5.length
      · obtain ⟨y, ad, B3, e3, B4, e4, B5, e5, hx, rfl, h0, h1, h2, h3, h4, h5, hLy⟩ := kid_at (HL.out.below HB.out).g5 k hlt
        have HXX := Aside0.mk hx
        have hy := List.mem_of_getElem? hx
        have hsm := size_mem hy
        have HIH := Aside0.mk (IH.out y U u1 B3 e3 B4 e4 B5 e5 wr (by have := HN.out; omega) (fine_mem HF.out hy) hLy HV1.out (by have := HLN.out; have := HUL.out; omega))
        clear hx hy hLy hsm
        cases hs : arit y U
        · rw [hs] at HIH
          go_wp2_with (first
            | (go_at_call 50; with_reducible refine HIH.out.mono ?_; rintro e w3 ⟨rfl, hb⟩; have HB1 := Aside0.mk hb; clear hb))
          go_ret
          exact ⟨ret_bool (by rw [HI.out, aritL_at HXX.out, hs]; simp), below_step HB.out HB1.out⟩
        · rw [hs] at HIH
          go_wp2_with (first
            | (go_at_call 50; with_reducible refine HIH.out.mono ?_; rintro e w3 ⟨rfl, hb⟩; have HB1 := Aside0.mk hb; clear hb))
          exact ⟨⟨k + 1, by omega, by go_num, ⟨blk_below HX.out HB1.out⟩, ⟨below_step HB.out HB1.out⟩, ⟨own_keep HV1.out HB1.out⟩, ⟨by rw [HI.out, aritL_at HXX.out, hs]; rfl⟩⟩, by simp [intOf]; omega⟩
      · go_wp2_with fail
        go_ret
        exact ⟨ret_bool (by rw [HI.out, List.drop_eq_nil_of_le (by omega)]; rfl), HB.out⟩

theorem arit_calls (N : Nat) : AriR N := by
  induction N with
  | zero => intro x bd bv A3 c3 A4 c4 A5 c5 w hn; cases x; unfold size at hn; omega
  | succ N ih =>
    intro x bd bv A3 c3 A4 c4 A5 c5 w hn hf hL hB hbl
    cases e0 : (x.f0 == 0)
    · exact arit_rest N ih x bd bv A3 c3 A4 c4 A5 c5 w hn hf hL hB hbl e0
    · exact arit_leaf x bd bv A3 c3 A4 c4 A5 c5 w hf hB (by omega) e0
end Go.Proofs.YtjjnjnnfebifnaaGreatDoor.Rn
