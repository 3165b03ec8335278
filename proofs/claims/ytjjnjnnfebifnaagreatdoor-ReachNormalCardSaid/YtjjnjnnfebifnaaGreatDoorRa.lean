import Derived.Conc.MuLone
import Derived.StillTailTactics
import Derived.Test.YtjjnjnnfebifnaaGreatDoorRx
set_option linter.all false
namespace Go.Proofs.YtjjnjnnfebifnaaGreatDoor.Rn

open Go.Proofs.YtjjnjnnfebifnaaGreatDoor.PReachNormal
abbrev Fm := S25

abbrev Sym := ByteArray × Int

/-- the arity of the name that a formula binds -/
def bindsF (F : Fm) : Option Int :=
  if F.f0 = 8 ∨ F.f0 = 9 then some F.f3.length else if F.f0 = 11 then some F.f1 else none

mutual
def occ (x : ByteArray) : Fm → Bool
  | ⟨k, a, n, vs, ar, ks⟩ =>
    if k = 0 then decide (n = x) else if (bindsF ⟨k, a, n, vs, ar, ks⟩).isSome ∧ n = x then false else occL x ks
def occL (x : ByteArray) : List Fm → Bool
  | [] => false
  | f :: l => occ x f || occL x l
end

mutual
/-- the program's positive -/
def pos (x : ByteArray) : Fm → Bool → Bool
  | ⟨k, a, n, vs, ar, ks⟩, even =>
    if k = 0 then (!decide (n = x)) || even
    else if (bindsF ⟨k, a, n, vs, ar, ks⟩).isSome ∧ n = x then true
    else if k = 9 then !occL x (ks.take 1)
    else posL x ks (even != decide (k = 3))
def posL (x : ByteArray) : List Fm → Bool → Bool
  | [], _ => true
  | f :: l, even => pos x f even && posL x l even
end

mutual
/-- the reference's positive -/
def rpos (x : ByteArray) : Fm → Bool → Bool → Bool
  | ⟨k, a, n, vs, ar, ks⟩, odd, part =>
    if k = 0 then (!decide (n = x)) || (!odd && !part)
    else if (bindsF ⟨k, a, n, vs, ar, ks⟩).isSome ∧ n = x then true
    else rposL x ks (if k = 3 then !odd else odd) (part || decide (k = 9))
def rposL (x : ByteArray) : List Fm → Bool → Bool → Bool
  | [], _, _ => true
  | f :: l, odd, part => rpos x f odd part && rposL x l odd part
end

mutual
theorem rpos_part (x : ByteArray) : ∀ (F : Fm) (odd : Bool), rpos x F odd true = !occ x F
  | ⟨k, a, n, vs, ar, ks⟩, odd => by
    unfold rpos occ
    by_cases h0 : k = 0
    · simp [h0]
    · rw [if_neg h0, if_neg h0]
      split
      · rfl
      · rw [Bool.true_or]; exact rpos_partL x ks _
theorem rpos_partL (x : ByteArray) : ∀ (l : List Fm) (odd : Bool), rposL x l odd true = !occL x l
  | [], _ => rfl
  | f :: l, odd => by
    unfold rposL occL
    rw [rpos_part x f odd, rpos_partL x l odd, Bool.not_or]
end

mutual
def shapes (shp : Fm → Bool) : Fm → Bool
  | ⟨k, a, n, vs, ar, ks⟩ => shp ⟨k, a, n, vs, ar, ks⟩ && shapesL shp ks
def shapesL (shp : Fm → Bool) : List Fm → Bool
  | [] => true
  | f :: l => shapes shp f && shapesL shp l
end

/-- what a shape says of the number of kids -/
def OneKid (shp : Fm → Bool) : Prop := ∀ F, shp F = true → (F.f0 = 3 ∨ F.f0 = 8 ∨ F.f0 = 9 ∨ F.f0 = 10 → ∃ g, F.f5 = [g]) ∧ (F.f0 = 0 ∨ F.f0 = 1 ∨ F.f0 = 2 → F.f5 = [])

mutual
theorem rpos_pos (shp : Fm → Bool) (H : OneKid shp) (x : ByteArray) : ∀ (F : Fm) (odd : Bool), shapes shp F = true → rpos x F odd false = pos x F (!odd)
  | ⟨k, a, n, vs, ar, ks⟩, odd, hs => by
    unfold shapes at hs
    rw [Bool.and_eq_true] at hs
    have hk := H _ hs.1
    unfold rpos pos
    by_cases h0 : k = 0
    · simp [h0]
    · rw [if_neg h0, if_neg h0]
      split
      · rfl
      · by_cases h9 : k = 9
        · obtain ⟨g, hg⟩ := hk.1 (Or.inr (Or.inr (Or.inl h9)))
          simp only at hg
          subst hg h9
          simp [rpos_partL, List.take]
        · rw [if_neg h9]
          simp only [h9, decide_false, Bool.or_false]
          rw [rpos_posL shp H x ks _ hs.2]
          by_cases h3 : k = 3 <;> simp [h3]
theorem rpos_posL (shp : Fm → Bool) (H : OneKid shp) (x : ByteArray) : ∀ (l : List Fm) (odd : Bool), shapesL shp l = true → rposL x l odd false = posL x l (!odd)
  | [], _, _ => rfl
  | f :: l, odd, hs => by
    unfold shapesL at hs
    rw [Bool.and_eq_true] at hs
    unfold rposL posL
    rw [rpos_pos shp H x f odd hs.1, rpos_posL shp H x l odd hs.2]
end

/-! ### size, depth -/
mutual
def size : Fm → Nat
  | ⟨_, _, _, _, _, ks⟩ => 1 + sizeL ks
def sizeL : List Fm → Nat
  | [] => 0
  | f :: l => size f + sizeL l
end
mutual
def depth : Fm → Nat
  | ⟨_, _, _, _, _, ks⟩ => depthL ks + 1
def depthL : List Fm → Nat
  | [] => 0
  | f :: l => max (depth f) (depthL l)
end

mutual
/-- the reference's Count -/
def cnt : Fm → Nat → Nat × Nat
  | ⟨_, _, _, _, _, ks⟩, lv => match lv with
    | 0 => (1, 1)
    | lv + 1 => (1 + (cntL ks lv).1, (cntL ks lv).2 + 1)
def cntL : List Fm → Nat → Nat × Nat
  | [], _ => (0, 0)
  | f :: l, lv => ((cnt f lv).1 + (cntL l lv).1, max (cnt f lv).2 (cntL l lv).2)
end

theorem depth_pos (F : Fm) : 1 ≤ depth F := by cases F; unfold depth; omega

mutual
theorem cnt_deep : ∀ (F : Fm) (lv : Nat), (cnt F lv).2 = min (depth F) (lv + 1)
  | ⟨k, a, n, vs, ar, ks⟩, 0 => by unfold cnt depth; simp
  | ⟨k, a, n, vs, ar, ks⟩, lv + 1 => by
    unfold cnt depth
    have := cnt_deepL ks lv
    simp only; omega
theorem cnt_deepL : ∀ (l : List Fm) (lv : Nat), (cntL l lv).2 = min (depthL l) (lv + 1)
  | [], lv => by unfold cntL depthL; simp
  | f :: l, lv => by
    unfold cntL depthL
    have h1 := cnt_deep f lv
    have h2 := cnt_deepL l lv
    simp only; omega
end
mutual
theorem cnt_size : ∀ (F : Fm) (lv : Nat), depth F ≤ lv + 1 → (cnt F lv).1 = size F
  | ⟨k, a, n, vs, ar, ks⟩, 0, h => by
    unfold depth at h
    cases ks with
    | nil => simp [cnt, size, sizeL]
    | cons f l => unfold depthL at h; have := depth_pos f; omega
  | ⟨k, a, n, vs, ar, ks⟩, lv + 1, h => by
    unfold depth at h
    unfold cnt size
    have := cnt_sizeL ks lv (by omega)
    simp only; omega
theorem cnt_sizeL : ∀ (l : List Fm) (lv : Nat), depthL l ≤ lv + 1 → (cntL l lv).1 = sizeL l
  | [], lv, _ => by unfold cntL sizeL; rfl
  | f :: l, lv, h => by
    unfold depthL at h
    unfold cntL sizeL
    have h1 := cnt_size f lv (by omega)
    have h2 := cnt_sizeL l lv (by omega)
    simp only; omega
end

/-! ### arities, occurrences -/
/-- the last arity bound to a name -/
def last? (bd : List Sym) (x : ByteArray) : Option Int := ((bd.filter fun s => decide (s.1 = x)).map (·.2)).getLast?

def under (F : Fm) (bd : List Sym) : List Sym := match bindsF F with | some a => bd ++ [(F.f2, a)] | none => bd

mutual
def arit : Fm → List Sym → Bool
  | ⟨k, a, n, vs, ar, ks⟩, bd =>
    if k = 0 then (match last? bd n with | some m => decide (m = ar.length) | none => true)
    else aritL ks (under ⟨k, a, n, vs, ar, ks⟩ bd)
def aritL : List Fm → List Sym → Bool
  | [], _ => true
  | f :: l, bd => arit f bd && aritL l bd
end

mutual
/-- the occurrences that nothing binds -/
def occs : Fm → List Sym → List Sym
  | ⟨k, a, n, vs, ar, ks⟩, bd =>
    if k = 0 ∧ last? bd n = none then [(n, (ar.length : Int))] else occsL ks (under ⟨k, a, n, vs, ar, ks⟩ bd)
def occsL : List Fm → List Sym → List Sym
  | [], _ => []
  | f :: l, bd => occs f bd ++ occsL l bd
end

mutual
/-- the least fixed points grow, by the program's positive -/
def grow : Fm → Bool
  | ⟨k, a, n, vs, ar, ks⟩ => (!decide (k = 8) || posL n (ks.take 1) true) && growL ks
def growL : List Fm → Bool
  | [] => true
  | f :: l => grow f && growL l
end

/-! ### the program's walk -/
abbrev Fr := ByteArray → Option Int
def upd (fr : Fr) (x : ByteArray) (a : Int) : Fr := fun y => if y = x then some a else fr y

structure St where
  n : Nat
  fr : Fr
  bad : Bool

mutual
def walk (shp : Fm → Bool) : Fm → Nat → List Sym → St → St
  | ⟨k, a, n, vs, ar, ks⟩, lvl, bd, s =>
    if s.n + 1 > 4000 ∨ lvl > 60 ∨ shp ⟨k, a, n, vs, ar, ks⟩ = false then ⟨s.n + 1, s.fr, true⟩
    else if k = 0 then
      match last? bd n with
      | some m => ⟨s.n + 1, s.fr, !decide (m = ar.length)⟩
      | none => ⟨s.n + 1, upd s.fr n ar.length, match s.fr n with | some m => !decide (m = ar.length) | none => false⟩
    else
      let r := walkL shp ks (lvl + 1) (under ⟨k, a, n, vs, ar, ks⟩ bd) ⟨s.n + 1, s.fr, false⟩
      if r.bad then r else ⟨r.n, r.fr, decide (k = 8) && !posL n (ks.take 1) true⟩
def walkL (shp : Fm → Bool) : List Fm → Nat → List Sym → St → St
  | [], _, _, s => s
  | f :: l, lvl, bd, s =>
    let r := walk shp f lvl bd s
    if r.bad then r else walkL shp l lvl bd r
end

def consist : Fr → List Sym → Bool
  | _, [] => true
  | fr, (x, a) :: l => (match fr x with | some m => decide (m = a) | none => true) && consist (upd fr x a) l
def upds : Fr → List Sym → Fr
  | fr, [] => fr
  | fr, (x, a) :: l => upds (upd fr x a) l

theorem consist_append (fr : Fr) (l m : List Sym) : consist fr (l ++ m) = (consist fr l && consist (upds fr l) m) := by
  induction l generalizing fr with
  | nil => simp [consist, upds]
  | cons p l ih => obtain ⟨x, a⟩ := p; simp only [List.cons_append, consist, upds, ih, Bool.and_assoc]
theorem upds_append (fr : Fr) (l m : List Sym) : upds fr (l ++ m) = upds (upds fr l) m := by
  induction l generalizing fr with
  | nil => rfl
  | cons p l ih => obtain ⟨x, a⟩ := p; simp only [List.cons_append, upds, ih]

mutual
theorem walk_spec (shp : Fm → Bool) (H : OneKid shp) : ∀ (F : Fm) (lvl : Nat) (bd : List Sym) (s : St), s.bad = false →
    ((walk shp F lvl bd s).bad = false ↔ (s.n + size F ≤ 4000 ∧ lvl + depth F ≤ 61 ∧ shapes shp F = true ∧ arit F bd = true ∧ grow F = true ∧ consist s.fr (occs F bd) = true)) ∧
    ((walk shp F lvl bd s).bad = false → (walk shp F lvl bd s).n = s.n + size F ∧ (walk shp F lvl bd s).fr = upds s.fr (occs F bd))
  | ⟨k, a, n, vs, ar, ks⟩, lvl, bd, s, hs => by
    have hsz : size ⟨k, a, n, vs, ar, ks⟩ = 1 + sizeL ks := by unfold size; rfl
    have hdp : depth ⟨k, a, n, vs, ar, ks⟩ = depthL ks + 1 := by unfold depth; rfl
    have hsh : shapes shp ⟨k, a, n, vs, ar, ks⟩ = (shp ⟨k, a, n, vs, ar, ks⟩ && shapesL shp ks) := by conv => lhs; unfold shapes
    by_cases hb : s.n + 1 > 4000 ∨ lvl > 60 ∨ shp ⟨k, a, n, vs, ar, ks⟩ = false
    · have hw : walk shp ⟨k, a, n, vs, ar, ks⟩ lvl bd s = ⟨s.n + 1, s.fr, true⟩ := by unfold walk; rw [if_pos hb]
      rw [hw]
      refine ⟨⟨fun h => by simp at h, fun h => ?_⟩, fun h => by simp at h⟩
      exfalso
      rw [hsh, hsz, hdp] at h
      rcases hb with hb | hb | hb
      · omega
      · omega
      · rw [hb] at h; simp at h
    · have hb' := hb
      simp only [not_or, Bool.not_eq_false] at hb'
      obtain ⟨h1, h2, h3⟩ := hb'
      have hk := H _ h3
      by_cases h0 : k = 0
      · have hks : ks = [] := hk.2 (Or.inl h0)
        subst hks h0
        have e1 : sizeL [] = 0 := rfl
        have e2 : depthL [] = 0 := rfl
        have e3 : shapesL shp [] = true := rfl
        have e4 : grow ⟨0, a, n, vs, ar, []⟩ = true := by unfold grow; simp [growL]
        rw [hsz, hdp, hsh, h3, e1, e2, e3, e4]
        have c1 : s.n + (1 + 0) ≤ 4000 := by omega
        have c2 : lvl + (0 + 1) ≤ 61 := by omega
        unfold walk
        rw [if_neg hb, if_pos rfl]
        cases hl : last? bd n with
        | some m =>
          have e5 : arit ⟨0, a, n, vs, ar, []⟩ bd = decide (m = ar.length) := by unfold arit; rw [if_pos rfl, hl]
          have e6 : occs ⟨0, a, n, vs, ar, []⟩ bd = [] := by unfold occs; rw [if_neg (by simp [hl])]; simp [occsL]
          rw [e5, e6]
          simp only [consist, upds]
          refine ⟨?_, fun _ => ⟨trivial, trivial⟩⟩
          by_cases hm : m = ar.length
          · simp [hm]; omega
          · simp [hm]
        | none =>
          have e5 : arit ⟨0, a, n, vs, ar, []⟩ bd = true := by unfold arit; rw [if_pos rfl, hl]
          have e6 : occs ⟨0, a, n, vs, ar, []⟩ bd = [(n, (ar.length : Int))] := by unfold occs; rw [if_pos ⟨rfl, hl⟩]
          rw [e5, e6]
          simp only [consist, upds, Bool.and_true]
          refine ⟨?_, fun _ => ⟨trivial, trivial⟩⟩
          cases hf : s.fr n with
          | none => simp; omega
          | some m =>
            by_cases hm : m = ar.length
            · simp [hm]; omega
            · simp [hm]
      · have ih := walk_specL shp H ks (lvl + 1) (under ⟨k, a, n, vs, ar, ks⟩ bd) ⟨s.n + 1, s.fr, false⟩ rfl (by simp only; omega)
        have ear : arit ⟨k, a, n, vs, ar, ks⟩ bd = aritL ks (under ⟨k, a, n, vs, ar, ks⟩ bd) := by
          conv => lhs; unfold arit
          rw [if_neg h0]
        have eoc : occs ⟨k, a, n, vs, ar, ks⟩ bd = occsL ks (under ⟨k, a, n, vs, ar, ks⟩ bd) := by
          conv => lhs; unfold occs
          rw [if_neg (by simp [h0])]
        have egr : grow ⟨k, a, n, vs, ar, ks⟩ = ((!decide (k = 8) || posL n (ks.take 1) true) && growL ks) := by conv => lhs; unfold grow
        rw [hsz, hdp, hsh, ear, eoc, egr, h3]
        unfold walk
        rw [if_neg hb, if_neg h0]
        generalize walkL shp ks (lvl + 1) (under ⟨k, a, n, vs, ar, ks⟩ bd) ⟨s.n + 1, s.fr, false⟩ = r at ih
        simp only at ih
        show ((if r.bad = true then r else _).bad = false ↔ _) ∧ ((if r.bad = true then r else _).bad = false → (if r.bad = true then r else _).n = _ ∧ (if r.bad = true then r else _).fr = _)
        cases hr : r.bad with
        | true =>
          rw [if_pos rfl]
          have this := mt ih.1.2 (by rw [hr]; simp)
          refine ⟨⟨fun h => by (rw [hr] at h; cases h), fun ⟨g1, g2, g3, g4, g5, g6⟩ => (this ⟨by omega, by omega, by simpa using g3, g4, ?_, g6⟩).elim⟩, fun h => by (rw [hr] at h; cases h)⟩
          rw [Bool.and_eq_true] at g5; exact g5.2
        | false =>
          have g := ih.1.1 hr
          have g' := ih.2 hr
          rw [if_neg (by simp)]
          simp only
          refine ⟨⟨fun h => ⟨by omega, by omega, by simpa using g.2.2.1, g.2.2.2.1, ?_, g.2.2.2.2.2⟩, fun h => ?_⟩, fun _ => ⟨by omega, g'.2⟩⟩
          · rw [g.2.2.2.2.1, Bool.and_true]
            by_cases h8 : k = 8
            · simpa [h8] using h
            · simp [h8]
          · have := h.2.2.2.2.1
            rw [Bool.and_eq_true] at this
            by_cases h8 : k = 8
            · simpa [h8] using this.1
            · simp [h8]
theorem walk_specL (shp : Fm → Bool) (H : OneKid shp) : ∀ (l : List Fm) (lvl : Nat) (bd : List Sym) (s : St), s.bad = false → s.n ≤ 4000 →
    ((walkL shp l lvl bd s).bad = false ↔ (s.n + sizeL l ≤ 4000 ∧ (depthL l = 0 ∨ lvl + depthL l ≤ 61) ∧ shapesL shp l = true ∧ aritL l bd = true ∧ growL l = true ∧ consist s.fr (occsL l bd) = true)) ∧
    ((walkL shp l lvl bd s).bad = false → (walkL shp l lvl bd s).n = s.n + sizeL l ∧ (walkL shp l lvl bd s).fr = upds s.fr (occsL l bd))
  | [], lvl, bd, s, hs, hn => by
    simp [walkL, sizeL, shapesL, aritL, growL, occsL, consist, upds, depthL, hs, hn]
  | f :: l, lvl, bd, s, hs, hn => by
    have ih := walk_spec shp H f lvl bd s hs
    have hd := depth_pos f
    have e1 : sizeL (f :: l) = size f + sizeL l := by conv => lhs; unfold sizeL
    have e2 : depthL (f :: l) = max (depth f) (depthL l) := by conv => lhs; unfold depthL
    have e3 : shapesL shp (f :: l) = (shapes shp f && shapesL shp l) := by conv => lhs; unfold shapesL
    have e4 : aritL (f :: l) bd = (arit f bd && aritL l bd) := by conv => lhs; unfold aritL
    have e5 : growL (f :: l) = (grow f && growL l) := by conv => lhs; unfold growL
    have e6 : occsL (f :: l) bd = occs f bd ++ occsL l bd := by conv => lhs; unfold occsL
    have e7 : walkL shp (f :: l) lvl bd s = if (walk shp f lvl bd s).bad = true then walk shp f lvl bd s else walkL shp l lvl bd (walk shp f lvl bd s) := by conv => lhs; unfold walkL
    rw [e1, e2, e3, e4, e5, e6, e7, consist_append, upds_append]
    simp only [Bool.and_eq_true]
    cases hr : (walk shp f lvl bd s).bad with
    | true =>
      rw [if_pos rfl]
      have this := mt ih.1.2 (by rw [hr]; simp)
      refine ⟨⟨fun h => by (rw [hr] at h; cases h), fun ⟨g1, g2, g3, g4, g5, g6⟩ => (this ⟨by omega, by omega, g3.1, g4.1, g5.1, g6.1⟩).elim⟩, fun h => by (rw [hr] at h; cases h)⟩
    | false =>
      rw [if_neg (by simp)]
      have g := ih.1.1 hr
      have g' := ih.2 hr
      have ih2 := walk_specL shp H l lvl bd (walk shp f lvl bd s) hr (by omega)
      rw [g'.2, g'.1] at ih2
      refine ⟨⟨fun h => ?_, fun h => ?_⟩, fun h => ?_⟩
      · have q := ih2.1.1 h
        exact ⟨by omega, by omega, ⟨g.2.2.1, q.2.2.1⟩, ⟨g.2.2.2.1, q.2.2.2.1⟩, ⟨g.2.2.2.2.1, q.2.2.2.2.1⟩, g.2.2.2.2.2, q.2.2.2.2.2⟩
      · exact ih2.1.2 ⟨by omega, by omega, h.2.2.1.2, h.2.2.2.1.2, h.2.2.2.2.1.2, h.2.2.2.2.2.2⟩
      · have q := ih2.2 h
        exact ⟨by omega, q.2⟩
end

/-! ### the reference's consistency -/
/-- no two symbols of one name have two arities -/
def pairsOk (l : List Sym) : Prop := ∀ i k (hi : i < l.length) (hk : k < i), (l[k]'(by omega)).1 = l[i].1 → (l[k]'(by omega)).2 = l[i].2

theorem consist_iff (l : List Sym) : ∀ fr : Fr, consist fr l = true ↔ (∀ p ∈ l, ∀ m, fr p.1 = some m → m = p.2) ∧ l.Pairwise (fun p q => p.1 = q.1 → p.2 = q.2) := by
  induction l with
  | nil => intro fr; simp [consist]
  | cons p l ih =>
    intro fr
    obtain ⟨x, a⟩ := p
    simp only [consist, Bool.and_eq_true, ih, List.pairwise_cons, List.mem_cons, forall_eq_or_imp]
    constructor
    · rintro ⟨h1, h2, h3⟩
      refine ⟨⟨fun m hm => by rw [hm] at h1; simpa using h1, fun q hq m hm => ?_⟩, fun q hq e => ?_, h3⟩
      · by_cases e : q.1 = x
        · have := h2 q hq a (by simp [upd, e])
          rw [e] at hm; rw [hm] at h1
          simp at h1; omega
        · exact h2 q hq m (by simp [upd, e, hm])
      · exact h2 q hq a (by simp [upd, e])
    · rintro ⟨⟨h1, h2⟩, h3, h4⟩
      refine ⟨?_, fun q hq m hm => ?_, h4⟩
      · cases hf : fr x with
        | none => rfl
        | some m => simpa using h1 m hf
      · by_cases e : q.1 = x
        · simp [upd, e] at hm
          rw [← hm]; exact h3 q hq e.symm
        · simp [upd, e] at hm; exact h2 q hq m hm

theorem pairsOk_iff (l : List Sym) : pairsOk l ↔ consist (fun _ => none) l = true := by
  rw [consist_iff, List.pairwise_iff_getElem]
  constructor
  · intro h
    exact ⟨fun _ _ _ h => by simp at h, fun i j hi hj hij e => h j i hj hij e⟩
  · rintro ⟨_, h⟩ i k hi hk e
    exact h k i (by omega) hi hk e

/-- valid, ar the program finds it -/
def pvalid (shp : Fm → Bool) (F : Fm) : Bool := !(walk shp F 1 [] ⟨0, fun _ => none, false⟩).bad

mutual
/-- the reference's grow -/
def rgrow : Fm → Bool
  | ⟨k, a, n, vs, ar, ks⟩ => (!decide (k = 8) || rposL n (ks.take 1) false false) && rgrowL ks
def rgrowL : List Fm → Bool
  | [] => true
  | f :: l => rgrow f && rgrowL l
end

mutual
theorem shapesL_take (shp : Fm → Bool) : ∀ l : List Fm, shapesL shp l = true → shapesL shp (l.take 1) = true
  | [], _ => rfl
  | f :: l, h => by
    unfold shapesL at h
    rw [Bool.and_eq_true] at h
    simp [List.take, shapesL, h.1]
theorem grow_eq (shp : Fm → Bool) (H : OneKid shp) : ∀ F : Fm, shapes shp F = true → rgrow F = grow F
  | ⟨k, a, n, vs, ar, ks⟩, hs => by
    unfold shapes at hs
    rw [Bool.and_eq_true] at hs
    unfold rgrow grow
    rw [grow_eqL shp H ks hs.2, rpos_posL shp H n _ false (shapesL_take shp ks hs.2)]
    rfl
theorem grow_eqL (shp : Fm → Bool) (H : OneKid shp) : ∀ l : List Fm, shapesL shp l = true → rgrowL l = growL l
  | [], _ => rfl
  | f :: l, hs => by
    unfold shapesL at hs
    rw [Bool.and_eq_true] at hs
    unfold rgrowL growL
    rw [grow_eq shp H f hs.1, grow_eqL shp H l hs.2]
end

theorem pvalid_iff (shp : Fm → Bool) (H : OneKid shp) (F : Fm) :
    pvalid shp F = true ↔ ((cnt F 61).1 ≤ 4000 ∧ (cnt F 61).2 ≤ 60 ∧ shapes shp F = true ∧ arit F [] = true ∧ rgrow F = true ∧ pairsOk (occs F [])) := by
  have h := (walk_spec shp H F 1 [] ⟨0, fun _ => none, false⟩ rfl).1
  have hd := cnt_deep F 61
  unfold pvalid
  rw [Bool.not_eq_true', h, pairsOk_iff]
  simp only
  constructor
  · rintro ⟨h1, h2, h3, h4, h5, h6⟩
    have := cnt_size F 61 (by omega)
    exact ⟨by omega, by omega, h3, h4, by rw [grow_eq shp H F h3]; exact h5, h6⟩
  · rintro ⟨h1, h2, h3, h4, h5, h6⟩
    have := cnt_size F 61 (by omega)
    exact ⟨by omega, by omega, h3, h4, by rw [← grow_eq shp H F h3]; exact h5, h6⟩

/-! ### free variables -/
def memB (x : ByteArray) (l : List ByteArray) : Bool := l.any fun y => decide (y = x)
theorem memB_iff (x : ByteArray) (l : List ByteArray) : memB x l = true ↔ x ∈ l := by
  simp [memB]
theorem memB_not (x : ByteArray) (l : List ByteArray) : memB x l = false ↔ x ∉ l := by
  rw [← memB_iff]; simp

mutual
/-- the reference: a name that a formula uses free -/
def rfree (x : ByteArray) : Fm → Bool
  | ⟨_, _, _, vs, ar, ks⟩ => memB x ar || (!memB x vs && rfreeL x ks)
def rfreeL (x : ByteArray) : List Fm → Bool
  | [] => false
  | f :: l => rfree x f || rfreeL x l
end

mutual
/-- the program: the names that it lays into the set, under the names that are bound -/
def pfree : Fm → List ByteArray → List ByteArray
  | ⟨_, _, _, vs, ar, ks⟩, bd => ar.filter (fun a => !memB a bd) ++ pfreeL ks (bd ++ vs)
def pfreeL : List Fm → List ByteArray → List ByteArray
  | [], _ => []
  | f :: l, bd => pfree f bd ++ pfreeL l bd
end

mutual
theorem mem_pfree (x : ByteArray) : ∀ (F : Fm) (bd : List ByteArray), x ∈ pfree F bd ↔ x ∉ bd ∧ rfree x F = true
  | ⟨k, a, n, vs, ar, ks⟩, bd => by
    unfold pfree rfree
    rw [List.mem_append, List.mem_filter, mem_pfreeL x ks (bd ++ vs), List.mem_append]
    simp only [Bool.not_eq_true', memB_not, Bool.or_eq_true, memB_iff, Bool.and_eq_true]
    constructor
    · rintro (⟨h1, h2⟩ | ⟨h1, h2⟩)
      · exact ⟨h2, Or.inl h1⟩
      · exact ⟨fun h => h1 (Or.inl h), Or.inr ⟨fun h => h1 (Or.inr h), h2⟩⟩
    · rintro ⟨h1, h2 | ⟨h2, h3⟩⟩
      · exact Or.inl ⟨h2, h1⟩
      · exact Or.inr ⟨fun h => h.elim h1 h2, h3⟩
theorem mem_pfreeL (x : ByteArray) : ∀ (l : List Fm) (bd : List ByteArray), x ∈ pfreeL l bd ↔ x ∉ bd ∧ rfreeL x l = true
  | [], bd => by simp [pfreeL, rfreeL]
  | f :: l, bd => by
    unfold pfreeL rfreeL
    rw [List.mem_append, mem_pfree x f bd, mem_pfreeL x l bd, Bool.or_eq_true]
    constructor
    · rintro (⟨h1, h2⟩ | ⟨h1, h2⟩)
      · exact ⟨h1, Or.inl h2⟩
      · exact ⟨h1, Or.inr h2⟩
    · rintro ⟨h1, h2 | h2⟩
      · exact Or.inl ⟨h1, h2⟩
      · exact Or.inr ⟨h1, h2⟩
end

/-! ### normal formulas -/
def atomF (F : Fm) : Bool := decide (F.f0 = 0 ∨ F.f0 = 1 ∨ F.f0 = 2)

mutual
def plainF : Fm → Bool
  | ⟨k, a, n, vs, ar, ks⟩ => if k = 3 ∨ k = 4 ∨ k = 5 then plainL ks else atomF ⟨k, a, n, vs, ar, ks⟩
def plainL : List Fm → Bool
  | [] => true
  | f :: l => plainF f && plainL l
end

mutual
def normF : Fm → Bool
  | ⟨k, a, n, vs, ar, ks⟩ =>
    if k = 3 then (match ks with | f :: _ => atomF f | [] => false)
    else if k = 10 then (match ks with | f :: _ => plainF f | [] => false)
    else if k = 4 ∨ k = 5 ∨ k = 6 then normL ks
    else atomF ⟨k, a, n, vs, ar, ks⟩
def normL : List Fm → Bool
  | [] => true
  | f :: l => normF f && normL l
end

/-! ### the reference's normal -/
mutual
def bareF : Fm → Bool
  | ⟨k, a, n, vs, ar, ks⟩ => (atomF ⟨k, a, n, vs, ar, ks⟩ || decide (k = 3 ∨ k = 4 ∨ k = 5)) && bareL ks
def bareL : List Fm → Bool
  | [] => true
  | f :: l => bareF f && bareL l
end
mutual
def rnorm : Fm → Bool
  | ⟨k, a, n, vs, ar, ks⟩ =>
    if k = 0 ∨ k = 1 ∨ k = 2 then true
    else if k = 3 then (match ks with | f :: _ => atomF f | [] => false)
    else if k = 10 then (match ks with | f :: _ => bareF f | [] => false)
    else if k = 4 ∨ k = 5 ∨ k = 6 then rnormL ks
    else false
def rnormL : List Fm → Bool
  | [] => true
  | f :: l => rnorm f && rnormL l
end
mutual
theorem bare_plain (shp : Fm → Bool) (H : OneKid shp) : ∀ F : Fm, shapes shp F = true → bareF F = plainF F
  | ⟨k, a, n, vs, ar, ks⟩, hs => by
    unfold shapes at hs
    rw [Bool.and_eq_true] at hs
    have hk := H _ hs.1
    unfold bareF plainF
    rw [bare_plainL shp H ks hs.2]
    by_cases h3 : k = 3 ∨ k = 4 ∨ k = 5
    · rw [if_pos h3]; simp [h3]
    · rw [if_neg h3]
      simp only [h3, decide_false, Bool.or_false]
      by_cases ha : k = 0 ∨ k = 1 ∨ k = 2
      · have : ks = [] := hk.2 ha
        subst this
        simp [plainL]
      · simp [atomF, ha]
theorem bare_plainL (shp : Fm → Bool) (H : OneKid shp) : ∀ l : List Fm, shapesL shp l = true → bareL l = plainL l
  | [], _ => rfl
  | f :: l, hs => by
    unfold shapesL at hs
    rw [Bool.and_eq_true] at hs
    unfold bareL plainL
    rw [bare_plain shp H f hs.1, bare_plainL shp H l hs.2]
end
mutual
theorem norm_eq (shp : Fm → Bool) (H : OneKid shp) : ∀ F : Fm, shapes shp F = true → rnorm F = normF F
  | ⟨k, a, n, vs, ar, ks⟩, hs => by
    unfold shapes at hs
    rw [Bool.and_eq_true] at hs
    have hk := H _ hs.1
    unfold rnorm normF
    rw [norm_eqL shp H ks hs.2]
    by_cases h0 : k = 0 ∨ k = 1 ∨ k = 2
    · rw [if_pos h0, if_neg (by omega), if_neg (by omega), if_neg (by omega)]
      simp [atomF, h0]
    · rw [if_neg h0]
      by_cases h3 : k = 3
      · rw [if_pos h3, if_pos h3]
      · rw [if_neg h3, if_neg h3]
        by_cases h10 : k = 10
        · rw [if_pos h10, if_pos h10]
          cases ks with
          | nil => rfl
          | cons f l =>
            have := hs.2
            unfold shapesL at this
            rw [Bool.and_eq_true] at this
            exact bare_plain shp H f this.1
        · rw [if_neg h10, if_neg h10]
          split
          · rfl
          · simp [atomF, h0]
theorem norm_eqL (shp : Fm → Bool) (H : OneKid shp) : ∀ l : List Fm, shapesL shp l = true → rnormL l = normL l
  | [], _ => rfl
  | f :: l, hs => by
    unfold shapesL at hs
    rw [Bool.and_eq_true] at hs
    unfold rnormL normL
    rw [norm_eq shp H f hs.1, norm_eqL shp H l hs.2]
end

end Go.Proofs.YtjjnjnnfebifnaaGreatDoor.Rn
namespace Go.Proofs.YtjjnjnnfebifnaaGreatDoor.Rn
open Go.RowKit Go.Proofs.YtjjnjnnfebifnaaGreatDoorW.PrintWords Go.Proofs.YtjjnjnnfebifnaaGreatDoorW.PrintLast Go.Proofs.YtjjnjnnfebifnaaGreatDoor.PReachNormal

theorem ret_int {k : IntKind} {a b : Int} (h : a = b) : Ending.returned (.int k a) = .returned (.int k b) := by rw [h]
theorem ret_bool {a b : Bool} (h : a = b) : Ending.returned (.bool a) = .returned (.bool b) := by rw [h]

/-- how a formula lies in its six cells -/
structure Lay (w : World) (x : S25) (A3 : Option Addr) (c3 : Nat) (A4 : Option Addr) (c4 : Nat) (A5 : Option Addr) (c5 : Nat) : Prop where
  l3 : x.f3.length ≤ c3
  g3 : Kd.string.C w A3 x.f3.length x.f3
  l4 : x.f4.length ≤ c4
  g4 : Kd.string.C w A4 x.f4.length x.f4
  l5 : x.f5.length ≤ c5
  g5 : k25.C w A5 x.f5.length x.f5

theorem Lay.below {w w' : World} {x : S25} {A3 : Option Addr} {c3 : Nat} {A4 : Option Addr} {c4 : Nat} {A5 : Option Addr} {c5 : Nat} (h : Lay w x A3 c3 A4 c4 A5 c5) (hb : Below w.heap.size w w') : Lay w' x A3 c3 A4 c4 A5 c5 :=
  ⟨h.l3, Kd.C_below h.g3 hb, h.l4, Kd.C_below h.g4 hb, h.l5, Kd.C_below h.g5 hb⟩

theorem kid_at {w : World} {A : Option Addr} {l : List S25} (h : k25.C w A l.length l) (k : Nat) (hk : k < l.length) :
    ∃ (x : S25) (ad : Addr) (A3 : Option Addr) (c3 : Nat) (A4 : Option Addr) (c4 : Nat) (A5 : Option Addr) (c5 : Nat), l[k]? = some x ∧ A = some ad ∧ w.cell? (ad.add (k * 6)) = some (.int .i64 x.f0) ∧
      w.cell? ⟨(ad.add (k * 6)).block, (ad.add (k * 6)).off + 1, none⟩ = some (.int .i64 x.f1) ∧ w.cell? ⟨(ad.add (k * 6)).block, (ad.add (k * 6)).off + 2, none⟩ = some (.string x.f2) ∧
      w.cell? ⟨(ad.add (k * 6)).block, (ad.add (k * 6)).off + 3, none⟩ = some (.slice A3 x.f3.length c3) ∧ w.cell? ⟨(ad.add (k * 6)).block, (ad.add (k * 6)).off + 4, none⟩ = some (.slice A4 x.f4.length c4) ∧
      w.cell? ⟨(ad.add (k * 6)).block, (ad.add (k * 6)).off + 5, none⟩ = some (.slice A5 x.f5.length c5) ∧ Lay w x A3 c3 A4 c4 A5 c5 := by
  obtain ⟨ad, A3, c3, A4, c4, A5, c5, e, h0, h1, h2, h3, h4, h5, l3, g3, l4, g4, l5, g5⟩ := at_T25 h (k : Int) (by omega) (by omega)
  have hx : rd_T25 l (k : Int) = l[k] := by simp [rd_T25, List.getD, List.getElem?_eq_getElem hk]
  rw [hx] at h0 h1 h2 h3 h4 h5 l3 g3 l4 g4 l5 g5
  simp only [Int.toNat_natCast] at h0 h1 h2 h3 h4 h5
  exact ⟨l[k], ad, A3, c3, A4, c4, A5, c5, List.getElem?_eq_getElem hk, e, h0, h1, h2, h3, h4, h5, l3, g3, l4, g4, l5, g5⟩

/-- a function value that asks one thing of a formula -/
def Asks (g : FuncId) (cap : Array Value) (p : S25 → Bool) (l : List S25) (w0 : World) : Prop :=
  ∀ (x : S25) (A3 : Option Addr) (c3 : Nat) (A4 : Option Addr) (c4 : Nat) (A5 : Option Addr) (c5 : Nat) (w : World), x ∈ l → Below w0.heap.size w0 w → Lay w x A3 c3 A4 c4 A5 c5 →
    Calls Tryz.prog g (#[.agg #[.int .i64 x.f0, .int .i64 x.f1, .string x.f2, .slice A3 x.f3.length c3, .slice A4 x.f4.length c4, .slice A5 x.f5.length c5]] ++ cap) w fun e w' => e = .returned (.bool (p x)) ∧ Below w.heap.size w w'

def idxOf (p : S25 → Bool) : Nat → List S25 → Int
  | _, [] => -1
  | i, x :: l => if p x then i else idxOf p (i + 1) l

theorem drop_at {l : List S25} {k : Nat} {x : S25} (h : l[k]? = some x) : l.drop k = x :: l.drop (k + 1) := by
  obtain ⟨hk, rfl⟩ := List.getElem?_eq_some_iff.1 h
  exact List.drop_eq_getElem_cons hk
theorem idx_yes {p : S25 → Bool} {l : List S25} {k : Nat} {x : S25} (h : l[k]? = some x) (hp : p x = true) : idxOf p k (l.drop k) = k := by
  rw [drop_at h, idxOf, if_pos hp]
theorem idx_no {p : S25 → Bool} {l : List S25} {k : Nat} {x : S25} (h : l[k]? = some x) (hp : p x = false) : idxOf p k (l.drop k) = idxOf p (k + 1) (l.drop (k + 1)) := by
  rw [drop_at h, idxOf, if_neg (by simp [hp])]

set_option maxHeartbeats 800000 in
set_option maxRecDepth 100000 in
theorem idx (g : FuncId) (cap : Array Value) (p : S25 → Bool) (A : Option Addr) (c : Nat) (l : List S25) (w : World) (hl : l.length ≤ 9223372036854775807) (hC : k25.C w A l.length l)
    (hg : ∀ (args : Array Value) (w : World), (callFunc g args).run Tryz.prog w = .ok (.enter g args) w) (hA : Asks g cap p l w) :
    Calls Tryz.prog 160 #[.slice A l.length c, .func (.func g) #[] cap] w fun e w' => e = .returned (.int .i64 (idxOf p 0 l)) ∧ Below w.heap.size w w' := by
  have HC := Aside0.mk hC
  have HA := Aside0.mk hA
  clear hC hA
  go_enter Tryz.func160, Tryz.ntmps160
  go_wp2_with fail
  go_loopw [8] (fun i wr => ∃ k : Nat, k ≤ l.length ∧ i = .int .i64 k ∧ Aside0 (Below w.heap.size w wr) ∧ Aside0 (idxOf p 0 l = idxOf p k (l.drop k))) (fun i _ => l.length - (intOf i).toNat)
  case atStart => exact ⟨0, Nat.zero_le _, rfl, ⟨Below.refl _ _⟩, ⟨by rw [List.drop_zero]⟩⟩
  case round =>
    obtain ⟨k, hk, rfl, hB, hI⟩ := hrel
    by_cases hlt : k < l.length
    · obtain ⟨x, ad, A3, c3, A4, c4, A5, c5, hx, rfl, h0, h1, h2, h3, h4, h5, hL⟩ := kid_at (Kd.C_below HC.out hB.out) k hlt
      have HX := Aside0.mk hx
      have HL := Aside0.mk hL
      clear hx hL
      go_wp2_with (refine (HA.out x A3 c3 A4 c4 A5 c5 _ (List.mem_of_getElem? HX.out) hB.out HL.out).mono ?_; rintro e w1 ⟨rfl, hb⟩; have HB := Aside0.mk (below_step hB.out hb); clear hb)
      · have hp : p x = true := by assumption
        go_ret
        exact ⟨ret_int (hI.out.trans (idx_yes HX.out hp)).symm, HB.out⟩
      · have hp : p x = false := by assumption
        go_roundw
        case rel => exact ⟨k + 1, by omega, by go_num, HB, ⟨by rw [hI.out, idx_no HX.out hp]⟩⟩
        case measure => simp [intOf]; omega
    · go_wp2_with fail
      go_ret
      exact ⟨ret_int (by rw [hI.out, List.drop_eq_nil_of_le (by omega)]; rfl), hB.out⟩
end Go.Proofs.YtjjnjnnfebifnaaGreatDoor.Rn
namespace Go.Proofs.YtjjnjnnfebifnaaGreatDoor.Rn
open Go.RowKit Go.Proofs.YtjjnjnnfebifnaaGreatDoorW.PrintWords Go.Proofs.YtjjnjnnfebifnaaGreatDoorW.PrintLast Go.Proofs.YtjjnjnnfebifnaaGreatDoor.PReachNormal

theorem idx_any (p : S25 → Bool) : ∀ (l : List S25) (i : Nat), decide (0 ≤ idxOf p i l) = l.any p
  | [], i => by simp [idxOf]
  | x :: l, i => by
    unfold idxOf
    cases hp : p x with
    | true => simp [hp]
    | false => simp [hp, idx_any p l (i + 1)]

set_option maxHeartbeats 800000 in
set_option maxRecDepth 100000 in
theorem cont (g : FuncId) (cap : Array Value) (p : S25 → Bool) (A : Option Addr) (c : Nat) (l : List S25) (w : World) (hl : l.length ≤ 9223372036854775807) (hC : k25.C w A l.length l)
    (hg : ∀ (args : Array Value) (w : World), (callFunc g args).run Tryz.prog w = .ok (.enter g args) w) (hA : Asks g cap p l w) :
    Calls Tryz.prog 93 #[.slice A l.length c, .func (.func g) #[] cap] w fun e w' => e = .returned (.bool (l.any p)) ∧ Below w.heap.size w w' := by
  have HI := Aside0.mk (idx g cap p A c l w hl hC hg hA)
  clear hC hA hg
  go_enter Tryz.func93, Tryz.ntmps93
  go_wp2_with (go_at_call 160; refine (HI.out).mono ?_; rintro e w1 ⟨rfl, hb⟩; have HB := Aside0.mk hb; clear hb)
  go_ret
  exact ⟨ret_bool (idx_any p l 0), HB.out⟩

theorem ret3 {a a' : ByteArray} {b b' : Int} {c c' : Bool} (h1 : a = a') (h2 : b = b') (h3 : c = c') :
    Ending.returned (.tuple #[.string a, .int .i64 b, .bool c]) = .returned (.tuple #[.string a', .int .i64 b', .bool c']) := by rw [h1, h2, h3]

theorem bel_a (w : World) (o : Obj) : Below w.heap.size w (w.alloc o) := below_alloc (Below.refl _ _) o
theorem bel_q (w : World) (o : Obj) (n : Nat) : Below w.heap.size w ((w.alloc o).drewN n) := pw_below_drewN (bel_a w o) n

/-- the formula as a value -/
abbrev ag (x : S25) (A3 : Option Addr) (c3 : Nat) (A4 : Option Addr) (c4 : Nat) (A5 : Option Addr) (c5 : Nat) : Value :=
  .agg #[.int .i64 x.f0, .int .i64 x.f1, .string x.f2, .slice A3 x.f3.length c3, .slice A4 x.f4.length c4, .slice A5 x.f5.length c5]

def bname (x : S25) : ByteArray := if (bindsF x).isSome then x.f2 else ⟨#[]⟩
def barity (x : S25) : Int := (bindsF x).getD 0
def bis (x : S25) : Bool := (bindsF x).isSome

set_option maxHeartbeats 800000 in
set_option maxRecDepth 100000 in
theorem binds_calls (x : S25) (A3 : Option Addr) (c3 : Nat) (A4 : Option Addr) (c4 : Nat) (A5 : Option Addr) (c5 : Nat) (w : World) :
    Calls Tryz.prog 230 #[ag x A3 c3 A4 c4 A5 c5] w fun e w' => e = .returned (.tuple #[.string (bname x), .int .i64 (barity x), .bool (bis x)]) ∧ Below w.heap.size w w' := by
  have hu25 := Tryz.underlying25
  go_enter Tryz.func230, Tryz.ntmps230
  go_wp2
  all_goals (try (go_quiet (fail); go_wp2))
  all_goals go_ret3
  all_goals refine ⟨ret3 ?_ ?_ ?_, ?_⟩
  all_goals (first | exact bel_q _ _ _ | exact bel_a _ _ | (simp only [beq_iff_eq, beq_eq_false_iff_ne] at *; simp [bname, barity, bis, bindsF, *]; done))
end Go.Proofs.YtjjnjnnfebifnaaGreatDoor.Rn
namespace Go.Proofs.YtjjnjnnfebifnaaGreatDoor.Rn
open Go.RowKit Go.Proofs.YtjjnjnnfebifnaaGreatDoorW.PrintWords Go.Proofs.YtjjnjnnfebifnaaGreatDoorW.PrintLast Go.Proofs.YtjjnjnnfebifnaaGreatDoor.PReachNormal

mutual
/-- no length is greater than B -/
def fineB (B : Nat) : S25 → Bool
  | ⟨k, a, n, vs, ar, ks⟩ => decide (n.size ≤ B ∧ vs.length ≤ B ∧ ar.length ≤ B ∧ ks.length ≤ B) && fineLB B ks
def fineLB (B : Nat) : List S25 → Bool
  | [] => true
  | f :: l => fineB B f && fineLB B l
end
abbrev fine (x : S25) : Bool := fineB 12000 x
abbrev fineL (l : List S25) : Bool := fineLB 12000 l
theorem fineL_mem {B : Nat} : ∀ {l : List S25} {y : S25}, fineLB B l = true → y ∈ l → fineB B y = true
  | [], y, _, h => by cases h
  | f :: l, y, h, hy => by
    unfold fineLB at h
    rw [Bool.and_eq_true] at h
    rcases List.mem_cons.1 hy with rfl | hy
    · exact h.1
    · exact fineL_mem h.2 hy
theorem fine_len {B : Nat} {x : S25} (h : fineB B x = true) : x.f2.size ≤ B ∧ x.f3.length ≤ B ∧ x.f4.length ≤ B ∧ x.f5.length ≤ B := by
  cases x; unfold fineB at h; rw [Bool.and_eq_true, decide_eq_true_eq] at h; exact h.1
theorem fine_kids {B : Nat} {x : S25} (h : fineB B x = true) : fineLB B x.f5 = true := by
  cases x; unfold fineB at h; rw [Bool.and_eq_true] at h; exact h.2
theorem fine_mem {B : Nat} {x y : S25} (h : fineB B x = true) (hy : y ∈ x.f5) : fineB B y = true := fineL_mem (fine_kids h) hy
theorem sizeL_mem : ∀ {l : List S25} {y : S25}, y ∈ l → size y ≤ sizeL l
  | [], y, h => by cases h
  | f :: l, y, h => by
    have e : sizeL (f :: l) = size f + sizeL l := by conv => lhs; unfold sizeL
    rcases List.mem_cons.1 h with rfl | h
    · omega
    · have := sizeL_mem h; omega
theorem size_mem {x y : S25} (hy : y ∈ x.f5) : size y < size x := by
  cases x
  have := sizeL_mem hy
  conv => rhs; unfold size
  simp only at *; omega

theorem bcell {W w1 : World} (hb : Below W.heap.size W w1) : (∀ b o, b < W.heap.size → w1.cell? ⟨b, o, none⟩ = W.cell? ⟨b, o, none⟩) ∧ (∀ b o, b < W.heap.size → w1.frozen? ⟨b, o, none⟩ = W.frozen? ⟨b, o, none⟩) :=
  ⟨fun b o h => hb.cell (p := ⟨b, o, none⟩) h, fun b o h => hb.frozen (p := ⟨b, o, none⟩) h⟩

theorem size_alloc (w : World) (o : Obj) : (w.alloc o).heap.size = w.heap.size + 1 := Array.size_push o
theorem one_lt {w w1 : World} {o : Obj} (hb : Below (w.alloc o).heap.size (w.alloc o) w1) : w.heap.size < w1.heap.size := by
  have := hb.size; rw [size_alloc] at this; omega
theorem two_lt {w w1 : World} {o o' : Obj} (hb : Below ((w.alloc o).alloc o').heap.size ((w.alloc o).alloc o') w1) : w.heap.size + 1 < w1.heap.size := by
  have := hb.size; rw [size_alloc, size_alloc] at this; omega

theorem callRuns (g : FuncId) (hg : ∃ fn, Tryz.prog.funcs[g]? = some fn ∧ ∃ c, fn.body = some c ∧ (fn.name == "runtime.NumGoroutine") = false) (args : Array Value) (w : World) : (callFunc g args).run Tryz.prog w = .ok (.enter g args) w := by
  obtain ⟨fn, hf, c, hb, hn⟩ := hg
  exact MuLone.run_callFunc_enter hf hn hb args w

theorem bel_aa (w : World) (o o' : Obj) : Below w.heap.size w ((w.alloc o).alloc o') := below_alloc (bel_a w o) o'
theorem bytes_eq (a b : ByteArray) : (a.toList == b.toList) = decide (a = b) := by
  rw [Bool.eq_iff_iff, beq_iff_eq, decide_eq_true_eq, ByteArray.toList_eq, ByteArray.toList_eq]
  constructor
  · intro h
    cases a; cases b
    simp only [ByteArray.mk.injEq]
    exact Array.toList_inj.1 h
  · rintro rfl; rfl
theorem occL_any (s : ByteArray) : ∀ l : List S25, occL s l = l.any (occ s)
  | [] => rfl
  | f :: l => by unfold occL; rw [occL_any s l]; rfl
theorem occ_bind {x : S25} {s : ByteArray} (h0 : (x.f0 == 0) = false) (hb : bis x = true) (he : ((bname x).toList == s.toList) = true) : occ s x = false := by
  cases x
  rw [bytes_eq, decide_eq_true_eq] at he
  unfold occ
  unfold bname at he
  unfold bis at hb
  rw [if_pos hb] at he
  simp only [beq_eq_false_iff_ne] at h0
  rw [if_neg h0, if_pos ⟨hb, he⟩]
theorem occ_kids {x : S25} {s : ByteArray} (h0 : (x.f0 == 0) = false) (h : bis x = false ∨ ((bname x).toList == s.toList) = false) : occ s x = x.f5.any (occ s) := by
  cases x
  rw [bytes_eq, decide_eq_false_iff_not] at h
  conv => lhs; unfold occ
  simp only [beq_eq_false_iff_ne] at h0
  rw [if_neg h0, if_neg, occL_any]
  rintro ⟨hb, he⟩
  rcases h with h | h
  · unfold bis at h; rw [h] at hb; cases hb
  · unfold bname at h; rw [if_pos hb] at h; exact h he
theorem bel_aat {w w1 w2 : World} {o o' : Obj} (h : Below ((w.alloc o).alloc o').heap.size ((w.alloc o).alloc o') w1) (k : Below w1.heap.size w1 w2) : Below w.heap.size w w2 :=
  below_step (below_step (bel_aa w o o') h) k
theorem occ_zero {x : S25} {s : ByteArray} (h : (x.f0 == 0) = true) : occ s x = (x.f2.toList == s.toList) := by
  cases x
  unfold occ
  simp only [beq_iff_eq] at h
  rw [if_pos h, bytes_eq]

/-- what is proved of 'occurs' at formulas of at most n parts -/
def OccOk (n : Nat) : Prop := ∀ (x : S25) (s : ByteArray) (A3 : Option Addr) (c3 : Nat) (A4 : Option Addr) (c4 : Nat) (A5 : Option Addr) (c5 : Nat) (w : World), size x ≤ n → fine x = true → Lay w x A3 c3 A4 c4 A5 c5 →
    Calls Tryz.prog 241 #[ag x A3 c3 A4 c4 A5 c5, .string s] w fun e w' => e = .returned (.bool (occ s x)) ∧ Below w.heap.size w w'

theorem lay_alloc {w : World} {x : S25} {A3 : Option Addr} {c3 : Nat} {A4 : Option Addr} {c4 : Nat} {A5 : Option Addr} {c5 : Nat} (h : Lay w x A3 c3 A4 c4 A5 c5) (o : Obj) : Lay (w.alloc o) x A3 c3 A4 c4 A5 c5 := h.below (bel_a w o)

set_option maxHeartbeats 800000 in
set_option maxRecDepth 100000 in
theorem occurs_fn (n : Nat) (IH : OccOk n) (s : ByteArray) (b : Nat) (l : List S25) (w0 : World) (hc : w0.cell? ⟨b, 0, none⟩ = some (.string s)) (hs : ∀ y ∈ l, size y ≤ n) (hf : fineL l = true) :
    Asks 303 #[.pointer (some ⟨b, 0, none⟩)] (occ s) l w0 := by
  intro y A3 c3 A4 c4 A5 c5 w hy hb hL
  have hcw : w.cell? ⟨b, 0, none⟩ = some (.string s) := (hb.cell (World.block_lt_of_cell? w0 _ hc)).trans hc
  have hblt : b < w.heap.size := World.block_lt_of_cell? w _ hcw
  have HC := Aside0.mk (IH y s A3 c3 A4 c4 A5 c5 _ (hs y hy) (fineL_mem hf hy) (lay_alloc hL (.cells #[.int .i64 y.f0, .int .i64 y.f1, .string y.f2, .slice A3 y.f3.length c3, .slice A4 y.f4.length c4, .slice A5 y.f5.length c5] 25)))
  clear hL IH hs hf hb hc
  have hu25 := Tryz.underlying25
  go_enter Tryz.func303, Tryz.ntmps303
  go_wp2_with (go_at_call 241; refine (HC.out).mono ?_; rintro e w1 ⟨rfl, hb⟩; have HB := Aside0.mk hb; clear hb)
  go_ret
  exact ⟨rfl, (bel_a _ _).trans (HB.out.mono (by rw [size_alloc]; omega))⟩

set_option maxHeartbeats 800000 in
set_option maxRecDepth 100000 in
theorem occurs_calls (n : Nat) : OccOk n := by
  induction n with
  | zero => intro x s A3 c3 A4 c4 A5 c5 w hn; cases x; unfold size at hn; omega
  | succ n ih =>
    intro x s A3 c3 A4 c4 A5 c5 w hn hf hL
    have hu25 := Tryz.underlying25
    have HF := Aside0.mk hf
    have HL := Aside0.mk hL
    have HN := Aside0.mk hn
    have IH := Aside0.mk ih
    have hg := callRuns 303 ⟨_, Tryz.func303, _, rfl, by kernel_rfl⟩
    have HG := Aside0.mk hg
    clear hf hL hn ih hg
    go_enter Tryz.func241, Tryz.ntmps241
    go_wp2_with (first
      | (go_at_call 230; refine (binds_calls x A3 c3 A4 c4 A5 c5 _).mono ?_; rintro e w1 ⟨rfl, hb⟩; obtain ⟨hc, hfz⟩ := bcell hb; have hz := two_lt hb; have HB := Aside0.mk hb; clear hb)
      | (go_at_call 93; refine (cont 303 #[.pointer (some ⟨w.heap.size + 1, 0, none⟩)] (occ s) A5 c5 x.f5 _ (by have := (fine_len HF.out).2.2.2; omega) (Kd.C_below ((lay_alloc (lay_alloc HL.out _) _).g5) HB.out) HG.out (occurs_fn n IH.out s _ x.f5 _ (by go_simp) (fun y hy => by have := size_mem hy; have := HN.out; omega) (fine_kids HF.out))).mono ?_; rintro e w2 ⟨rfl, hb2⟩; have HB2 := Aside0.mk hb2; clear hb2))
    · go_ret
      exact ⟨ret_bool (by rw [occ_zero ‹_›]), bel_aa _ _ _⟩
    · go_ret
      exact ⟨ret_bool (occ_bind ‹_› ‹_› ‹_›).symm, below_step (bel_aa _ _ _) HB.out⟩
    · go_ret
      exact ⟨ret_bool (occ_kids ‹_› (Or.inr ‹_›)).symm, bel_aat HB.out HB2.out⟩
    · go_ret
      exact ⟨ret_bool (occ_kids ‹_› (Or.inl (Bool.eq_false_iff.2 ‹¬ bis x = true›))).symm, bel_aat HB.out HB2.out⟩
end Go.Proofs.YtjjnjnnfebifnaaGreatDoor.Rn
namespace Go.Proofs.YtjjnjnnfebifnaaGreatDoor.Rn
open Go.RowKit Go.Proofs.YtjjnjnnfebifnaaGreatDoorW.PrintWords Go.Proofs.YtjjnjnnfebifnaaGreatDoorW.PrintLast Go.Proofs.YtjjnjnnfebifnaaGreatDoor.PReachNormal

theorem shapes_kids {shp : Fm → Bool} {x : S25} (h : shapes shp x = true) : shp x = true ∧ shapesL shp x.f5 = true := by
  cases x; unfold shapes at h; rwa [Bool.and_eq_true] at h
theorem shapesL_mem {shp : Fm → Bool} : ∀ {l : List S25} {y : S25}, shapesL shp l = true → y ∈ l → shapes shp y = true
  | [], y, _, h => by cases h
  | f :: l, y, h, hy => by
    unfold shapesL at h
    rw [Bool.and_eq_true] at h
    rcases List.mem_cons.1 hy with rfl | hy
    · exact h.1
    · exact shapesL_mem h.2 hy

theorem atom_eq (x : S25) : atomF x = ((x.f0 == 0) || (x.f0 == 1) || (x.f0 == 2)) := by
  unfold atomF
  rw [Bool.eq_iff_iff]
  simp [or_assoc]

set_option maxHeartbeats 800000 in
set_option maxRecDepth 100000 in
theorem atom_calls (x : S25) (A3 : Option Addr) (c3 : Nat) (A4 : Option Addr) (c4 : Nat) (A5 : Option Addr) (c5 : Nat) (w : World) :
    Calls Tryz.prog 140 #[ag x A3 c3 A4 c4 A5 c5] w fun e w' => e = .returned (.bool (atomF x)) ∧ Below w.heap.size w w' := by
  have hu25 := Tryz.underlying25
  go_enter Tryz.func140, Tryz.ntmps140
  go_wp2
  all_goals go_ret
  all_goals refine ⟨ret_bool ?_, bel_a _ _⟩
  all_goals rw [atom_eq]
  all_goals (simp [*]; done)

/-- what is proved of 'plain' at formulas of at most n parts -/
def PlainOk (n : Nat) : Prop := ∀ (x : S25) (A3 : Option Addr) (c3 : Nat) (A4 : Option Addr) (c4 : Nat) (A5 : Option Addr) (c5 : Nat) (w : World), size x ≤ n → fine x = true → Lay w x A3 c3 A4 c4 A5 c5 →
    Calls Tryz.prog 141 #[ag x A3 c3 A4 c4 A5 c5] w fun e w' => e = .returned (.bool (plainF x)) ∧ Below w.heap.size w w'

set_option maxHeartbeats 800000 in
set_option maxRecDepth 100000 in
theorem plain_fn (n : Nat) (IH : PlainOk n) (l : List S25) (w0 : World) (hs : ∀ y ∈ l, size y ≤ n) (hf : fineL l = true) :
    Asks 212 #[] (fun y => !plainF y) l w0 := by
  intro y A3 c3 A4 c4 A5 c5 w hy hb hL
  have HC := Aside0.mk (IH y A3 c3 A4 c4 A5 c5 _ (hs y hy) (fineL_mem hf hy) (lay_alloc hL (.cells #[.int .i64 y.f0, .int .i64 y.f1, .string y.f2, .slice A3 y.f3.length c3, .slice A4 y.f4.length c4, .slice A5 y.f5.length c5] 25)))
  clear hL IH hs hf hb
  have hu25 := Tryz.underlying25
  go_enter Tryz.func212, Tryz.ntmps212
  go_wp2_with (go_at_call 141; refine (HC.out).mono ?_; rintro e w1 ⟨rfl, hb⟩; have HB := Aside0.mk hb; clear hb)
  go_ret
  exact ⟨rfl, below_step (bel_a _ _) HB.out⟩

theorem plainL_any : ∀ l : List S25, plainL l = !l.any (fun y => !plainF y)
  | [] => rfl
  | f :: l => by unfold plainL; rw [plainL_any l]; simp
theorem plain_kids {x : S25} (h : (x.f0 == 3) = true ∨ (x.f0 == 4) = true ∨ (x.f0 == 5) = true) : plainF x = !x.f5.any (fun y => !plainF y) := by
  cases x
  simp only [beq_iff_eq] at h
  conv => lhs; unfold plainF
  rw [if_pos h, plainL_any]
theorem plain_atom {x : S25} (h : (x.f0 == 3) = false) (h' : (x.f0 == 4) = false) (h'' : (x.f0 == 5) = false) : plainF x = atomF x := by
  cases x
  simp only [beq_eq_false_iff_ne] at h h' h''
  conv => lhs; unfold plainF
  rw [if_neg (by omega)]

set_option maxHeartbeats 800000 in
set_option maxRecDepth 100000 in
theorem plain_calls (n : Nat) : PlainOk n := by
  induction n with
  | zero => intro x A3 c3 A4 c4 A5 c5 w hn; cases x; unfold size at hn; omega
  | succ n ih =>
    intro x A3 c3 A4 c4 A5 c5 w hn hf hL
    have hu25 := Tryz.underlying25
    have HF := Aside0.mk hf
    have HL := Aside0.mk hL
    have HN := Aside0.mk hn
    have IH := Aside0.mk ih
    have hg := callRuns 212 ⟨_, Tryz.func212, _, rfl, by kernel_rfl⟩
    have HG := Aside0.mk hg
    clear hf hL hn ih hg
    go_enter Tryz.func141, Tryz.ntmps141
    go_wp2_with (first
      | (go_at_call 140; refine (atom_calls x A3 c3 A4 c4 A5 c5 _).mono ?_; rintro e w1 ⟨rfl, hb⟩; have HB := Aside0.mk hb; clear hb)
      | (go_at_call 93; refine (cont 212 #[] (fun y => !plainF y) A5 c5 x.f5 _ (by have := (fine_len HF.out).2.2.2; omega) (lay_alloc HL.out _).g5 HG.out (plain_fn n IH.out x.f5 _ (fun y hy => by have := size_mem hy; have := HN.out; omega) (fine_kids HF.out))).mono ?_; rintro e w2 ⟨rfl, hb2⟩; have HB := Aside0.mk hb2; clear hb2))
    all_goals go_ret
    all_goals refine ⟨ret_bool ?_, below_step (bel_a _ _) HB.out⟩
    all_goals first
      | exact (plain_atom ‹_› ‹_› ‹_›).symm
      | exact (plain_kids (Or.inl ‹_›)).symm
      | exact (plain_kids (Or.inr (Or.inl ‹_›))).symm
      | exact (plain_kids (Or.inr (Or.inr ‹_›))).symm

/-- what is proved of 'normal' at formulas of at most n parts -/
def NormOk (n : Nat) : Prop := ∀ (shp : Fm → Bool), OneKid shp → ∀ (x : S25) (A3 : Option Addr) (c3 : Nat) (A4 : Option Addr) (c4 : Nat) (A5 : Option Addr) (c5 : Nat) (w : World), size x ≤ n → fine x = true → shapes shp x = true → Lay w x A3 c3 A4 c4 A5 c5 →
    Calls Tryz.prog 79 #[ag x A3 c3 A4 c4 A5 c5] w fun e w' => e = .returned (.bool (normF x)) ∧ Below w.heap.size w w'

set_option maxHeartbeats 800000 in
set_option maxRecDepth 100000 in
theorem norm_fn (n : Nat) (IH : NormOk n) (shp : Fm → Bool) (H : OneKid shp) (l : List S25) (w0 : World) (hs : ∀ y ∈ l, size y ≤ n) (hf : fineL l = true) (hsh : shapesL shp l = true) :
    Asks 142 #[] (fun y => !normF y) l w0 := by
  intro y A3 c3 A4 c4 A5 c5 w hy hb hL
  have HC := Aside0.mk (IH shp H y A3 c3 A4 c4 A5 c5 _ (hs y hy) (fineL_mem hf hy) (shapesL_mem hsh hy) (lay_alloc hL (.cells #[.int .i64 y.f0, .int .i64 y.f1, .string y.f2, .slice A3 y.f3.length c3, .slice A4 y.f4.length c4, .slice A5 y.f5.length c5] 25)))
  clear hL IH hs hf hb hsh H
  have hu25 := Tryz.underlying25
  go_enter Tryz.func142, Tryz.ntmps142
  go_wp2_with (go_at_call 79; refine (HC.out).mono ?_; rintro e w1 ⟨rfl, hb⟩; have HB := Aside0.mk hb; clear hb)
  go_ret
  exact ⟨rfl, below_step (bel_a _ _) HB.out⟩

theorem normL_any : ∀ l : List S25, normL l = !l.any (fun y => !normF y)
  | [] => rfl
  | f :: l => by unfold normL; rw [normL_any l]; simp
theorem norm_kids {x : S25} (h3 : (x.f0 == 3) = false) (h10 : (x.f0 == 10) = false) (h : (x.f0 == 4) = true ∨ (x.f0 == 5) = true ∨ (x.f0 == 6) = true) : normF x = !x.f5.any (fun y => !normF y) := by
  cases x
  simp only [beq_iff_eq, beq_eq_false_iff_ne] at h h3 h10
  conv => lhs; unfold normF
  rw [if_neg h3, if_neg h10, if_pos h, normL_any]
theorem norm_atom {x : S25} (h3 : (x.f0 == 3) = false) (h10 : (x.f0 == 10) = false) (h : (x.f0 == 4) = false) (h' : (x.f0 == 5) = false) (h'' : (x.f0 == 6) = false) : normF x = atomF x := by
  cases x
  simp only [beq_eq_false_iff_ne] at h3 h10 h h' h''
  conv => lhs; unfold normF
  rw [if_neg h3, if_neg h10, if_neg (by omega)]
theorem norm_not {x y : S25} (h3 : (x.f0 == 3) = true) (hk : x.f5[0]? = some y) : normF x = atomF y := by
  obtain ⟨k, a, n, vs, ar, ks⟩ := x
  simp only [beq_iff_eq] at h3 hk
  cases ks with
  | nil => simp at hk
  | cons f l =>
    simp at hk; subst hk
    conv => lhs; unfold normF
    rw [if_pos h3]
theorem norm_tc {x y : S25} (h3 : (x.f0 == 3) = false) (h10 : (x.f0 == 10) = true) (hk : x.f5[0]? = some y) : normF x = plainF y := by
  obtain ⟨k, a, n, vs, ar, ks⟩ := x
  simp only [beq_iff_eq, beq_eq_false_iff_ne] at h3 h10 hk
  cases ks with
  | nil => simp at hk
  | cons f l =>
    simp at hk; subst hk
    conv => lhs; unfold normF
    rw [if_neg h3, if_pos h10]

set_option maxHeartbeats 800000 in
set_option maxRecDepth 100000 in
theorem norm_calls (n : Nat) : NormOk n := by
  induction n with
  | zero => intro shp H x A3 c3 A4 c4 A5 c5 w hn; cases x; unfold size at hn; omega
  | succ n ih =>
    intro shp H x A3 c3 A4 c4 A5 c5 w hn hf hsh hL
    have hu25 := Tryz.underlying25
    have HF := Aside0.mk hf
    have HL := Aside0.mk hL
    have HN := Aside0.mk hn
    have IH := Aside0.mk ih
    have HS := Aside0.mk hsh
    have HH := Aside0.mk H
    have hg := callRuns 142 ⟨_, Tryz.func142, _, rfl, by kernel_rfl⟩
    have HG := Aside0.mk hg
    clear hf hL hn ih hg hsh H
    by_cases hk : x.f0 = 3 ∨ x.f0 = 10
    · have h1 : 0 < x.f5.length := by
        obtain ⟨g, hg⟩ := (HH.out x (shapes_kids HS.out).1).1 (by omega)
        rw [hg]; simp
      obtain ⟨y, ad, B3, d3, B4, d4, B5, d5, hx, rfl, h0, h1', h2, h3, h4, h5, hLy⟩ := kid_at (lay_alloc HL.out (.cells #[.int .i64 x.f0, .int .i64 x.f1, .string x.f2, .slice A3 x.f3.length c3, .slice A4 x.f4.length c4, .slice A5 x.f5.length c5] 25)).g5 0 h1
      have HX := Aside0.mk hx
      have HLY := Aside0.mk hLy
      have hy := List.mem_of_getElem? hx
      have HFY := Aside0.mk (fine_mem HF.out hy)
      clear hx hLy hy
      simp only [Nat.zero_mul, Addr.add_zero'] at h0 h1' h2 h3 h4 h5
      by_cases k3 : x.f0 = 3
      · have e3 : (x.f0 == 3) = true := by rw [beq_iff_eq]; exact k3
        clear k3 hk
        go_enter Tryz.func79, Tryz.ntmps79
        go_wp2_with (first
          | (go_at_call 140; refine (atom_calls y B3 d3 B4 d4 B5 d5 _).mono ?_; rintro e w1 ⟨rfl, hb⟩; have HB := Aside0.mk hb; clear hb))
        go_ret
        exact ⟨ret_bool (norm_not e3 HX.out).symm, below_step (bel_a _ _) HB.out⟩
      · have e3 : (x.f0 == 3) = false := by rw [beq_eq_false_iff_ne]; exact k3
        have e10 : (x.f0 == 10) = true := by rw [beq_iff_eq]; omega
        clear k3 hk
        go_enter Tryz.func79, Tryz.ntmps79
        go_wp2_with (first
          | (go_at_call 141; refine (plain_calls (size y) y B3 d3 B4 d4 B5 d5 _ (Nat.le_refl _) HFY.out HLY.out).mono ?_; rintro e w1 ⟨rfl, hb⟩; have HB := Aside0.mk hb; clear hb))
        go_ret
        exact ⟨ret_bool (norm_tc e3 e10 HX.out).symm, below_step (bel_a _ _) HB.out⟩
    · have h3 : (x.f0 == 3) = false := by rw [beq_eq_false_iff_ne]; omega
      have h10 : (x.f0 == 10) = false := by rw [beq_eq_false_iff_ne]; omega
      clear hk
      go_enter Tryz.func79, Tryz.ntmps79
      go_wp2_with (first
        | (go_at_call 140; refine (atom_calls x A3 c3 A4 c4 A5 c5 _).mono ?_; rintro e w1 ⟨rfl, hb⟩; have HB := Aside0.mk hb; clear hb)
        | (go_at_call 93; refine (cont 142 #[] (fun y => !normF y) A5 c5 x.f5 _ (by have := (fine_len HF.out).2.2.2; omega) (lay_alloc HL.out _).g5 HG.out (norm_fn n IH.out shp HH.out x.f5 _ (fun y hy => by have := size_mem hy; have := HN.out; omega) (fine_kids HF.out) (shapes_kids HS.out).2)).mono ?_; rintro e w2 ⟨rfl, hb2⟩; have HB := Aside0.mk hb2; clear hb2))
      all_goals go_ret
      all_goals refine ⟨ret_bool ?_, below_step (bel_a _ _) HB.out⟩
      all_goals first
        | exact (norm_atom h3 h10 ‹_› ‹_› ‹_›).symm
        | exact (norm_kids h3 h10 (Or.inl ‹_›)).symm
        | exact (norm_kids h3 h10 (Or.inr (Or.inl ‹_›))).symm
        | exact (norm_kids h3 h10 (Or.inr (Or.inr ‹_›))).symm
end Go.Proofs.YtjjnjnnfebifnaaGreatDoor.Rn
namespace Go.Proofs.YtjjnjnnfebifnaaGreatDoor.Rn
open Go.RowKit Go.Proofs.YtjjnjnnfebifnaaGreatDoorW.PrintWords Go.Proofs.YtjjnjnnfebifnaaGreatDoorW.PrintLast Go.Proofs.YtjjnjnnfebifnaaGreatDoor.PReachNormal

/-- the box of a formula -/
abbrev bx (x : S25) (A3 : Option Addr) (c3 : Nat) (A4 : Option Addr) (c4 : Nat) (A5 : Option Addr) (c5 : Nat) : Obj :=
  .cells #[.int .i64 x.f0, .int .i64 x.f1, .string x.f2, .slice A3 x.f3.length c3, .slice A4 x.f4.length c4, .slice A5 x.f5.length c5] 25

theorem pos_zero {x : S25} {s : ByteArray} {even : Bool} (h : (x.f0 == 0) = true) : pos s x even = (!(x.f2.toList == s.toList) || even) := by
  cases x
  unfold pos
  simp only [beq_iff_eq] at h
  rw [if_pos h, bytes_eq]
theorem pos_bind {x : S25} {s : ByteArray} {even : Bool} (h0 : (x.f0 == 0) = false) (hb : bis x = true) (he : ((bname x).toList == s.toList) = true) : pos s x even = true := by
  cases x
  rw [bytes_eq, decide_eq_true_eq] at he
  unfold pos
  unfold bname at he
  unfold bis at hb
  rw [if_pos hb] at he
  simp only [beq_eq_false_iff_ne] at h0
  rw [if_neg h0, if_pos ⟨hb, he⟩]
theorem not_bind {x : S25} {s : ByteArray} (h : bis x = false ∨ ((bname x).toList == s.toList) = false) : ¬ ((bindsF x).isSome = true ∧ x.f2 = s) := by
  rw [bytes_eq, decide_eq_false_iff_not] at h
  rintro ⟨hb, he⟩
  rcases h with h | h
  · unfold bis at h; rw [h] at hb; cases hb
  · unfold bname at h; rw [if_pos hb] at h; exact h he
theorem pos_pfp {x y : S25} {s : ByteArray} {even : Bool} (h0 : (x.f0 == 0) = false) (h : bis x = false ∨ ((bname x).toList == s.toList) = false) (h9 : (x.f0 == 9) = true) (hy : x.f5 = [y]) : pos s x even = !occ s y := by
  have hn := not_bind h
  obtain ⟨k, a, n, vs, ar, ks⟩ := x
  simp only [beq_iff_eq, beq_eq_false_iff_ne] at h0 h9 hy
  subst hy
  conv => lhs; unfold pos
  rw [if_neg h0, if_neg hn, if_pos h9]
  simp [occL]
theorem pos_kids {x : S25} {s : ByteArray} {even : Bool} (h0 : (x.f0 == 0) = false) (h : bis x = false ∨ ((bname x).toList == s.toList) = false) (h9 : (x.f0 == 9) = false) : pos s x even = posL s x.f5 (!(even == (x.f0 == 3))) := by
  have hn := not_bind h
  obtain ⟨k, a, n, vs, ar, ks⟩ := x
  simp only [beq_eq_false_iff_ne] at h0 h9
  conv => lhs; unfold pos
  rw [if_neg h0, if_neg hn, if_neg h9]
  cases even <;> rfl
theorem posL_no {s : ByteArray} {l : List S25} {k : Nat} {y : S25} {b : Bool} (h : l[k]? = some y) (hp : pos s y b = false) : posL s (l.drop k) b = false := by
  rw [drop_at h]; unfold posL; rw [hp]; rfl
theorem posL_yes {s : ByteArray} {l : List S25} {k : Nat} {y : S25} {b : Bool} (h : l[k]? = some y) (hp : pos s y b = true) : posL s (l.drop k) b = posL s (l.drop (k + 1)) b := by
  rw [drop_at h]; conv => lhs; unfold posL
  rw [hp]; rfl

def PosOk (n : Nat) : Prop := ∀ (shp : Fm → Bool), OneKid shp → ∀ (x : S25) (s : ByteArray) (even : Bool) (A3 : Option Addr) (c3 : Nat) (A4 : Option Addr) (c4 : Nat) (A5 : Option Addr) (c5 : Nat) (w : World), size x ≤ n → fine x = true → shapes shp x = true → Lay w x A3 c3 A4 c4 A5 c5 →
    Calls Tryz.prog 176 #[ag x A3 c3 A4 c4 A5 c5, .string s, .bool even] w fun e w' => e = .returned (.bool (pos s x even)) ∧ Below w.heap.size w w'

set_option maxHeartbeats 1600000 in
set_option maxRecDepth 100000 in
theorem pos_calls (n : Nat) : PosOk n := by
  induction n with
  | zero => intro shp H x s even A3 c3 A4 c4 A5 c5 w hn; cases x; unfold size at hn; omega
  | succ n ih =>
    intro shp H x s even A3 c3 A4 c4 A5 c5 w hn hf hsh hL
    have hu25 := Tryz.underlying25
    have HF := Aside0.mk hf
    have HL := Aside0.mk hL
    have HN := Aside0.mk hn
    have IH := Aside0.mk ih
    have HS := Aside0.mk hsh
    have HH := Aside0.mk H
    clear hf hL hn ih hsh H
    by_cases k9 : x.f0 = 9
    · have e9 : (x.f0 == 9) = true := by rw [beq_iff_eq]; exact k9
      obtain ⟨y, hy1⟩ := (HH.out x (shapes_kids HS.out).1).1 (by omega)
      have HY := Aside0.mk hy1
      have h1 : 0 < x.f5.length := by rw [hy1]; simp
      have e0 : (x.f0 == 0) = false := by rw [beq_eq_false_iff_ne]; omega
      clear hy1 k9
      have HFY := Aside0.mk (fine_mem HF.out (by rw [HY.out]; simp : y ∈ x.f5))
      go_enter Tryz.func176, Tryz.ntmps176
      go_wp2_with (first
        | (go_at_call 230; refine (binds_calls x A3 c3 A4 c4 A5 c5 _).mono ?_; rintro e w1 ⟨rfl, hb⟩; obtain ⟨hc, hfz⟩ := bcell hb; have hz := one_lt hb; have HB := Aside0.mk hb;
            obtain ⟨y', ad, B3, d3, B4, d4, B5, d5, hx, rfl, h0, h1', h2, h3, h4, h5, hLy⟩ := kid_at ((lay_alloc HL.out (bx x A3 c3 A4 c4 A5 c5)).below hb).g5 0 h1;
            obtain rfl : y = y' := (by rw [HY.out] at hx; simpa using hx);
            have HLY := Aside0.mk hLy; simp only [Nat.zero_mul, Addr.add_zero'] at h0 h1' h2 h3 h4 h5; clear hx hLy hb)
        | (go_at_call 241; refine (occurs_calls (size y) y s B3 d3 B4 d4 B5 d5 _ (Nat.le_refl _) HFY.out HLY.out).mono ?_; rintro e w2 ⟨rfl, hb⟩; have HB2 := Aside0.mk hb; clear hb))
      · go_ret
        exact ⟨ret_bool (pos_bind ‹_› ‹_› ‹_›).symm, below_step (bel_a _ _) HB.out⟩
      all_goals
        have hnb : bis x = false ∨ ((bname x).toList == s.toList) = false := by first | exact Or.inr ‹_› | exact Or.inl (Bool.eq_false_iff.2 ‹_›)
        have HP := Aside0.mk (pos_pfp (s := s) (even := even) e0 hnb e9 HY.out)
        go_ret
        exact ⟨ret_bool HP.out.symm, below_step (below_step (bel_a w _) HB.out) HB2.out⟩
    · have e9 : (x.f0 == 9) = false := by rw [beq_eq_false_iff_ne]; exact k9
      clear k9
      go_enter Tryz.func176, Tryz.ntmps176
      go_wp2_with (first
        | (go_at_call 230; refine (binds_calls x A3 c3 A4 c4 A5 c5 _).mono ?_; rintro e w1 ⟨rfl, hb⟩; obtain ⟨hc, hfz⟩ := bcell hb; have hz := one_lt hb; have HB := Aside0.mk hb; clear hb))
      · go_ret
        exact ⟨ret_bool (by rw [pos_zero ‹_›]; simp [*]), bel_a _ _⟩
      · go_ret
        exact ⟨ret_bool (by rw [pos_zero ‹_›]; simp [*]), bel_a _ _⟩
      · go_ret
        exact ⟨ret_bool (pos_bind ‹_› ‹_› ‹_›).symm, below_step (bel_a _ _) HB.out⟩
      all_goals
        have hnb : bis x = false ∨ ((bname x).toList == s.toList) = false := by first | exact Or.inr ‹_› | exact Or.inl (Bool.eq_false_iff.2 ‹_›)
        have HP := Aside0.mk (pos_kids (s := s) (even := even) ‹_› hnb e9)
        have HB1 := Aside0.mk (below_step (bel_a w (bx x A3 c3 A4 c4 A5 c5)) HB.out)
        have HL1 := Aside0.mk ((lay_alloc HL.out (bx x A3 c3 A4 c4 A5 c5)).below HB.out)
        have hq0 : w1.cell? ⟨w.heap.size, 0, none⟩ = some (.int .i64 x.f0) := by rw [hc _ _ (by simp)]; go_simp
        have HQ := Aside0.mk hq0
        clear hq0 hc hfz HB hnb
        try (rename ((bname x).toList == s.toList) = false => hh; clear hh)
        have hl5 : x.f5.length ≤ 12000 := (fine_len HF.out).2.2.2
        go_loopw [47] (fun i wr => ∃ k : Nat, k ≤ x.f5.length ∧ i = .int .i64 k ∧ Aside0 (Below w1.heap.size w1 wr) ∧ Aside0 (pos s x even = posL s (x.f5.drop k) (!(even == (x.f0 == 3))))) (fun i _ => x.f5.length - (intOf i).toNat)
        case atStart => exact ⟨0, Nat.zero_le _, rfl, ⟨Below.refl _ _⟩, ⟨by rw [List.drop_zero]; exact HP.out⟩⟩
        case round =>
          obtain ⟨k, hk, rfl, hB, hI⟩ := hrel
          by_cases hlt : k < x.f5.length
          · obtain ⟨y, ad, B3, d3, B4, d4, B5, d5, hx, rfl, h0, h1, h2, h3, h4, h5, hLy⟩ := kid_at (HL1.out.below hB.out).g5 k hlt
            have HX := Aside0.mk hx
            have HLY := Aside0.mk hLy
            have hy := List.mem_of_getElem? hx
            have HFY := Aside0.mk (fine_mem HF.out hy)
            have hq : wr.cell? ⟨w.heap.size, 0, none⟩ = some (.int .i64 x.f0) := (hB.out.cell (World.block_lt_of_cell? _ _ HQ.out)).trans HQ.out
            have hq1 : w.heap.size < wr.heap.size := World.block_lt_of_cell? _ _ hq
            have HSY := Aside0.mk (shapesL_mem (shapes_kids HS.out).2 hy)
            have HNY := Aside0.mk (show size y ≤ n by have := size_mem hy; have := HN.out; omega)
            clear hx hLy hy
            go_wp2_with (go_at_call 176; refine (IH.out shp HH.out y s (!(even == (x.f0 == 3))) B3 d3 B4 d4 B5 d5 _ HNY.out HFY.out HSY.out (lay_alloc HLY.out _)).mono ?_; rintro e w2 ⟨rfl, hb2⟩; have HB2 := Aside0.mk (below_step (bel_a _ _) hb2); clear hb2)
            · go_ret
              exact ⟨ret_bool (hI.out.trans (posL_no HX.out ((Bool.not_eq_true' _).mp ‹_›))).symm, below_step HB1.out (below_step hB.out HB2.out)⟩
            · go_roundw
              case rel => exact ⟨k + 1, by omega, by go_num, ⟨below_step hB.out HB2.out⟩, ⟨hI.out.trans (posL_yes HX.out ((Bool.not_eq_false' _).mp ‹_›))⟩⟩
              case measure => simp [intOf]; omega
          · go_wp2_with fail
            go_ret
            exact ⟨ret_bool (by rw [hI.out, List.drop_eq_nil_of_le (by omega)]; rfl), below_step HB1.out hB.out⟩
end Go.Proofs.YtjjnjnnfebifnaaGreatDoor.Rn
namespace Go.Proofs.YtjjnjnnfebifnaaGreatDoor.Rn
open Go.RowKit Go.Proofs.YtjjnjnnfebifnaaGreatDoorW.PrintWords Go.Proofs.YtjjnjnnfebifnaaGreatDoorW.PrintLast Go.Proofs.YtjjnjnnfebifnaaGreatDoor.PReachNormal

mutual
/-- count: what stands in n behind it, and its answer -/
def cq : S25 → Nat → Nat → Nat × Bool
  | ⟨k, a, nm, vs, ar, ks⟩, deep, n =>
    if n + 1 + vs.length + ar.length + nm.size > 12000 ∨ deep > 100 then (n + 1 + vs.length + ar.length + nm.size, true)
    else cqL ks (deep + 1) (n + 1 + vs.length + ar.length + nm.size)
def cqL : List S25 → Nat → Nat → Nat × Bool
  | [], _, n => (n, false)
  | f :: l, deep, n => if (cq f deep n).2 then cq f deep n else cqL l deep (cq f deep n).1
end

abbrev cnum (x : S25) (n : Nat) : Nat := n + 1 + x.f3.length + x.f4.length + x.f2.size
theorem cq_big {x : S25} {deep n : Nat} (h : cnum x n > 12000 ∨ deep > 100) : cq x deep n = (cnum x n, true) := by
  cases x; unfold cq; rw [if_pos h]
theorem cq_small {x : S25} {deep n : Nat} (h : ¬ (cnum x n > 12000 ∨ deep > 100)) : cq x deep n = cqL x.f5 (deep + 1) (cnum x n) := by
  cases x; conv => lhs; unfold cq
  rw [if_neg h]

theorem cells_num {w : World} {g : Nat} {t : TypeId} {k : IntKind} {a b : Int} (h : w.heap[g]? = some (.cells #[.int k a] t (0, 0))) (e : a = b) : w.heap[g]? = some (.cells #[.int k b] t (0, 0)) := by rw [← e]; exact h

mutual
theorem cq_no : ∀ (x : S25) (deep n : Nat), (cq x deep n).2 = false → n + size x ≤ (cq x deep n).1 ∧ (cq x deep n).1 ≤ 12000 ∧ fine x = true
  | ⟨k, a, nm, vs, ar, ks⟩, deep, n, h => by
    have hsz : size ⟨k, a, nm, vs, ar, ks⟩ = 1 + sizeL ks := by conv => lhs; unfold size
    have hfi : fine ⟨k, a, nm, vs, ar, ks⟩ = (decide (nm.size ≤ 12000 ∧ vs.length ≤ 12000 ∧ ar.length ≤ 12000 ∧ ks.length ≤ 12000) && fineLB 12000 ks) := by conv => lhs; unfold fine fineB
    rw [hsz, hfi]
    unfold cq at h ⊢
    by_cases hc : n + 1 + vs.length + ar.length + nm.size > 12000 ∨ deep > 100
    · rw [if_pos hc] at h; simp at h
    · rw [if_neg hc] at h ⊢
      have ih := cqL_no ks (deep + 1) _ (by omega) h
      refine ⟨by omega, by omega, ?_⟩
      rw [Bool.and_eq_true, decide_eq_true_eq]
      exact ⟨⟨by omega, by omega, by omega, by omega⟩, ih.2.2.1⟩
theorem cqL_no : ∀ (l : List S25) (deep n : Nat), n ≤ 12000 → (cqL l deep n).2 = false → n + sizeL l ≤ (cqL l deep n).1 ∧ (cqL l deep n).1 ≤ 12000 ∧ fineLB 12000 l = true ∧ n + l.length ≤ (cqL l deep n).1
  | [], deep, n, hn, h => by unfold cqL sizeL fineLB; simp [hn]
  | f :: l, deep, n, hn, h => by
    have hsz : sizeL (f :: l) = size f + sizeL l := by conv => lhs; unfold sizeL
    have hfi : fineLB 12000 (f :: l) = (fine f && fineLB 12000 l) := by conv => lhs; unfold fineLB
    have h1 : 1 ≤ size f := by cases f; unfold size; omega
    rw [hsz, hfi]
    unfold cqL at h ⊢
    cases hr : (cq f deep n).2 with
    | true => rw [hr] at h; simp [hr] at h
    | false =>
      rw [hr] at h
      simp only [Bool.false_eq_true, if_false] at h ⊢
      have ih := cq_no f deep n hr
      have ih2 := cqL_no l deep _ ih.2.1 h
      refine ⟨by omega, by omega, ?_, by simp only [List.length_cons]; omega⟩
      rw [ih.2.2, ih2.2.2.1]; rfl
end

theorem cqL_yes {l : List S25} {k d n : Nat} {y : S25} (h : l[k]? = some y) (hp : (cq y d n).2 = true) : cqL (l.drop k) d n = ((cq y d n).1, true) := by
  rw [drop_at h]; unfold cqL; rw [if_pos hp, ← hp]
theorem cqL_no' {l : List S25} {k d n : Nat} {y : S25} (h : l[k]? = some y) (hp : (cq y d n).2 = false) : cqL (l.drop k) d n = cqL (l.drop (k + 1)) d (cq y d n).1 := by
  rw [drop_at h]; conv => lhs; unfold cqL
  rw [if_neg (by simp [hp])]

/-- w' is w with new blocks, and but for the blocks of S -/
structure Tch (S : Nat → Prop) (w w' : World) : Prop where
  os : w'.os = w.os
  tape : w'.tape = w.tape
  output : w'.output = w.output
  size : w.heap.size ≤ w'.heap.size
  block : ∀ i, i < w.heap.size → ¬ S i → w'.heap[i]? = w.heap[i]?
theorem Tch.refl (S : Nat → Prop) (w : World) : Tch S w w := ⟨rfl, rfl, rfl, Nat.le_refl _, fun _ _ _ => rfl⟩
theorem Tch.trans {S : Nat → Prop} {a b c : World} (h : Tch S a b) (k : Tch S b c) : Tch S a c :=
  ⟨k.os.trans h.os, k.tape.trans h.tape, k.output.trans h.output, Nat.le_trans h.size k.size, fun i hi hn => (k.block i (Nat.lt_of_lt_of_le hi h.size) hn).trans (h.block i hi hn)⟩
theorem Tch.mono {S T : Nat → Prop} {a b : World} (h : Tch S a b) (hs : ∀ i, i < a.heap.size → S i → T i) : Tch T a b :=
  ⟨h.os, h.tape, h.output, h.size, fun i hi hn => h.block i hi (fun k => hn (hs i hi k))⟩
theorem Tch.of_below {S : Nat → Prop} {w w' : World} (h : Below w.heap.size w w') : Tch S w w' := ⟨h.os, h.tape, h.output, h.size, fun i hi _ => h.block i hi⟩
theorem Tch.alloc (S : Nat → Prop) (w : World) (o : Obj) : Tch S w (w.alloc o) := Tch.of_below (bel_a w o)
theorem Tch.drew (S : Nat → Prop) (w : World) : Tch S w w.drew := ⟨rfl, rfl, rfl, Nat.le_refl _, fun _ _ _ => rfl⟩
theorem Tch.set {S : Nat → Prop} {w : World} {p : Addr} (hp : S p.block) (u : Value) : Tch S w (w.setCell p u) := by
  have h := (Below.refl 0 w).setCell (p := p) (Nat.zero_le _) u
  exact ⟨h.os, h.tape, h.output, h.size, fun i _ hn => Below.heap_setCell w p u i (fun e => hn (e ▸ hp))⟩
theorem Tch.blk {S : Nat → Prop} {w w' : World} (h : Tch S w w') {i : Nat} {o : Obj} (hb : w.heap[i]? = some o) (hn : ¬ S i) : w'.heap[i]? = some o := (h.block i (blk_lt hb) hn).trans hb
theorem Tch.below {S : Nat → Prop} {w0 w w' : World} (h : Below w0.heap.size w0 w) (k : Tch S w w') (hs : ∀ i, S i → w0.heap.size ≤ i) : Below w0.heap.size w0 w' :=
  ⟨k.os.trans h.os, k.tape.trans h.tape, k.output.trans h.output, Nat.le_trans h.size k.size, fun i hi => (k.block i (Nat.lt_of_lt_of_le hi h.size) (fun e => by have := hs i e; omega)).trans (h.block i hi)⟩

theorem two_new (w : World) (o o' : Obj) : ((w.alloc o).alloc o').heap[w.heap.size + 1]? = some o' := by
  have := blk_new (w.alloc o) o'; rwa [size_alloc] at this

/-- what is proved of 'count' at formulas of at most n parts -/
def CntOk (m : Nat) : Prop := ∀ (x : S25) (deep n b : Nat) (A3 : Option Addr) (c3 : Nat) (A4 : Option Addr) (c4 : Nat) (A5 : Option Addr) (c5 : Nat) (w0 w : World), size x ≤ m → fineB 140737488355328 x = true → deep ≤ 101 → n ≤ 12000 →
    Lay w0 x A3 c3 A4 c4 A5 c5 → Below w0.heap.size w0 w → w0.heap.size ≤ b → w.heap[b]? = some (.cells #[.int .i64 n] 3 (0, 0)) →
    Calls Tryz.prog 72 #[ag x A3 c3 A4 c4 A5 c5, .int .i64 deep, .pointer (some ⟨b, 0, none⟩)] w fun e w' =>
      e = .returned (.bool (cq x deep n).2) ∧ w'.heap[b]? = some (.cells #[.int .i64 (cq x deep n).1] 3 (0, 0)) ∧ Tch (· = b) w w'

set_option maxHeartbeats 1600000 in
set_option maxRecDepth 100000 in
theorem cnt_calls (m : Nat) : CntOk m := by
  induction m with
  | zero => intro x deep n b A3 c3 A4 c4 A5 c5 w0 w hn; cases x; unfold size at hn; omega
  | succ m ih =>
    intro x deep n b A3 c3 A4 c4 A5 c5 w0 w hn hf hd hn1 hL hb hbb hblk
    have hu25 := Tryz.underlying25
    have HF := Aside0.mk hf
    have HL := Aside0.mk hL
    have HN := Aside0.mk hn
    have IH := Aside0.mk ih
    have HB := Aside0.mk hb
    have HBK := Aside0.mk hblk
    have hlen := fine_len hf
    have hl3 := hlen.2.1
    have hl4 := hlen.2.2.1
    have hl2 := hlen.1
    have hcell : w.cell? ⟨b, 0, none⟩ = some (.int .i64 n) := (blk_cell hblk 0).trans rfl
    have hfz : w.frozen? ⟨b, 0, none⟩ = false := blk_frozen hblk 0
    have hblt : b < w.heap.size := blk_lt hblk
    clear hf hL hn ih hb hlen hblk
    have hW : ∀ u : Value, Tch (· = b) w ((w.setCell ⟨b, 0, none⟩ u).alloc (bx x A3 c3 A4 c4 A5 c5)).drew := fun u => ((Tch.set (S := (· = b)) (p := ⟨b, 0, none⟩) rfl u).trans (Tch.alloc _ _ _)).trans (Tch.drew _ _)
    have hWB : ∀ u : Value, ((w.setCell ⟨b, 0, none⟩ u).alloc (bx x A3 c3 A4 c4 A5 c5)).drew.heap[b]? = some (.cells #[u] 3 (0, 0)) := fun u => blk_drew (blk_alloc (blk_set HBK.out 0 u) _)
    have hWX : ∀ u : Value, ((w.setCell ⟨b, 0, none⟩ u).alloc (bx x A3 c3 A4 c4 A5 c5)).drew.heap[w.heap.size]? = some (bx x A3 c3 A4 c4 A5 c5) := fun u => blk_drew (by have := blk_new (w.setCell ⟨b, 0, none⟩ u) (bx x A3 c3 A4 c4 A5 c5); rwa [World.size_setCell] at this)
    have HW := Aside0.mk hW
    have HWB := Aside0.mk hWB
    have HWX := Aside0.mk hWX
    clear hW hWB hWX
    have hl5 := (fine_len HF.out).2.2.2
    go_enter Tryz.func72, Tryz.ntmps72
    go_wp2_with fail
    refine wp_region_still_tail 17 (by kernel_rfl) (by kernel_rfl) ?_
    simp only [List.take_succ_cons, List.take_zero, List.drop_succ_cons, List.drop_zero]
    change wpStill _ _ (World.drew (w.alloc (bx x A3 c3 A4 c4 A5 c5))) _ _ _
    repeat still_step
    refine wpStill_nil ?_
    change wpList _ _ _ _ _ (World.drew (w.alloc (bx x A3 c3 A4 c4 A5 c5)))
    go_wp2_with fail
    · have hq : 100 < (deep : Int) := by rcases ‹_ ∨ 100 < (deep : Int)› with h | h <;> omega
      have HQ := Aside0.mk (cq_big (x := x) (n := n) (deep := deep) (Or.inr (by omega)))
      go_ret
      exact ⟨ret_bool (by rw [HQ.out]), by rw [HQ.out]; exact cells_num (HWB.out _) (by unfold cnum; omega), HW.out _⟩
    · rename _ ∧ (deep : Int) ≤ 100 => hq
      have HQ := Aside0.mk (cq_small (x := x) (n := n) (deep := deep) (by unfold cnum; omega))
      have hnum : cnum x n ≤ 12000 := by unfold cnum; omega
      have hdq : deep + 1 ≤ 101 := by omega
      clear hq
      have HB0 := Aside0.mk (cells_num (HWB.out (.int .i64 ((n : Int) + 1 + x.f3.length + x.f4.length + x.f2.size))) (b := ((cnum x n : Nat) : Int)) (by unfold cnum; omega))
      go_loopw [7] (fun i wr => ∃ k nk : Nat, k ≤ x.f5.length ∧ nk ≤ 12000 ∧ i = .int .i64 k ∧ Aside0 (wr.heap[b]? = some (.cells #[.int .i64 nk] 3 (0, 0))) ∧ Aside0 (Tch (· = b) w wr) ∧ Aside0 (wr.heap[w.heap.size]? = some (bx x A3 c3 A4 c4 A5 c5)) ∧ Aside0 (cq x deep n = cqL (x.f5.drop k) (deep + 1) nk)) (fun i _ => x.f5.length - (intOf i).toNat)
      case atStart => exact ⟨0, cnum x n, Nat.zero_le _, hnum, rfl, HB0, ⟨HW.out _⟩, ⟨HWX.out _⟩, ⟨by rw [List.drop_zero]; exact HQ.out⟩⟩
      case round =>
        obtain ⟨k, nk, hk, hnk, rfl, hB, hT, hX, hI⟩ := hrel
        have hx5 : wr.cell? ⟨w.heap.size, 5, none⟩ = some (.slice A5 x.f5.length c5) := (blk_cell hX.out 5).trans rfl
        by_cases hlt : k < x.f5.length
        · have HB' := Aside0.mk (Tch.below HB.out hT.out (fun i e => by subst e; exact hbb))
          obtain ⟨y, ad, B3, d3, B4, d4, B5, d5, hx, rfl, h0, h1, h2, h3, h4, h5, hLy⟩ := kid_at HL.out.g5 k hlt
          replace h0 := (HB'.out.cell (World.block_lt_of_cell? w0 _ h0)).trans h0
          replace h1 := (HB'.out.cell (World.block_lt_of_cell? w0 _ h1)).trans h1
          replace h2 := (HB'.out.cell (World.block_lt_of_cell? w0 _ h2)).trans h2
          replace h3 := (HB'.out.cell (World.block_lt_of_cell? w0 _ h3)).trans h3
          replace h4 := (HB'.out.cell (World.block_lt_of_cell? w0 _ h4)).trans h4
          replace h5 := (HB'.out.cell (World.block_lt_of_cell? w0 _ h5)).trans h5
          have hy := List.mem_of_getElem? hx
          have HY := Aside0.mk (And.intro (show size y ≤ m by have := size_mem hy; have := HN.out; omega) (fine_mem HF.out hy))
          have HX := Aside0.mk hx
          have HLY := Aside0.mk hLy
          clear hx hLy hy
          go_wp2_with (go_at_call 72; refine (IH.out y (deep + 1) nk b B3 d3 B4 d4 B5 d5 w0 _ HY.out.1 HY.out.2 hdq hnk HLY.out HB'.out hbb hB.out).mono ?_; rintro e w2 ⟨rfl, hb2, ht2⟩; have HB2 := Aside0.mk hb2; have HT2 := Aside0.mk (hT.out.trans ht2); have HX2 := Aside0.mk (ht2.blk hX.out (by omega)); clear hb2 ht2)
          · go_ret
            exact ⟨ret_bool (by rw [hI.out, cqL_yes HX.out ‹_›]), by rw [hI.out, cqL_yes HX.out ‹_›]; exact HB2.out, HT2.out⟩
          · go_roundw
            case rel => exact ⟨k + 1, (cq y (deep + 1) nk).1, by omega, (cq_no y (deep + 1) nk ‹_›).2.1, by go_num, HB2, HT2, HX2, ⟨hI.out.trans (cqL_no' HX.out ‹_›)⟩⟩
            case measure => simp [intOf]; omega
        · go_wp2_with fail
          go_ret
          exact ⟨ret_bool (by rw [hI.out, List.drop_eq_nil_of_le (by omega)]; rfl), by rw [hI.out, List.drop_eq_nil_of_le (by omega)]; exact hB.out, hT.out⟩
    · have hq : 12000 < (n : Int) + 1 + x.f3.length + x.f4.length + x.f2.size := ‹12000 < (n : Int) + 1 + (x.f3.length : Int) + (x.f4.length : Int) + (x.f2.size : Int)›
      have HQ := Aside0.mk (cq_big (x := x) (n := n) (deep := deep) (Or.inl (by unfold cnum; omega)))
      go_ret
      exact ⟨ret_bool (by rw [HQ.out]), by rw [HQ.out]; exact cells_num (HWB.out _) (by unfold cnum; omega), HW.out _⟩

/-- Great, as the reference finds it -/
def great (x : S25) : Bool := (cq x 0 0).2

set_option maxHeartbeats 800000 in
set_option maxRecDepth 100000 in
theorem great_calls (x : S25) (A3 : Option Addr) (c3 : Nat) (A4 : Option Addr) (c4 : Nat) (A5 : Option Addr) (c5 : Nat) (w : World) (hf : fineB 140737488355328 x = true) (hL : Lay w x A3 c3 A4 c4 A5 c5) :
    Calls Tryz.prog 33 #[ag x A3 c3 A4 c4 A5 c5] w fun e w' => e = .returned (.bool (great x)) ∧ Below w.heap.size w w' := by
  have hu25 := Tryz.underlying25
  have HF := Aside0.mk hf
  have HL := Aside0.mk hL
  clear hf hL
  go_enter Tryz.func33, Tryz.ntmps33
  go_wp2_with (go_at_call 72; refine (cnt_calls (size x) x 0 0 (w.heap.size + 1) A3 c3 A4 c4 A5 c5 w _ (Nat.le_refl _) HF.out (by omega) (by omega) HL.out (bel_aa _ _ _) (by omega) (two_new _ _ _)).mono ?_; rintro e w2 ⟨rfl, hb2, ht2⟩; have HT2 := Aside0.mk ht2; clear hb2 ht2)
  go_ret
  exact ⟨rfl, Tch.below (bel_aa _ _ _) HT2.out (fun i e => by omega)⟩

end Go.Proofs.YtjjnjnnfebifnaaGreatDoor.Rn
namespace Go.Proofs.YtjjnjnnfebifnaaGreatDoor.Rn
open Go.RowKit Go.Proofs.YtjjnjnnfebifnaaGreatDoorW.PrintWords Go.Proofs.YtjjnjnnfebifnaaGreatDoorW.PrintLast Go.Proofs.YtjjnjnnfebifnaaGreatDoor.PReachNormal

def letB (c : Int) : Bool := (decide (97 ≤ c) && decide (c ≤ 122)) || (decide (65 ≤ c) && decide (c ≤ 90))
def digB (c : Int) : Bool := decide (48 ≤ c) && decide (c ≤ 57)

set_option maxHeartbeats 800000 in
theorem letter_calls (c : Int) (w : World) : Calls Tryz.prog 185 #[.int .u8 c] w fun e w' => e = .returned (.bool (letB c)) ∧ w' = w := by
  go_enter Tryz.func185, Tryz.ntmps185
  go_wp2
  all_goals go_ret
  all_goals refine ⟨ret_bool ?_, rfl⟩
  all_goals (simp [letB, *]; try omega)

set_option maxHeartbeats 800000 in
theorem digit_calls (c : Int) (w : World) : Calls Tryz.prog 186 #[.int .u8 c] w fun e w' => e = .returned (.bool (digB c)) ∧ w' = w := by
  go_enter Tryz.func186, Tryz.ntmps186
  go_wp2
  all_goals go_ret
  all_goals refine ⟨ret_bool ?_, rfl⟩
  all_goals (simp [digB, *]; try omega)

def badRune (r : Int) : Bool := decide (127 < r) || (!letB r && !digB r)

set_option maxHeartbeats 800000 in
theorem name1_calls (r : Int) (h0 : 0 ≤ r) (h1 : r ≤ 2147483647) (w : World) : Calls Tryz.prog 238 #[.int .i32 r] w fun e w' => e = .returned (.bool (badRune r)) ∧ w' = w := by
  by_cases h : r ≤ 127
  · have hw : IntKind.u8.wrap r = r := by simp [IntKind.wrap, IntKind.bits, IntKind.signed]; omega
    have h' : ¬ (127 < r) := by omega
    go_enter Tryz.func238, Tryz.ntmps238
    go_wp2_with (first
      | (go_at_call 185; refine (letter_calls _ _).mono ?_; rintro e w1 ⟨rfl, rfl⟩)
      | (go_at_call 186; refine (digit_calls _ _).mono ?_; rintro e w1 ⟨rfl, rfl⟩))
    · go_ret
      exact ⟨ret_bool (by simp [badRune, *]), rfl⟩
    · go_ret
      exact ⟨ret_bool (by simp only [badRune]; rw [Bool.eq_false_iff.2 ‹¬ letB r = true›]; simp; intro hh; omega), rfl⟩
  · go_enter Tryz.func238, Tryz.ntmps238
    go_wp2_with fail
    go_ret
    exact ⟨ret_bool (by simp [badRune]; omega), rfl⟩

/-- is there a byte that no name has? -/
def badStr (s : ByteArray) : Bool := s.data.toList.any fun c => badRune c.toNat
def cleanTo (s : ByteArray) (k : Nat) : Prop := ∀ i (h : i < s.size), i < k → badRune ((s[i]'h).toNat : Int) = false

theorem bad_high {c : Int} (h : 128 ≤ c) : badRune c = true := by simp [badRune]; omega
theorem bad_at {s : ByteArray} {i : Nat} (h : i < s.size) (hb : badRune ((s[i]'h).toNat : Int) = true) : badStr s = true := by
  unfold badStr
  rw [List.any_eq_true]
  exact ⟨s[i], by rw [Array.mem_toList_iff]; exact Array.getElem_mem _, hb⟩
theorem rune_bad {s : ByteArray} {pos : Nat} (h : pos < s.size) (hb : badRune ((Utf8.decode s pos).1 : Int) = true) : badStr s = true := by
  by_cases ha : (s[pos]'h).toNat < 128
  · rw [decode_ascii s pos h ha] at hb; exact bad_at h hb
  · exact bad_at h (bad_high (by omega))
theorem rune_low {s : ByteArray} {pos : Nat} (h : pos < s.size) (hb : badRune ((Utf8.decode s pos).1 : Int) = false) : (s[pos]'h).toNat < 128 := by
  by_cases ha : (s[pos]'h).toNat < 128
  · exact ha
  · have := (decode_high s pos h (by omega)).1
    rw [bad_high (by omega)] at hb; cases hb
theorem rune_one {s : ByteArray} {pos : Nat} (h : pos < s.size) (hb : badRune ((Utf8.decode s pos).1 : Int) = false) : (Utf8.decode s pos).2 = 1 := by
  rw [decode_ascii s pos h (rune_low h hb)]
theorem rune_ok {s : ByteArray} {pos : Nat} (hc : cleanTo s pos) (h : pos < s.size) (hb : badRune ((Utf8.decode s pos).1 : Int) = false) : cleanTo s (pos + (Utf8.decode s pos).2) := by
  have hl := rune_low h hb
  rw [rune_one h hb]
  rw [decode_ascii s pos h hl] at hb
  intro i hi hlt
  by_cases e : i = pos
  · subst e; exact hb
  · exact hc i hi (by omega)
theorem clean_all {s : ByteArray} {pos : Nat} (hc : cleanTo s pos) (h : ¬ pos < s.size) : badStr s = false := by
  unfold badStr
  rw [List.any_eq_false]
  intro c hcm
  rw [Array.mem_toList_iff] at hcm
  obtain ⟨i, hi, rfl⟩ := Array.mem_iff_getElem.1 hcm
  have := hc i hi (by have : i < s.size := hi; omega)
  exact Bool.eq_false_iff.1 this

/-- where the first such rune begins, or -1 -/
def idxPost (s : ByteArray) (w : World) (e : Ending) (w' : World) : Prop := ∃ r : Int, decide (0 ≤ r) = badStr s ∧ e = .returned (.int .i64 r) ∧ Below w.heap.size w w'

set_option maxHeartbeats 800000 in
theorem ifn_calls (s : ByteArray) (hs : s.size ≤ 9223372036854775807) (w : World) : Calls Tryz.prog 339 #[.string s, .func (.func 238) #[] #[], .bool true] w (idxPost s w) := by
  go_enter Tryz.func339, Tryz.ntmps339
  go_wp2_with fail
  go_loopw [11] (fun _ wr => ∃ pos : Nat, wr = w.iter s pos ∧ Aside0 (cleanTo s pos)) (fun _ wr => s.size - wr.iterPos w.heap.size)
  case atStart => exact ⟨0, rfl, ⟨fun i _ h => by omega⟩⟩
  case round =>
    obtain ⟨pos, rfl, hC⟩ := hrel
    by_cases hlt : pos < s.size
    · have hnx := fun ty => run_next_any (P := Tryz.prog) w s pos ty hlt
      go_wp2_with (go_at_call 238; refine (name1_calls _ (by omega) (by have := decode_le s pos; omega) _).mono ?_; rintro e w1 ⟨rfl, rfl⟩)
      · have hb := ‹badRune _ = true›
        go_ret
        exact ⟨(pos : Int), by rw [rune_bad hlt hb]; simp, rfl, bel_a _ _⟩
      · have hb := ‹badRune _ = false›
        exact ⟨⟨_, rfl, ⟨rune_ok hC.out hlt hb⟩⟩, by have := (rune_one hlt hb); simp only [World.iterPos_iter]; omega⟩
    · have hnx := fun ty => run_next_end (P := Tryz.prog) w s pos ty hlt
      go_wp2_with fail
      go_ret
      exact ⟨-1, by rw [clean_all hC.out hlt]; rfl, rfl, bel_a _ _⟩

set_option maxHeartbeats 800000 in
theorem cfn_calls (s : ByteArray) (hs : s.size ≤ 9223372036854775807) (w : World) : Calls Tryz.prog 237 #[.string s, .func (.func 238) #[] #[]] w fun e w' => e = .returned (.bool (badStr s)) ∧ Below w.heap.size w w' := by
  have hI := Aside0.mk (ifn_calls s hs w)
  have h301 : Calls Tryz.prog 301 #[.string s, .func (.func 238) #[] #[]] w (idxPost s w) := by
    go_enter Tryz.func301, Tryz.ntmps301
    go_wp2_with (go_at_call 339; refine (hI.out).mono ?_; rintro e w1 ⟨r, hr, rfl, hb⟩; have HB := Aside0.mk (And.intro hr hb); clear hb hr)
    go_ret
    exact ⟨r, HB.out.1, rfl, HB.out.2⟩
  have H301 := Aside0.mk h301
  clear h301 hI
  go_enter Tryz.func237, Tryz.ntmps237
  go_wp2_with (go_at_call 301; refine (H301.out).mono ?_; rintro e w1 ⟨r, hr, rfl, hb⟩; have HB := Aside0.mk (And.intro hr hb); clear hb hr)
  go_ret
  exact ⟨ret_bool HB.out.1, HB.out.2⟩
end Go.Proofs.YtjjnjnnfebifnaaGreatDoor.Rn
namespace Go.Proofs.YtjjnjnnfebifnaaGreatDoor.Rn
open Go.RowKit Go.Proofs.YtjjnjnnfebifnaaGreatDoorW.PrintWords Go.Proofs.YtjjnjnnfebifnaaGreatDoorW.PrintLast Go.Proofs.YtjjnjnnfebifnaaGreatDoor.PReachNormal

theorem str_at {w : World} {A : Option Addr} {l : List ByteArray} (h : Kd.string.C w A l.length l) (k : Nat) (hk : k < l.length) : ∃ (y : ByteArray) (ad : Addr), l[k]? = some y ∧ A = some ad ∧ w.cell? (ad.add k) = some (.string y) := by
  obtain ⟨ad, e, hc⟩ := Kd.at_string h (k : Int) (by omega) (by omega)
  have hx : rdOf ByteArray.empty l (k : Int) = l[k] := by simp [rdOf, List.getD, List.getElem?_eq_getElem hk]
  rw [hx] at hc
  exact ⟨l[k], ad, List.getElem?_eq_getElem hk, e, by simpa using hc⟩

theorem sdrop_at {l : List ByteArray} {k : Nat} {x : ByteArray} (h : l[k]? = some x) : l.drop k = x :: l.drop (k + 1) := by
  obtain ⟨hk, rfl⟩ := List.getElem?_eq_some_iff.1 h
  exact List.drop_eq_getElem_cons hk

def sidx (s : ByteArray) : Nat → List ByteArray → Int
  | _, [] => -1
  | i, x :: l => if s.toList == x.toList then i else sidx s (i + 1) l
theorem sidx_mem (s : ByteArray) : ∀ (l : List ByteArray) (i : Nat), decide (0 ≤ sidx s i l) = memB s l
  | [], i => by simp [sidx, memB]
  | x :: l, i => by
    unfold sidx
    have ih := sidx_mem s l (i + 1)
    unfold memB at ih ⊢
    rw [bytes_eq]
    by_cases hp : s = x
    · subst hp; simp
    · have hq : ¬ x = s := fun e => hp e.symm
      simp [hp, hq, ih]

theorem sidx_yes {s : ByteArray} {l : List ByteArray} {k : Nat} {x : ByteArray} (h : l[k]? = some x) (hp : (s.toList == x.toList) = true) : sidx s k (l.drop k) = k := by
  rw [sdrop_at h, sidx, if_pos hp]
theorem sidx_no {s : ByteArray} {l : List ByteArray} {k : Nat} {x : ByteArray} (h : l[k]? = some x) (hp : (s.toList == x.toList) = false) : sidx s k (l.drop k) = sidx s (k + 1) (l.drop (k + 1)) := by
  rw [sdrop_at h, sidx, if_neg (by simp [hp])]

def Drn (w w' : World) : Prop := ∃ n, w' = w.drewN n
theorem Drn.below {w w' : World} (h : Drn w w') : Below w.heap.size w w' := by obtain ⟨n, rfl⟩ := h; exact pw_below_drewN (Below.refl _ _) n

set_option maxHeartbeats 800000 in
theorem sidx_calls (A : Option Addr) (c : Nat) (l : List ByteArray) (s : ByteArray) (w : World) (hl : l.length ≤ 9223372036854775807) (hC : Kd.string.C w A l.length l) :
    Calls Tryz.prog 233 #[.slice A l.length c, .string s] w fun e w' => e = .returned (.int .i64 (sidx s 0 l)) ∧ Below w.heap.size w w' := by
  have HC := Aside0.mk hC
  clear hC
  go_enter Tryz.func233, Tryz.ntmps233
  go_wp2_with fail
  go_loopw [8] (fun i wr => ∃ k : Nat, k ≤ l.length ∧ i = .int .i64 k ∧ Aside0 (Below w.heap.size w wr) ∧ Aside0 (sidx s 0 l = sidx s k (l.drop k))) (fun i _ => l.length - (intOf i).toNat)
  case atStart => exact ⟨0, Nat.zero_le _, rfl, ⟨Below.refl _ _⟩, ⟨by rw [List.drop_zero]⟩⟩
  case round =>
    obtain ⟨k, hk, rfl, hB, hI⟩ := hrel
    by_cases hlt : k < l.length
    · obtain ⟨y, ad, hx, rfl, h0⟩ := str_at (Kd.C_below HC.out hB.out) k hlt
      have HX := Aside0.mk hx
      clear hx
      go_wp2_with fail
      · go_ret
        exact ⟨ret_int (hI.out.trans (sidx_yes HX.out ‹_›)).symm, hB.out⟩
      · refine ⟨⟨k + 1, by omega, by go_num, hB, ⟨hI.out.trans (sidx_no HX.out ‹_›)⟩⟩, by simp [intOf]; omega⟩
    · go_wp2_with fail
      go_ret
      exact ⟨ret_int (by rw [hI.out, List.drop_eq_nil_of_le (by omega)]; rfl), hB.out⟩

set_option maxHeartbeats 800000 in
theorem scont_calls (A : Option Addr) (c : Nat) (l : List ByteArray) (s : ByteArray) (w : World) (hl : l.length ≤ 9223372036854775807) (hC : Kd.string.C w A l.length l) :
    Calls Tryz.prog 168 #[.slice A l.length c, .string s] w fun e w' => e = .returned (.bool (memB s l)) ∧ Below w.heap.size w w' := by
  have HI := Aside0.mk (sidx_calls A c l s w hl hC)
  clear hC
  go_enter Tryz.func168, Tryz.ntmps168
  go_wp2_with (go_at_call 233; refine (HI.out).mono ?_; rintro e w1 ⟨rfl, hb⟩; have HB := Aside0.mk hb; clear hb)
  go_ret
  exact ⟨ret_bool (sidx_mem s l 0), HB.out⟩

theorem strC_of {w : World} {g : Nat} {t : TypeId} {l : List ByteArray} (h : w.heap[g]? = some (.cells (l.map Value.string).toArray t (0, 0))) (hn : l.length ≤ 9223372036854775807) : Kd.string.C w (some ⟨g, 0, none⟩) l.length l := by
  refine ⟨rfl, hn, fun _ => ⟨_, rfl, fun j p hp => ⟨[.string p], rfl, rfl, fun i u hu => ?_⟩⟩⟩
  match i, hu with
  | 0, hu =>
    simp only [List.getElem?_cons_zero, Option.some.injEq] at hu
    subst hu
    rw [add_plain, blk_cell h]
    have hz : j * Kd.string.sz + 0 = j := Nat.mul_one j
    rw [hz]
    simp [hp]

def wordsL : List ByteArray := [⟨#[97, 110, 100]⟩, ⟨#[111, 114]⟩, ⟨#[110, 111, 116]⟩, ⟨#[115, 111, 109, 101]⟩, ⟨#[97, 108, 108]⟩, ⟨#[108, 102, 112]⟩, ⟨#[112, 102, 112]⟩, ⟨#[116, 99]⟩, ⟨#[101, 120, 105, 115, 116, 115]⟩, ⟨#[116, 114, 117, 101]⟩, ⟨#[102, 97, 108, 115, 101]⟩]

set_option maxHeartbeats 800000 in
theorem words_calls (w : World) :
    Calls Tryz.prog 236 #[] w fun e w' => e = .returned (.slice (some ⟨w.heap.size, 0, none⟩) wordsL.length wordsL.length) ∧ Kd.string.C w' (some ⟨w.heap.size, 0, none⟩) wordsL.length wordsL ∧ Below w.heap.size w w' := by
  go_enter Tryz.func236, Tryz.ntmps236
  go_wp2
  go_ret
  exact ⟨rfl, strC_of (l := wordsL) (blk_new w _) (by decide), bel_a _ _⟩

def headOk (s : ByteArray) : Bool := match s.data.toList with | [] => false | c :: _ => letB c.toNat
/-- the program's Name -/
def nmB (s : ByteArray) : Bool := !(s.toList == []) && !decide (12 < (s.size : Int)) && headOk s && !memB s wordsL && !badStr s

theorem head_at {s : ByteArray} (h : 0 < s.size) : headOk s = letB ((s[0]'h).toNat : Int) := by
  unfold headOk
  have : s.data.toList = s[0] :: s.data.toList.drop 1 := by
    have hl : 0 < s.data.toList.length := by rw [Array.length_toList]; exact h
    rw [← List.drop_zero (l := s.data.toList)]
    rw [List.drop_eq_getElem_cons hl]
    rfl
  rw [this]
theorem nm_1 {s : ByteArray} (h : s.toList = []) : nmB s = false := by unfold nmB; rw [h]; rfl
theorem nm_2 {s : ByteArray} (h : 12 < (s.size : Int)) : nmB s = false := by unfold nmB; simp [h]
theorem nm_3 {s : ByteArray} (hp : 0 < s.size) (h : ¬ letB ((s[0]'hp).toNat : Int) = true) : nmB s = false := by unfold nmB; rw [head_at hp, Bool.eq_false_iff.2 h]; simp
theorem nm_4 {s : ByteArray} (h : memB s wordsL = true) : nmB s = false := by unfold nmB; simp [h]
theorem nm_5 {s : ByteArray} (h1 : ¬ s.toList = []) (h2 : (s.size : Int) ≤ 12) (hp : 0 < s.size) (h3 : letB ((s[0]'hp).toNat : Int) = true) (h4 : memB s wordsL = false) : nmB s = !badStr s := by
  unfold nmB; rw [head_at hp, h3, h4]; simp [h1, Int.not_lt.2 h2]

theorem nm_or {s : ByteArray} (h1 : ¬ s.toList = []) (h2 : (s.size : Int) ≤ 12) (h : (s.toList.isEmpty = true ∨ 12 < (s.size : Int)) ∨ memB s wordsL = true) : memB s wordsL = true := by
  rcases h with (h | h) | h
  · exact absurd (List.isEmpty_iff.1 h) h1
  · omega
  · exact h

set_option maxHeartbeats 1600000 in
theorem name_calls (s : ByteArray) (w : World) : Calls Tryz.prog 172 #[.string s] w fun e w' => e = .returned (.bool (nmB s)) ∧ Below w.heap.size w w' := by
  by_cases h0 : s.size = 0
  · have he : s.toList = [] := by rw [ByteArray.toList_eq, ← List.length_eq_zero_iff, Array.length_toList]; exact h0
    have he' : s.toList.isEmpty = true := by rw [he]; rfl
    clear h0
    go_enter Tryz.func172, Tryz.ntmps172
    go_wp2_with fail
    go_ret
    exact ⟨ret_bool (nm_1 he).symm, Below.refl _ _⟩
  · have hp : 0 < s.size := by omega
    have hidx : ∀ h : 0 < s.size, ((s[0]'h).toNat : Int) = (s[0]'hp).toNat := fun _ => rfl
    clear h0
    go_enter Tryz.func172, Tryz.ntmps172
    go_wp2_with (first
      | (go_at_call 185; refine (letter_calls _ _).mono ?_; rintro e w1 ⟨rfl, rfl⟩)
      | (go_at_call 236; refine (words_calls _).mono ?_; rintro e w1 ⟨rfl, hC, hb⟩; have HC := Aside0.mk hC; have HB := Aside0.mk hb; clear hC hb)
      | (go_at_call 168; refine (scont_calls _ _ wordsL s _ (by decide) HC.out).mono ?_; rintro e w2 ⟨rfl, hb⟩; have HB2 := Aside0.mk hb; clear hb)
      | (go_at_call 237; refine (cfn_calls s (by omega) _).mono ?_; rintro e w3 ⟨rfl, hb⟩; have HB3 := Aside0.mk hb; clear hb))
    · have h := ‹s.toList = []›
      go_ret
      exact ⟨ret_bool (nm_1 h).symm, Below.refl _ _⟩
    · have h := nm_or ‹¬ s.toList = []› ‹(s.size : Int) ≤ 12› ‹_ ∨ memB s wordsL = true›
      go_ret
      exact ⟨ret_bool (nm_4 h).symm, below_step HB.out HB2.out⟩
    · have h1 := ‹¬ s.toList = []›
      have h2 := ‹(s.size : Int) ≤ 12›
      have h3 := ‹letB _ = true›
      have h4 := (‹_ ∧ memB s wordsL = false›).2
      go_ret
      exact ⟨ret_bool (nm_5 h1 h2 hp h3 h4).symm, below_step (below_step HB.out HB2.out) HB3.out⟩
    · have h := ‹¬ letB _ = true›
      go_ret
      exact ⟨ret_bool (nm_3 hp h).symm, Below.refl _ _⟩
    · have h := ‹12 < (s.size : Int)›
      go_ret
      exact ⟨ret_bool (nm_2 h).symm, Below.refl _ _⟩
end Go.Proofs.YtjjnjnnfebifnaaGreatDoor.Rn
namespace Go.Proofs.YtjjnjnnfebifnaaGreatDoor.Rn
open Go.RowKit Go.Proofs.YtjjnjnnfebifnaaGreatDoorW.PrintWords Go.Proofs.YtjjnjnnfebifnaaGreatDoorW.PrintLast Go.Proofs.YtjjnjnnfebifnaaGreatDoor.PReachNormal

def nmsG (apart : Bool) : List ByteArray → List ByteArray → Bool
  | _, [] => true
  | pre, x :: l => (nmB x && !(apart && memB x pre)) && nmsG apart (pre ++ [x]) l
def namesB (l : List ByteArray) (lo hi : Int) (apart : Bool) : Bool := !(decide ((l.length : Int) < lo) || decide (hi < (l.length : Int))) && nmsG apart [] l

theorem take_C {w : World} {ad : Addr} {l : List ByteArray} (h : Kd.string.C w (some ad) l.length l) (k : Nat) (hk : k ≤ l.length) : Kd.string.C w (some ad) (l.take k).length (l.take k) := by
  obtain ⟨_, h2, h3⟩ := h
  have hl : (l.take k).length = k := by rw [List.length_take]; omega
  refine ⟨rfl, by omega, fun hn => ?_⟩
  obtain ⟨ad', e, h4⟩ := h3 (by omega)
  refine ⟨ad', e, fun j p hp => h4 j p ?_⟩
  rw [List.getElem?_take] at hp
  split at hp
  · exact hp
  · cases hp

theorem nms_step {l : List ByteArray} {k : Nat} {x : ByteArray} {ap : Bool} (h : l[k]? = some x) :
    nmsG ap (l.take k) (l.drop k) = ((nmB x && !(ap && memB x (l.take k))) && nmsG ap (l.take (k + 1)) (l.drop (k + 1))) := by
  have ht : l.take (k + 1) = l.take k ++ [x] := by
    obtain ⟨hk, rfl⟩ := List.getElem?_eq_some_iff.1 h
    exact List.take_succ_eq_append_getElem hk
  rw [sdrop_at h, nmsG, ht]

theorem names_in {l : List ByteArray} {lo hi : Int} {ap : Bool} (h1 : lo ≤ (l.length : Int)) (h2 : (l.length : Int) ≤ hi) : namesB l lo hi ap = nmsG ap [] l := by
  unfold namesB; simp [Int.not_lt.2 h1, Int.not_lt.2 h2]
theorem Calls_len {A : Option Addr} {c n k : Nat} {x : Value} {w : World} {R : Ending → World → Prop} {f : FuncId} (h : n = k) (hc : Calls Tryz.prog f #[.slice A n c, x] w R) : Calls Tryz.prog f #[.slice A k c, x] w R := by rw [← h]; exact hc

theorem nms_no1 {l : List ByteArray} {k : Nat} {x : ByteArray} {ap : Bool} {lo hi : Int} (hq : namesB l lo hi ap = nmsG ap [] l) (hi' : nmsG ap [] l = nmsG ap (l.take k) (l.drop k)) (h : l[k]? = some x) (hn : ¬ nmB x = true) : namesB l lo hi ap = false := by
  rw [hq, hi', nms_step h, Bool.eq_false_iff.2 hn]; rfl
theorem nms_no2 {l : List ByteArray} {k : Nat} {x : ByteArray} {lo hi : Int} (hq : namesB l lo hi true = nmsG true [] l) (hi' : nmsG true [] l = nmsG true (l.take k) (l.drop k)) (h : l[k]? = some x) (hm : memB x (l.take k) = true) : namesB l lo hi true = false := by
  rw [hq, hi', nms_step h, hm]; simp
theorem nms_yes {l : List ByteArray} {k : Nat} {x : ByteArray} {ap : Bool} (hi' : nmsG ap [] l = nmsG ap (l.take k) (l.drop k)) (h : l[k]? = some x) (hn : nmB x = true) (hm : ap = true → memB x (l.take k) = false) : nmsG ap [] l = nmsG ap (l.take (k + 1)) (l.drop (k + 1)) := by
  rw [hi', nms_step h, hn]
  cases ap with
  | false => simp
  | true => rw [hm rfl]; simp

set_option maxHeartbeats 1600000 in
theorem names_calls (A : Option Addr) (c : Nat) (l : List ByteArray) (lo hi : Int) (ap : Bool) (w : World) (hl : l.length ≤ 12000) (hc : l.length ≤ c) (hC : Kd.string.C w A l.length l) :
    Calls Tryz.prog 288 #[.slice A l.length c, .int .i64 lo, .int .i64 hi, .bool ap] w fun e w' => e = .returned (.bool (namesB l lo hi ap)) ∧ Below w.heap.size w w' := by
  have HC := Aside0.mk hC
  clear hC
  cases ap
  · go_enter Tryz.func288, Tryz.ntmps288
    go_wp2_with fail
    · rename _ ∨ hi < (l.length : Int) => hq
      go_ret
      exact ⟨ret_bool (by unfold namesB; rw [Bool.eq_iff_iff]; rcases hq with h | h <;> simp [h]), Below.refl _ _⟩
    · rename _ ∧ (l.length : Int) ≤ hi => hq
      have HQ := Aside0.mk (fun ap => names_in (ap := ap) hq.1 hq.2)
      clear hq
      try (rename lo ≤ (l.length : Int) => hq2; clear hq2)
      go_loopw [23] (fun i wr => ∃ k : Nat, k ≤ l.length ∧ i = .int .i64 k ∧ Aside0 (Below w.heap.size w wr) ∧ Aside0 (nmsG false [] l = nmsG false (l.take k) (l.drop k))) (fun i _ => l.length - (intOf i).toNat)
      case atStart => exact ⟨0, Nat.zero_le _, rfl, ⟨Below.refl _ _⟩, ⟨by rw [List.drop_zero, List.take_zero]⟩⟩
      case round =>
        obtain ⟨k, hk, rfl, hB, hI⟩ := hrel
        by_cases hlt : k < l.length
        · obtain ⟨y, ad, hx, rfl, h0⟩ := str_at (Kd.C_below HC.out hB.out) k hlt
          have HX := Aside0.mk hx
          have htl : (l.take k).length = k := by rw [List.length_take]; omega
          have HTL := Aside0.mk htl
          clear hx htl
          go_wp2_with (first
            | (go_at_call 172; refine (name_calls y _).mono ?_; rintro e w1 ⟨rfl, hb⟩; have HB1 := Aside0.mk hb; clear hb)
            | (go_at_call 168; refine (Calls_len HTL.out (scont_calls (some ad) _ (l.take k) y _ (by rw [HTL.out]; omega) (take_C (Kd.C_below HC.out (below_step hB.out HB1.out)) k hk))).mono ?_; rintro e w2 ⟨rfl, hb⟩; have HB2 := Aside0.mk hb; clear hb))
          all_goals first
            | (go_ret; exact ⟨ret_bool (nms_no2 (HQ.out _) hI.out HX.out ‹_›).symm, below_step hB.out (below_step HB1.out HB2.out)⟩)
            | (go_ret; exact ⟨ret_bool (nms_no1 (HQ.out _) hI.out HX.out ‹_›).symm, below_step hB.out HB1.out⟩)
            | exact ⟨⟨k + 1, by omega, by go_num, ⟨below_step hB.out (below_step HB1.out HB2.out)⟩, ⟨nms_yes hI.out HX.out ‹_› (fun _ => ‹_›)⟩⟩, by simp [intOf]; omega⟩
            | exact ⟨⟨k + 1, by omega, by go_num, ⟨below_step hB.out HB1.out⟩, ⟨nms_yes hI.out HX.out ‹_› (fun h => by cases h)⟩⟩, by simp [intOf]; omega⟩
        · go_wp2_with fail
          go_ret
          exact ⟨ret_bool (by rw [HQ.out, hI.out, List.drop_eq_nil_of_le (by omega)]; rfl), hB.out⟩
    · rename (l.length : Int) < lo => hq
      go_ret
      exact ⟨ret_bool (by unfold namesB; simp [hq]), Below.refl _ _⟩
  · go_enter Tryz.func288, Tryz.ntmps288
    go_wp2_with fail
    · rename _ ∨ hi < (l.length : Int) => hq
      go_ret
      exact ⟨ret_bool (by unfold namesB; rw [Bool.eq_iff_iff]; rcases hq with h | h <;> simp [h]), Below.refl _ _⟩
    · rename _ ∧ (l.length : Int) ≤ hi => hq
      have HQ := Aside0.mk (fun ap => names_in (ap := ap) hq.1 hq.2)
      clear hq
      try (rename lo ≤ (l.length : Int) => hq2; clear hq2)
      go_loopw [23] (fun i wr => ∃ k : Nat, k ≤ l.length ∧ i = .int .i64 k ∧ Aside0 (Below w.heap.size w wr) ∧ Aside0 (nmsG true [] l = nmsG true (l.take k) (l.drop k))) (fun i _ => l.length - (intOf i).toNat)
      case atStart => exact ⟨0, Nat.zero_le _, rfl, ⟨Below.refl _ _⟩, ⟨by rw [List.drop_zero, List.take_zero]⟩⟩
      case round =>
        obtain ⟨k, hk, rfl, hB, hI⟩ := hrel
        by_cases hlt : k < l.length
        · obtain ⟨y, ad, hx, rfl, h0⟩ := str_at (Kd.C_below HC.out hB.out) k hlt
          have HX := Aside0.mk hx
          have htl : (l.take k).length = k := by rw [List.length_take]; omega
          have HTL := Aside0.mk htl
          clear hx htl
          go_wp2_with (first
            | (go_at_call 172; refine (name_calls y _).mono ?_; rintro e w1 ⟨rfl, hb⟩; have HB1 := Aside0.mk hb; clear hb)
            | (go_at_call 168; refine (Calls_len HTL.out (scont_calls (some ad) _ (l.take k) y _ (by rw [HTL.out]; omega) (take_C (Kd.C_below HC.out (below_step hB.out HB1.out)) k hk))).mono ?_; rintro e w2 ⟨rfl, hb⟩; have HB2 := Aside0.mk hb; clear hb))
          all_goals first
            | (go_ret; exact ⟨ret_bool (nms_no2 (HQ.out _) hI.out HX.out ‹_›).symm, below_step hB.out (below_step HB1.out HB2.out)⟩)
            | (go_ret; exact ⟨ret_bool (nms_no1 (HQ.out _) hI.out HX.out ‹_›).symm, below_step hB.out HB1.out⟩)
            | exact ⟨⟨k + 1, by omega, by go_num, ⟨below_step hB.out (below_step HB1.out HB2.out)⟩, ⟨nms_yes hI.out HX.out ‹_› (fun _ => ‹_›)⟩⟩, by simp [intOf]; omega⟩
            | exact ⟨⟨k + 1, by omega, by go_num, ⟨below_step hB.out HB1.out⟩, ⟨nms_yes hI.out HX.out ‹_› (fun h => by cases h)⟩⟩, by simp [intOf]; omega⟩
        · go_wp2_with fail
          go_ret
          exact ⟨ret_bool (by rw [HQ.out, hI.out, List.drop_eq_nil_of_le (by omega)]; rfl), hB.out⟩
    · rename (l.length : Int) < lo => hq
      go_ret
      exact ⟨ret_bool (by unfold namesB; simp [hq]), Below.refl _ _⟩
end Go.Proofs.YtjjnjnnfebifnaaGreatDoor.Rn
