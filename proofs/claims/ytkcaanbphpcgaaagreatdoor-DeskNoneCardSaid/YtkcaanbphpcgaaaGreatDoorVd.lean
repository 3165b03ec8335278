import Derived.Laws.Externs
import Derived.Lib.MakeNoZero
import Derived.Lib.Builder
import Derived.Test.YtkcaanbphpcgaaaGreatDoorVc
set_option linter.all false
namespace Go.Ev
open Go Go.Proofs

def cv : AV → Value
  | .str s => .string ⟨s.toArray⟩
  | .int k n => .int k n
  | .bool b => .bool b
  | _ => .bool false
theorem cv_R {s : Sg} : ∀ {a : AV}, a.free = true → R s a (cv a) ∧ ∀ v, R s a v → v = cv a
  | .bool b, _ => ⟨by simp [R, cv], fun v h => by simpa [R, cv] using h⟩
  | .int k n, _ => ⟨by simp [R, cv], fun v h => by simpa [R, cv] using h⟩
  | .str l, _ => ⟨by simp [R, cv], fun v h => by simpa [R, cv] using h⟩
theorem cv_Rs {s : Sg} : ∀ {l : List AV} {xs : List Value}, l.all AV.free = true → Rs s l xs → xs = l.map cv
  | [], xs, _, h => by simp only [Rs] at h; exact h
  | a :: l, xs, hf, h => by
    simp only [List.all_cons, Bool.and_eq_true] at hf
    simp only [Rs] at h
    obtain ⟨x, ys, rfl, h1, h2⟩ := h
    rw [(cv_R hf.1).2 _ h1, cv_Rs hf.2 h2]; rfl
theorem findP_mem {args : List AV} {v : AV} : ∀ {l : List (List AV × AV)}, findP args l = some v → (args, v) ∈ l
  | [], h => by cases h
  | (a, u) :: l, h => by
    simp only [findP] at h
    cases hb : AV.beqs a args with
    | true => simp only [hb, cond_true, Option.some.injEq] at h; subst h; rw [AV.beqs_eq _ _ hb]; exact List.mem_cons_self
    | false => simp only [hb, cond_false] at h; exact List.mem_cons_of_mem _ (findP_mem h)

theorem find141 : Extern.find Tryz.f141 = some Extern.BytealgCount.count := by kernel_rfl
theorem next141 : Extern.findNext Tryz.f141 = none := by kernel_rfl
theorem find541 : Extern.find Tryz.f541 = some Extern.BytealgIndexByte.indexByte := by kernel_rfl
theorem next541 : Extern.findNext Tryz.f541 = none := by kernel_rfl
theorem find200 : Extern.find Tryz.f200 = some Extern.AbiNoEscape.same := by kernel_rfl
theorem next200 : Extern.findNext Tryz.f200 = none := by kernel_rfl
theorem free141 : (tc24.all fun x => x.1.all AV.free && x.2.free) = true := by kernel_rfl
theorem free541 : (ti24.all fun x => x.1.all AV.free && x.2.free) = true := by kernel_rfl
set_option maxRecDepth 20000 in
theorem runs141 : ∀ x ∈ tc24, ∀ (P : Program) (w : World), (Extern.BytealgCount.count (x.1.map cv).toArray).run P w = .ok (cv x.2) w := by
  intro x hx
  simp only [tc24, List.mem_cons, List.not_mem_nil, or_false] at hx
  rcases hx with rfl | rfl | rfl | rfl | rfl | rfl
  all_goals exact fun P w => by kernel_rfl
set_option maxRecDepth 20000 in
theorem runs541 : ∀ x ∈ ti24, ∀ (P : Program) (w : World), (Extern.BytealgIndexByte.indexByte (x.1.map cv).toArray).run P w = .ok (cv x.2) w := by
  intro x hx
  simp only [ti24, List.mem_cons, List.not_mem_nil, or_false] at hx
  rcases hx with rfl | rfl | rfl | rfl | rfl | rfl | rfl | rfl | rfl | rfl | rfl | rfl | rfl
  all_goals exact fun P w => by kernel_rfl

theorem f202_find : Extern.find Tryz.f202 = some Extern.MapsClone.clone := by kernel_rfl
theorem f202_next : Extern.findNext Tryz.f202 = none := by kernel_rfl
theorem f201_find : Extern.find Tryz.f201 = some (Extern.BytealgMakeNoZero.makeNoZero #[3] Tryz.f201.resultTypes) := by kernel_rfl
theorem f201_next : Extern.findNext Tryz.f201 = none := by kernel_rfl
theorem names24 : (Tryz.prog.funcs.toList.all fun f => !(f.name == "runtime.NumGoroutine")) = true := by kernel_rfl
theorem clone24 : (Tryz.prog.funcs.toList.zipIdx.all fun x => !(x.1.name == "maps.clone") || Nat.beq x.2 202) = true := by kernel_rfl
theorem mixed24 : Tryz.prog.follows .mixedOrders = true := by kernel_rfl

theorem ft_of {p : Program} {mg : List Nat} {t : Tr (List (List AV × AV))} {ml : List (Nat × List Memo)} {ext : Nat → List AV → Option AV} {mkz : Nat → Option TypeId} {g : Nat} {fn : Func} (e : (envOf p mg t ml ext mkz).ft.get g = some fn) : p.funcs[g]? = some fn := by
  rcases Tr.get_ofList _ 0 _ g fn e with ⟨_, h⟩ | h
  · simpa using h
  · cases h

theorem tt_of {p : Program} {mg : List Nat} {t : Tr (List (List AV × AV))} {ml : List (Nat × List Memo)} {ext : Nat → List AV → Option AV} {mkz : Nat → Option TypeId} {i : Nat} {d : TypeInfo} (e : (envOf p mg t ml ext mkz).tt.get i = some d) : p.info? i = some d := by
  rcases Tr.get_ofList _ 0 _ i d e with ⟨_, h⟩ | h
  · have hi : p.types[i]? = some d := by simpa using h
    have hlt := (Array.getElem?_eq_some_iff.1 hi).1
    simp [Tables.info?, hi]
    intro hge; omega
  · cases h

set_option maxRecDepth 100000 in
theorem env24 {mg : List Nat} {t : Tr (List (List AV × AV))} {ml : List (Nat × List Memo)} : EnvOk (envOf Tryz.prog mg t ml ext24 mkz24) Tryz.prog where
  tt := fun i d e => tt_of e
  ft := fun g fn e => ft_of e
  nm := fun g fn e => by
    have := List.all_eq_true.1 names24 fn (List.mem_of_getElem? (by simpa using ft_of e))
    simpa using this
  cl := fun g fn args w e hb hname => by
    have hf := ft_of e
    have hg : (fn, g) ∈ Tryz.prog.funcs.toList.zipIdx := by
      rw [List.mem_zipIdx_iff_getElem?]; simpa using hf
    have := List.all_eq_true.1 clone24 _ hg
    simp only [hname] at this
    have hgk : g = 202 := by
      rw [Bool.or_eq_true] at this
      rcases this with k | k
      · simp at k
      · exact Nat.eq_of_beq_eq_true k
    subst hgk
    obtain rfl : fn = Tryz.f202 := (Option.some.inj (Tryz.func202.symm.trans hf)).symm
    exact run_callFunc_extern hf (by rw [hname]; rfl) (by rw [hb]; rfl) f202_next f202_find args w
  mixed := mixed24
  ex := fun g fn args v e hb hv s w xs hx => by
    have hf := ft_of e
    change ext24 g args = some v at hv
    unfold ext24 at hv
    cases h1 : Nat.beq g 141 with
    | true =>
      simp only [h1, cond_true] at hv
      obtain rfl := Nat.eq_of_beq_eq_true h1
      obtain rfl : fn = Tryz.f141 := (Option.some.inj (Tryz.func141.symm.trans hf)).symm
      have hm := findP_mem hv
      have hfr := List.all_eq_true.1 free141 _ hm
      simp only [Bool.and_eq_true] at hfr
      refine ⟨cv v, (cv_R hfr.2).1, ?_⟩
      rw [cv_Rs hfr.1 hx, run_callFunc_extern hf (by kernel_rfl) (by kernel_rfl) next141 find141, runs141 _ hm]; rfl
    | false =>
    simp only [h1, cond_false] at hv
    cases h2 : Nat.beq g 541 with
    | true =>
      simp only [h2, cond_true] at hv
      obtain rfl := Nat.eq_of_beq_eq_true h2
      obtain rfl : fn = Tryz.f541 := (Option.some.inj (Tryz.func541.symm.trans hf)).symm
      have hm := findP_mem hv
      have hfr := List.all_eq_true.1 free541 _ hm
      simp only [Bool.and_eq_true] at hfr
      refine ⟨cv v, (cv_R hfr.2).1, ?_⟩
      rw [cv_Rs hfr.1 hx, run_callFunc_extern hf (by kernel_rfl) (by kernel_rfl) next541 find541, runs541 _ hm]; rfl
    | false =>
    simp only [h2, cond_false] at hv
    cases h3 : Nat.beq g 200 with
    | false => simp [h3] at hv
    | true =>
      simp only [h3, cond_true] at hv
      obtain rfl := Nat.eq_of_beq_eq_true h3
      obtain rfl : fn = Tryz.f200 := (Option.some.inj (Tryz.func200.symm.trans hf)).symm
      split at hv
      · rename_i x
        cases hv
        simp only [Rs] at hx
        obtain ⟨y, ys, rfl, h4, rfl⟩ := hx
        refine ⟨y, h4, ?_⟩
        rw [run_callFunc_extern hf (by kernel_rfl) (by kernel_rfl) next200 find200, Lib.run_noEscape]; rfl
      · cases hv
  mz := fun g fn el e hb hm n w hn => by
    have hf := ft_of e
    change mkz24 g = some el at hm
    unfold mkz24 at hm
    cases h1 : Nat.beq g 201 with
    | false => simp [h1] at hm
    | true =>
      simp only [h1, cond_true, Option.some.injEq] at hm
      subst hm
      obtain rfl := Nat.eq_of_beq_eq_true h1
      obtain rfl : fn = Tryz.f201 := (Option.some.inj (Tryz.func201.symm.trans hf)).symm
      obtain ⟨cs, hr, k1, _⟩ := Lib.run_makeNoZero (P := Tryz.prog) w #[3] 111 5 Tryz.underlying111 n (by omega)
      refine ⟨cs, w.drew.drew, k1, rfl, ⟨rfl, rfl, rfl⟩, ?_⟩
      rw [run_callFunc_extern hf (by kernel_rfl) (by kernel_rfl) f201_next f201_find, show Tryz.f201.resultTypes = #[111] from rfl, hr]; rfl
  li := fun t n o u h => h
end Go.Ev
