import Derived.ChangeArms
import Derived.SizedLaws
import Derived.WideShapes
import Derived.Test.YtjjnjnnfebifnaaGreatDoorCards
import Derived.Test.YtjjnjnnfebifnaaGreatDoorTie
import Derived.WalkKit
import Derived.ProofKit
import Derived.OpenShut
import Derived.ShutString
import Derived.ChangeOld
import Derived.Below
import Derived.Deep.DeepHandedRow
import Derived.Test.YtjjnjnnfebifnaaGreatDoorRa
set_option linter.all false
namespace Go.Proofs.YtjjnjnnfebifnaaGreatDoor.Rn
open Go.RowKit Go.Proofs.YtjjnjnnfebifnaaGreatDoorW.PrintWords Go.Proofs.YtjjnjnnfebifnaaGreatDoorW.PrintLast Go.Proofs.YtjjnjnnfebifnaaGreatDoor.PReachNormal

theorem list_of {α : Type} {Q : Nat → α → Prop} : ∀ (len : Nat), (∀ i, i < len → ∃ x, Q i x) → ∃ l : List α, l.length = len ∧ ∀ i x, l[i]? = some x → Q i x
  | 0, _ => ⟨[], rfl, fun i x h => by simp at h⟩
  | n + 1, h => by
    obtain ⟨l, hl, hq⟩ := list_of n (fun i hi => h i (by omega))
    obtain ⟨x, hx⟩ := h n (by omega)
    refine ⟨l ++ [x], by simp [hl], fun i y hy => ?_⟩
    by_cases hi : i < l.length
    · rw [List.getElem?_append_left hi] at hy; exact hq i y hy
    · rw [List.getElem?_append_right (by omega)] at hy
      obtain rfl : i = n := by
        have := (List.getElem?_eq_some_iff.1 hy).1
        simp at this; omega
      rw [hl, Nat.sub_self] at hy
      simp at hy
      subst hy
      exact hx

theorem cells25 : Tryz.prog.cellsOf 25 = 6 := by kernel_rfl
theorem cells3 : Tryz.prog.cellsOf 3 = 1 := by kernel_rfl
theorem cells9 : Tryz.prog.cellsOf 9 = 1 := by kernel_rfl
theorem cells22 : Tryz.prog.cellsOf 22 = 1 := by kernel_rfl
theorem cells23 : Tryz.prog.cellsOf 23 = 1 := by kernel_rfl
theorem bytes9 : Tryz.prog.bytesOf 9 = 16 := by kernel_rfl
theorem bytes25 : Tryz.prog.bytesOf 25 = 104 := by kernel_rfl

theorem fineLB_of {B : Nat} : ∀ {l : List S25}, (∀ (i : Nat) (y : S25), l[i]? = some y → fineB B y = true) → fineLB B l = true
  | [], _ => by unfold fineLB; rfl
  | y :: l, h => by
    unfold fineLB
    rw [h 0 y rfl, fineLB_of (l := l) (fun i z hz => h (i + 1) z (by simpa using hz))]
    rfl

section
variable {H : Type} {enc : TypeId × Value → H} {w : World} {base : Nat} {sp : Nat → Bool} {hd : Bool}

theorem weights_all {e : TypeId} : ∀ {l : List (DataW H)} {i : Nat} {d : DataW H}, l[i]? = some d → ∀ m ∈ d.weights Tryz.prog e, m ∈ DataW.weightsAll Tryz.prog e l
  | [], _, _, h, _, _ => by simp at h
  | x :: r, 0, d, h, m, hm => by
    simp only [List.getElem?_cons_zero, Option.some.injEq] at h
    subst h
    unfold DataW.weightsAll
    exact List.mem_append_left _ hm
  | x :: r, i + 1, d, h, m, hm => by
    unfold DataW.weightsAll
    exact List.mem_append_right _ (weights_all (by simpa using h) m hm)

set_option maxRecDepth 100000 in
theorem read_strs {n : Nat} {cs : List Value} {x : DataW H × List MemPlace} (h : DataW.trod enc Tryz.prog w base sp hd n 22 cs = some x) (hw : ∀ m ∈ x.1.weights Tryz.prog 22, m ≤ reachBytes) :
    ∃ (A : Option Addr) (c : Nat) (l : List ByteArray), cs = [.slice A l.length c] ∧ l.length ≤ c ∧ Kd.string.C w A l.length l ∧ l.length ≤ 140737488355328 := by
  rcases DataW.trod_slice Tryz.underlying22 h with ⟨rfl, rfl⟩ | ⟨a, len, cap, elems, rest, n', rfl, rfl, rfl, hb, hlc, hcm, hel, he, _, _⟩
  · exact ⟨none, 0, [], rfl, Nat.le_refl _, ⟨rfl, by simp, fun h => by simp at h⟩, by simp⟩
  · have hQ : ∀ i, i < len → ∃ s : ByteArray, w.cell? (a.add i) = some (.string s) := by
      intro i hi
      have h1 := he i hi
      rw [cells9, Nat.mul_one] at h1
      obtain ⟨y, hy⟩ : ∃ y, elems[i]? = some y := ⟨elems[i]'(by omega), List.getElem?_eq_getElem (by omega)⟩
      rw [hy] at h1
      obtain ⟨cs', h2, h3⟩ := Option.bind_eq_some_iff.1 h1
      obtain ⟨s, rfl, _, _⟩ := DataW.trod_string Tryz.underlying9 h3
      exact ⟨s, by have := (World.cells?_some h2).2.2 0 (by omega); simpa [Addr.add_zero'] using this⟩
    obtain ⟨l, hl, hq⟩ := list_of len hQ
    have hbound : len * 16 ≤ reachBytes := by
      have := hw ((elems.length + rest.length) * 16) (by
        simp only [DataW.weights, Tryz.underlying22, List.length_map, bytes9]
        exact List.mem_cons_self)
      have h2 : len * 16 ≤ (elems.length + rest.length) * 16 := Nat.mul_le_mul_right _ (by omega)
      omega
    have := reachBytes_lt
    refine ⟨some a, cap, l, by rw [hl], by omega, ⟨rfl, by omega, fun _ => ⟨a, rfl, fun j p hp => ⟨[.string p], rfl, rfl, fun i u hu => ?_⟩⟩⟩, by omega⟩
    match i, hu with
    | 0, hu =>
      simp only [List.getElem?_cons_zero, Option.some.injEq] at hu
      subst hu
      have := hq j p hp
      have hz : j * Kd.string.sz + 0 = j := Nat.mul_one j
      rw [hz]
      exact this


set_option maxRecDepth 100000 in
theorem read25 : ∀ (n : Nat) (cs : List Value) (x : DataW H × List MemPlace), DataW.trod enc Tryz.prog w base sp hd n 25 cs = some x → (∀ m ∈ x.1.weights Tryz.prog 25, m ≤ reachBytes) → ∃ X : S25, k25.K w X cs ∧ fineB 140737488355328 X = true ∧ cs.length = 6 := by
  intro n
  induction n using Nat.strongRecOn with
  | _ n ih =>
    intro cs x h hw
    obtain ⟨xs, m, rfl, rfl, hl, hxs, hf⟩ := DataW.trod_struct Tryz.underlying25 h
    rw [cells25] at hl
    have hxs6 : xs.length = 6 := hxs
    obtain ⟨c0, c1, c2, c3, c4, c5, rfl⟩ : ∃ c0 c1 c2 c3 c4 c5, cs = [c0, c1, c2, c3, c4, c5] := by
      match cs, hl with
      | [a, b, c, d, e, f], _ => exact ⟨a, b, c, d, e, f, rfl⟩
    obtain ⟨x0, x1, x2, x3, x4, x5, rfl⟩ : ∃ x0 x1 x2 x3 x4 x5, xs = [x0, x1, x2, x3, x4, x5] := by
      match xs, hxs6 with
      | [a, b, c, d, e, f], _ => exact ⟨a, b, c, d, e, f, rfl⟩
    have h0 : DataW.trod enc Tryz.prog w base sp hd m 3 [c0] = some x0 := by have := hf 0 _ rfl; simpa [cells3] using this
    have h1 : DataW.trod enc Tryz.prog w base sp hd m 3 [c1] = some x1 := by have := hf 1 _ rfl; simpa [cells3] using this
    have h2 : DataW.trod enc Tryz.prog w base sp hd m 9 [c2] = some x2 := by have := hf 2 _ rfl; simpa [cells9] using this
    have h3 : DataW.trod enc Tryz.prog w base sp hd m 22 [c3] = some x3 := by have := hf 3 _ rfl; simpa [cells22] using this
    have h4 : DataW.trod enc Tryz.prog w base sp hd m 22 [c4] = some x4 := by have := hf 4 _ rfl; simpa [cells22] using this
    have h5 : DataW.trod enc Tryz.prog w base sp hd m 23 [c5] = some x5 := by have := hf 5 _ rfl; simpa [cells23] using this
    have hwe : ∀ (j : Nat) (t : TypeId) (y : DataW H × List MemPlace), ([3, 3, 9, 22, 22, 23] : List TypeId)[j]? = some t → [x0, x1, x2, x3, x4, x5][j]? = some y → ∀ m ∈ y.1.weights Tryz.prog t, m ≤ reachBytes := by
      intro j t y ht hy q hq
      refine hw q ?_
      simp only [DataW.weights, Tryz.underlying25]
      exact DataW.weights_mem_each (j := j) (t := t) (d := y.1) ht (by rw [List.getElem?_map, hy]; rfl) q hq
    obtain ⟨k, e0, _, _⟩ := DataW.trod_int Tryz.underlying3 h0
    obtain ⟨ar, e1, _, _⟩ := DataW.trod_int Tryz.underlying3 h1
    obtain ⟨nm, e2, ex2, hnm⟩ := DataW.trod_string Tryz.underlying9 h2
    have hnb : nm.size ≤ 140737488355328 := by
      have := hwe 2 9 x2 rfl rfl nm.data.toList.length (by rw [ex2]; simp [DataW.weights])
      have h' := reachBytes_lt
      rw [Array.length_toList] at this
      have : nm.size ≤ reachBytes := this
      omega
    obtain ⟨A3, k3, l3, e3, hk3, hC3, hb3⟩ := read_strs h3 (hwe 3 22 x3 rfl rfl)
    obtain ⟨A4, k4, l4, e4, hk4, hC4, hb4⟩ := read_strs h4 (hwe 4 22 x4 rfl rfl)
    have hkids : ∃ (A : Option Addr) (c : Nat) (l : List S25), [c5] = [.slice A l.length c] ∧ l.length ≤ c ∧ k25.C w A l.length l ∧ l.length ≤ 140737488355328 ∧ fineLB 140737488355328 l = true := by
      have hw5 := hwe 5 23 x5 rfl rfl
      rcases DataW.trod_slice Tryz.underlying23 h5 with ⟨e5, rfl⟩ | ⟨a, len, cap, elems, rest, n', rfl, e5, rfl, hb, hlc, hcm, hel, he, _, _⟩
      · exact ⟨none, 0, [], e5, Nat.le_refl _, ⟨rfl, by simp, fun h => by simp at h⟩, by simp, by unfold fineLB; rfl⟩
      · have hQ : ∀ i, i < len → ∃ X : S25, (∃ c, c.length = 6 ∧ k25.K w X c ∧ ∀ j u, c[j]? = some u → w.cell? (a.add (i * 6 + j)) = some u) ∧ fineB 140737488355328 X = true := by
          intro i hi
          have h1 := he i hi
          rw [cells25] at h1
          obtain ⟨y, hy⟩ : ∃ y, elems[i]? = some y := ⟨elems[i]'(by omega), List.getElem?_eq_getElem (by omega)⟩
          rw [hy] at h1
          obtain ⟨cs', h2, h3⟩ := Option.bind_eq_some_iff.1 h1
          obtain ⟨X, g1, g2, g3⟩ := ih n' (by omega) cs' y h3 (fun q hq => hw5 q (by
            simp only [DataW.weights, Tryz.underlying23]
            exact List.mem_cons_of_mem _ (List.mem_append_left _ (weights_all (i := i) (d := y.1) (by rw [List.getElem?_map, hy]; rfl) q hq))))
          refine ⟨X, ⟨cs', g3, g1, fun j u hu => ?_⟩, g2⟩
          have hj := (List.getElem?_eq_some_iff.1 hu).1
          have := (World.cells?_some h2).2.2 j (by omega)
          rw [hu] at this
          rw [← this]
          congr 1
          rw [Addr.add_add]
        obtain ⟨l, hl, hq⟩ := list_of len hQ
        have hbound : len * 104 ≤ reachBytes := by
          have := hw5 ((elems.length + rest.length) * 104) (by
            simp only [DataW.weights, Tryz.underlying23, List.length_map, bytes25]
            exact List.mem_cons_self)
          have h2 : len * 104 ≤ (elems.length + rest.length) * 104 := Nat.mul_le_mul_right _ (by omega)
          omega
        have := reachBytes_lt
        exact ⟨some a, cap, l, by rw [hl]; exact e5, by omega, ⟨rfl, by omega, fun _ => ⟨a, rfl, fun j p hp => (hq j p hp).1⟩⟩, by omega, fineLB_of (fun i y hy => (hq i y hy).2)⟩
    obtain ⟨A5, k5, l5, e5, hk5, hC5, hb5, hf5⟩ := hkids
    simp only [List.cons.injEq, and_true] at e0 e1 e2 e3 e4 e5
    subst e0 e1 e2 e3 e4 e5
    refine ⟨⟨k, ar, nm, l3, l4, l5⟩, k25_mk w ⟨k, ar, nm, l3, l4, l5⟩ hk3 hC3 hk4 hC4 hk5 hC5, ?_, rfl⟩
    unfold fineB
    rw [hf5, Bool.and_true, decide_eq_true_eq]
    exact ⟨hnb, hb3, hb4, hb5⟩
end
end Go.Proofs.YtjjnjnnfebifnaaGreatDoor.Rn
namespace Go.Proofs.YtjjnjnnfebifnaaGreatDoor.reachNormal
open Go.ChangeShapes Go.WideShapes Go.ChangeAt Go.RowKit
open Go.Proofs.YtjjnjnnfebifnaaGreatDoorW.PrintWords Go.Proofs.YtjjnjnnfebifnaaGreatDoorW.PrintLast Go.Proofs.YtjjnjnnfebifnaaGreatDoor.PReachNormal Go.Proofs.YtjjnjnnfebifnaaGreatDoor.Rn

theorem own : ownKnob Tryz.prog.godebug = none := by kernel_rfl
theorem laidOut : laidOutB Tryz.prog = true := by kernel_rfl

/-- what the walk gives -/
def Walked : Prop := ∀ (x : S25) (A3 : Option Addr) (c3 : Nat) (A4 : Option Addr) (c4 : Nat) (A5 : Option Addr) (c5 : Nat) (w : World), fineB 140737488355328 x = true → Lay w x A3 c3 A4 c4 A5 c5 →
    Calls Tryz.prog 4 #[ag x A3 c3 A4 c4 A5 c5] w fun e w' => e = .returned (.bool true) ∧ Below w.heap.size w w'

set_option maxRecDepth 100000 in
theorem contract (HRN : Walked) (H : Type) (enc : TypeId × Value → H) (W : World) (base : Nat) (args : Array Value) (ds gs : List (DataW H)) (before : List MemPlace)
    (hval : ∀ (j : Nat) t v, Tryz.f4.params[j]? = some t → args[j]? = some v → Value.okWide Tryz.prog W .any base t v)
    (hW : DataW.Whole enc Tryz.prog Tryz.f4.params.toList Rows.reachNormalSpec.vars false W args.toList ds gs before)
    (hsz : (DataW.weightsEach Tryz.prog (Tryz.f4.params.toList ++ (OpenSpec.ofChange Rows.reachNormalSpec).bare.plain.varTypes Tryz.prog) (ds ++ gs)).all (· ≤ reachBytes) = true) :
    Calls Tryz.prog 4 args W fun e W' => ∃ v, e = .returned v ∧ Rows.reachNormalSpec.post enc Tryz.prog Tryz.f4 false true false false W args v W' := by
  have hW' := hW
  obtain ⟨p, q, hA0, hV, rfl, hfz, hnd⟩ := hW
  have hA : DataW.TrodAll enc Tryz.prog W 0 (fun _ => true) true Tryz.f4.params.toList args.toList ds p := hA0
  rw [Tryz.params4] at hA hval hsz
  obtain ⟨v0, vs0, d0, ds0, p0, q0, hargs, rfl, rfl, h0, r0⟩ := trodAll_cons hA
  obtain ⟨rfl, rfl, rfl⟩ := trodAll_nil r0
  obtain rfl : args = #[v0] := by cases args; simp_all
  obtain ⟨rfl, rfl⟩ := trodVars_none hV
  have k0 := h0
  have lt0 : ∀ x ∈ p0, x.block < W.heap.size := by obtain ⟨m, hm⟩ := k0; exact DataW.trod_lt m _ _ _ hm
  obtain ⟨cs, rfl, _⟩ := okWide_struct Tryz.underlying25 (hval 0 25 v0 rfl rfl)
  obtain ⟨fuel, hf⟩ := h0
  have hwt : ∀ m ∈ d0.weights Tryz.prog 25, m ≤ reachBytes := by
    intro m hm
    have := List.all_eq_true.1 hsz m (DataW.weights_mem_each (j := 0) (t := 25) (d := d0) rfl rfl m hm)
    simpa using this
  obtain ⟨X, hK, hfB, _⟩ := read25 fuel _ _ hf hwt
  obtain ⟨A3, c3, A4, c4, A5, c5, hcs, l3, g3, l4, g4, l5, g5⟩ := k25_open hK
  have hv : Value.agg cs = ag X A3 c3 A4 c4 A5 c5 := by
    exact congrArg Value.agg (Array.ext' hcs)
  rw [hv] at hW' k0 ⊢
  clear hA0 hval hsz hA r0 hV hf hwt
  refine (HRN X A3 c3 A4 c4 A5 c5 W hfB ⟨l3, g3, l4, g4, l5, g5⟩).mono fun e W' ⟨he, bel⟩ => ?_
  subst he
  exact ⟨_, rfl, _, _, _, [], _, [], hW', trodAll_mk1 (shut_bool Tryz.underlying4 _), trodAll_mk1 (Below.trod laidOut (by kernel_rfl) (of_decide_eq_true (by kernel_rfl)) k0 bel lt0), rfl, bel.frame _, fun h => by cases h⟩

end Go.Proofs.YtjjnjnnfebifnaaGreatDoor.reachNormal
