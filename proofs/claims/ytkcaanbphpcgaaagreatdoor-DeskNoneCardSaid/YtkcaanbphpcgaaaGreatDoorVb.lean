import Derived.Lib.UnsafeStr
import Derived.Recover
import Derived.Orders
import Derived.Test.YtkcaanbphpcgaaaGreatDoorVa
set_option linter.all false
namespace Go.Ev
open Go

theorem bytesX_ok {s : Sg} : ∀ {c : List AV} {l : List UInt8} {xs : List Value}, bytesX c = some l → Rs s c xs → xs = l.map fun b => Value.int .u8 b.toNat := by
  intro c
  induction c with
  | nil =>
    intro l xs h hr
    simp only [bytesX, Option.some.injEq] at h; subst h
    simp only [Rs] at hr; subst hr; rfl
  | cons a c ih =>
    intro l xs h hr
    simp only [Rs] at hr
    obtain ⟨x, ys, rfl, h1, h2⟩ := hr
    cases a with
    | int k n =>
      cases k with
      | u8 =>
        simp only [bytesX] at h
        cases hb : (decide (0 ≤ n) && decide (n < 256)) with
        | false => simp [hb] at h
        | true =>
          simp only [hb, cond_true] at h
          simp only [Bool.and_eq_true, decide_eq_true_eq] at hb
          cases hq : bytesX c with
          | none => simp [hq] at h
          | some r =>
            simp only [hq, Option.some.injEq] at h; subst h
            rw [ih hq h2, h1.int_inv]
            simp only [List.map_cons, List.cons.injEq, and_true]
            congr 1
            have : n.toNat < 256 := by omega
            simp [Nat.mod_eq_of_lt this]; omega
      | _ => simp [bytesX] at h
    | _ => simp [bytesX] at h
section
variable {E : Env} {P : Program} (H : EnvOk E P) {s : Sg} {h : AH} {w : World} (st : St s h w) {f : Operand → Option AV} {ρ : Operand → Value} (Hρ : ∀ x a, f x = some a → R s a (ρ x)) {o : Oper} {r : Res}

/-- a built-in function's operation -/
theorem exec_builtin {b : Builtin} {args : Array Operand} {ts : Array TypeId} (ho : o.op = .call { callee := .builtin b, args, argTypes := ts }) {x : Sem Value}
    (hx : ∀ cs, builtin b ts o.type cs (args.map ρ) = (do pure (.value (← x)))) {v : Value} {w' : World} (hr : x.run P w = .ok v w') :
    (execOp ρ o).run P w = .ok (.value v) w' := by
  simp only [execOp, ho, resolve, pure_bind, invoke]
  rw [hx]; simp [hr]

include H st Hρ in
theorem op_builtin {b : Builtin} {args : Array Operand} {ts : Array TypeId} (ho : o.op = .call { callee := .builtin b, args, argTypes := ts }) {as : List AV} (ha : rhos f args.toList = some as)
    (e : bi E b ts as h = some r) : OpOk P s h w r ((execOp ρ o).run P w) := by
  have hargs := rhos_ok Hρ _ _ ha
  have hmap : args.map ρ = (args.toList.map ρ).toArray := arr_map ρ args
  generalize hxs : args.toList.map ρ = xs at hargs hmap
  have one : ∀ {a : AV}, Rs s [a] xs → ∃ x, xs = [x] ∧ R s a x := by
    intro a hh; simp only [Rs] at hh; obtain ⟨x, ys, rfl, h1, rfl⟩ := hh; exact ⟨x, rfl, h1⟩
  have two : ∀ {a c : AV}, Rs s [a, c] xs → ∃ x y, xs = [x, y] ∧ R s a x ∧ R s c y := by
    intro a c hh; simp only [Rs] at hh; obtain ⟨x, ys, rfl, h1, y, zs, rfl, h2, rfl⟩ := hh; exact ⟨x, y, rfl, h1, h2⟩
  unfold bi at e; split at e
  · -- append
    rename_i sv x
    obtain ⟨s', x', rfl, h1, h2⟩ := two hargs
    split at e
    · rename_i t ht
      split at e
      · rename_i v h' hap
        cases e
        obtain ⟨s1, w1, v1, k1, k2, k3, k4⟩ := append_ok (P := P) (t := o.type) H st hap h1 h2 ht rfl
        exact ⟨s1, w1, v1, exec_builtin ho (x := Builtin.append_ ts o.type #[s', x']) (fun _ => by rw [hmap]; rfl) k1, k2, k3, k4⟩
      · cases e
    · cases e
  · -- copy
    rename_i d x
    obtain ⟨d', x', rfl, h1, h2⟩ := two hargs
    split at e
    · rename_i t ht
      split at e
      · rename_i v h' hap
        cases e
        obtain ⟨s1, w1, v1, k1, k2, k3, k4⟩ := copy_ok (P := P) (t := o.type) H st hap h1 h2 ht
        exact ⟨s1, w1, v1, exec_builtin ho (x := Builtin.copy_ ts o.type #[d', x']) (fun _ => by rw [hmap]; rfl) k1, k2, k3, k4⟩
      · cases e
    · cases e
  · -- len
    rename_i x
    obtain ⟨x', rfl, h1⟩ := one hargs
    have g0 : (#[x'] : Array Value)[0]? = some x' := rfl
    have fin : ∀ n : Nat, r = .val (.int .i64 n) h → (Builtin.len_ ts o.type #[x']).run P w = .ok (goInt n) w → OpOk P s h w r ((execOp ρ o).run P w) := by
      intro n k1 k2; subst k1
      exact VOk.pure st (v' := goInt n) (by simp [R, goInt]) (exec_builtin ho (x := Builtin.len_ ts o.type #[x']) (fun _ => by rw [hmap]; rfl) k2)
    cases ht : ts[0]? with
    | none => simp [ht, tyOf] at e
    | some t =>
      simp only [ht, tyOf] at e
      split at e
      · rename_i l hu
        cases e
        obtain rfl := h1.str_inv
        exact fin _ rfl (by simp [Builtin.len_, ht, g0, run_under H hu]; rfl)
      · rename_i el a n c hu
        cases e
        obtain ⟨q, m, d, hh, _⟩ := h1.slice_inv
        have hm : (Builtin.lenOf x').run P w = .ok n w := lenA_ok (P := P) (x := .slice a n c) rfl h1
        subst hh
        have : m = n := by simpa [Builtin.lenOf] using hm
        subst this
        exact fin _ rfl (by simp [Builtin.len_, ht, g0, run_under H hu])
      · rename_i n el hu
        cases e
        exact fin _ rfl (by simp [Builtin.len_, ht, g0, run_under H hu])
      · rename_i k el hu
        cases e
        obtain rfl := h1.nilmap
        exact fin 0 rfl (by simp [Builtin.len_, ht, g0, run_under H hu])
      · rename_i k el rr hu
        split at e
        · rename_i es c hg
          cases e
          obtain ⟨p, hp, rfl⟩ := h1.map_inv
          obtain ⟨ys, hb, hys⟩ := map_blk st hg hp
          have hget := run_getObj' (P := P) hb (by simp)
          have hl : ys.size = es.length := by rw [hys.length]; simp
          exact fin _ rfl (by simp [Builtin.len_, ht, g0, run_under H hu, hget, hl])
        · cases e
      · cases e
  · -- cap
    rename_i a n c
    obtain ⟨x', rfl, h1⟩ := one hargs
    have g0 : (#[x'] : Array Value)[0]? = some x' := rfl
    split at e
    · rename_i t ht
      split at e
      · rename_i el hu
        cases e
        have : ∃ q, x' = .slice q n c := by
          cases a with
          | none => simp only [R] at h1; exact ⟨_, h1⟩
          | some q => obtain ⟨i, o⟩ := q; simp only [R] at h1; obtain ⟨p, _, h1⟩ := h1; exact ⟨_, h1⟩
        obtain ⟨q, rfl⟩ := this
        exact VOk.pure st (v' := goInt c) (by simp [R, goInt]) (exec_builtin ho (x := Builtin.cap_ ts o.type #[.slice q n c]) (fun _ => by rw [hmap]; rfl) (by simp [Builtin.cap_, ht, g0, run_under H hu]))
      · cases e
    · cases e
  · -- max
    rename_i k a k2 b
    cases e
    obtain ⟨x', y', rfl, h1, h2⟩ := two hargs
    obtain rfl := h1.int_inv; obtain rfl := h2.int_inv
    exact VOk.pure st (v' := .int k (if b > a then b else a)) (by simp [R]) (exec_builtin ho (x := Builtin.max_ ts o.type #[.int k a, .int k2 b]) (fun _ => by rw [hmap]; rfl) (by simp [Builtin.max_, Builtin.max2]))
  · -- min
    rename_i k a k2 b
    cases e
    obtain ⟨x', y', rfl, h1, h2⟩ := two hargs
    obtain rfl := h1.int_inv; obtain rfl := h2.int_inv
    exact VOk.pure st (v' := .int k (if b < a then b else a)) (by simp [R]) (exec_builtin ho (x := Builtin.min_ ts o.type #[.int k a, .int k2 b]) (fun _ => by rw [hmap]; rfl) (by simp [Builtin.min_, Builtin.min2]))
  · -- delete from nil
    rename_i k
    obtain ⟨x', y', rfl, h1, h2⟩ := two hargs
    obtain rfl := h1.nilmap
    have g0 : (#[Value.map none, y'] : Array Value)[0]? = some (.map none) := rfl
    have g1 : (#[Value.map none, y'] : Array Value)[1]? = some y' := rfl
    split at e
    · rename_i kde hkd
      obtain ⟨kd, et⟩ := kde
      cases e
      cases ht : ts[0]? with
      | none => simp [ht, keyOf] at hkd
      | some t =>
        simp only [ht, keyOf] at hkd
        obtain ⟨kt, hu1, hu2, hsc⟩ := keyDesc_inv hkd
        exact VOk.pure st (v' := .tuple #[]) (by simp only [R]; exact ⟨[], rfl, Rs.nil⟩) (exec_builtin ho (x := Builtin.delete_ ts o.type #[.map none, y']) (fun _ => by rw [hmap]; rfl)
          (by simp [Builtin.delete_, ht, g0, g1, run_under H hu1, checkKey_ok H hu2 hsc]))
    · cases e
  · -- delete
    rename_i rr k
    obtain ⟨x', y', rfl, h1, h2⟩ := two hargs
    obtain ⟨p, hp, rfl⟩ := h1.map_inv
    have g0 : (#[Value.map (some p.b), y'] : Array Value)[0]? = some (.map (some p.b)) := rfl
    have g1 : (#[Value.map (some p.b), y'] : Array Value)[1]? = some y' := rfl
    split at e
    · rename_i kd et es c hkd hg
      split at e
      · rename_i r1 hdel
        cases e
        cases ht : ts[0]? with
        | none => simp [ht, keyOf] at hkd
        | some t =>
          simp only [ht, keyOf] at hkd
          obtain ⟨kt, hu1, hu2, hsc⟩ := keyDesc_inv hkd
          obtain ⟨ys, hb, hys⟩ := map_blk st hg hp
          have hget := run_getObj' (P := P) hb (by simp)
          have hset := fun o => run_setObj' (P := P) hb (by simp) o
          have fin : ∀ ob, (Builtin.delete_ ts o.type #[.map (some p.b), y']).run P w = .ok (.tuple #[]) (setB w p.b ob) → BR s (.map r1 c) ob p → OpOk P s h w (.val (.tup []) (h.put rr (.map r1 c))) ((execOp ρ o).run P w) := by
            intro ob q1 q2
            obtain ⟨k1, k2⟩ := Tra.setB st hg hp hb _ ob q2
            exact ⟨s, _, _, exec_builtin ho (x := Builtin.delete_ ts o.type #[.map (some p.b), y']) (fun _ => by rw [hmap]; rfl) q1, by simp only [R]; exact ⟨[], rfl, Rs.nil⟩, k1, k2⟩
          rcases delEnt_ok h2 es ys.toList r1 hdel hys with ⟨k1, k2⟩ | ⟨j, q, k1, k2⟩
          · refine fin (.map ys c) ?_ (by simp only [BR]; exact ⟨ys, rfl, k2⟩)
            simp [Builtin.delete_, ht, g0, g1, run_under H hu1, hget, checkKey_ok H hu2 hsc, run_findKey H hu2 k1, hset]
          · refine fin (.map (ys.eraseIdxIfInBounds j) c) ?_ (by simp only [BR]; exact ⟨_, rfl, by rw [Array.toList_eraseIdxIfInBounds]; exact k2⟩)
            simp [Builtin.delete_, ht, g0, g1, run_under H hu1, hget, checkKey_ok H hu2 hsc, run_findKey H hu2 k1, hset]
      · cases e
    · cases e
  · -- recover
    cases e
    show (execOp ρ o).run P w = .ok .recover w
    simp only [execOp, ho, resolve, pure_bind, invoke, builtin]
    rfl
  · -- unsafe.SliceData
    rename_i a n c
    obtain ⟨x', rfl, h1⟩ := one hargs
    have fin : ∀ v v', r = .val v h → (Builtin.unsafeSliceData_ ts o.type #[x']).run P w = .ok v' w → R s v v' → OpOk P s h w r ((execOp ρ o).run P w) := by
      intro v v' k1 k2 k3; subst k1
      exact VOk.pure st k3 (exec_builtin ho (x := Builtin.unsafeSliceData_ ts o.type #[x']) (fun _ => by rw [hmap]; rfl) k2)
    unfold sliceData at e; split at e
    · cases e
      cases c with
      | known c => simp only [R] at h1; subst h1; exact fin _ (.pointer none) rfl rfl (by simp [R])
      | grown g => simp [R] at h1
    · rename_i a c
      obtain ⟨i, off⟩ := a
      cases hb : Nat.blt 0 c with
      | false => simp [hb] at e
      | true =>
        simp only [hb, cond_true] at e; cases e
        rw [blt_dec, decide_eq_true_eq] at hb
        simp only [R] at h1
        obtain ⟨p, hp, rfl⟩ := h1
        exact fin _ (.pointer (some (p.at off))) rfl (Lib.run_unsafeSliceData_row w ts o.type _ _ _ (by omega)) (by simp only [R]; exact ⟨p, hp, rfl⟩)
    · rename_i a g
      obtain ⟨i, off⟩ := a
      cases hb : Nat.blt 0 n with
      | false => simp [hb] at e
      | true =>
        simp only [hb, cond_true] at e; cases e
        rw [blt_dec, decide_eq_true_eq] at hb
        simp only [R] at h1
        obtain ⟨p, cap, hp, rfl, k1, k2⟩ := h1
        exact fin _ (.pointer (some (p.at off))) rfl (Lib.run_unsafeSliceData_row w ts o.type _ _ _ (by omega)) (by simp only [R]; exact ⟨p, hp, rfl⟩)
  · -- unsafe.String
    rename_i a n
    obtain ⟨x', y', rfl, h1, h2⟩ := two hargs
    obtain rfl := h2.int_inv
    unfold ustr at e; split at e
    · rename_i pt it hts
      have hts' : ts = #[pt, it] := Array.ext' hts
      subst hts'
      cases h0 : decide (n = 0) with
      | true =>
        simp only [h0, cond_true] at e; cases e
        simp only [decide_eq_true_eq] at h0
        subst h0
        have hx : ∃ q, x' = .pointer q := by
          cases a with
          | none => exact ⟨_, h1.nilptr⟩
          | some a => obtain ⟨p, _, hh⟩ := h1.ptr_inv; exact ⟨_, hh⟩
        obtain ⟨q, rfl⟩ := hx
        exact VOk.pure st (v' := .string .empty) (by simp only [R]; rfl) (exec_builtin ho (x := Builtin.unsafeString_ #[pt, it] o.type #[.pointer q, .int .i64 0]) (fun _ => by rw [hmap]; rfl) (Lib.run_unsafeString_none w pt it o.type q))
      | false =>
        simp only [h0, cond_false] at e
        split at e
        · rename_i i
          obtain ⟨p, hp, rfl⟩ := h1.ptr_inv
          cases hn : decide (0 < n) with
          | false => simp [hn] at e
          | true =>
            simp only [hn, cond_true] at e
            simp only [decide_eq_true_eq] at hn
            unfold ustrAt at e; split at e
            · rename_i el t b c hu hg
              split at e
              · rename_i hsz
                cases hb : (Nat.beq t el && Nat.ble n.toNat c.length && Nat.ble n.toNat 9223372036854775807) with
                | false => simp [hb] at e
                | true =>
                  simp only [hb, cond_true] at e
                  simp only [Bool.and_eq_true] at hb
                  have e1 := Nat.eq_of_beq_eq_true hb.1.1
                  have e2 := Nat.le_of_ble_eq_true hb.1.2
                  have e3 := Nat.le_of_ble_eq_true hb.2
                  subst e1
                  split at e
                  · rename_i l hl
                    cases e
                    obtain ⟨ob, k1, k2⟩ := st.hr _ _ _ hg hp
                    simp only [BR] at k2
                    obtain ⟨cs, T, fr, rfl, hK, k3, k4, xs, k5, k6⟩ := k2
                    obtain ⟨rfl, ho2, _⟩ := hK
                    have hxs := bytesX_ok hl (Rs.take n.toNat k5)
                    have hll : l.length = n.toNat := by
                      have := congrArg List.length hxs
                      have hq := k5.length
                      simp at this; omega
                    have hni : n = (l.length : Int) := by omega
                    have hl0 : l ≠ [] := by intro h; subst h; simp at hll; omega
                    have hat : p.at 0 = ⟨p.b, 0, none⟩ := by simp [Pl.at, ho2]
                    have hc1 : P.cellsOf T = 1 := by
                      unfold Env.size at hsz
                      cases hi : E.tt.get T with
                      | none => simp [hi] at hsz
                      | some j => simp only [hi, Option.some.injEq] at hsz; simp [Program.cellsOf, H.tt _ _ hi, hsz]
                    have hcell : ∀ (j : Nat) (x : UInt8), l[j]? = some x → w.cell? ((⟨p.b, 0, none⟩ : Addr).add j) = some (.int .u8 x.toNat) := by
                      intro j x hj
                      have h3 : (xs.take n.toNat)[j]? = some (.int .u8 x.toNat) := by rw [hxs, List.getElem?_map, hj]; rfl
                      rw [List.getElem?_take] at h3
                      split at h3
                      · have h4 := k6 _ _ h3
                        rw [ho2, Nat.zero_add] at h4
                        rw [← hat, Addr.add_at]
                        simp only [World.cell?, Pl.at, k1]
                        simpa [ho2] using h4
                      · cases h3
                    have hrun := Lib.run_unsafeString_row (P := P) w pt it o.type T (under_ok H hu) hc1 p.b cs.size (by simp [World.shape?, k1]) l hl0 (by have hq := k5.length; have := k6 (n.toNat - 1) (xs[n.toNat - 1]'(by omega)) (List.getElem?_eq_getElem (by omega)); have := (Array.getElem?_eq_some_iff.1 this).1; omega) (by omega) hcell
                    have hw := Tra.wipe st hg hp (w' := w.freeze ⟨p.b, 0, none⟩ l.length) (by simp only [World.freeze]; split <;> simp) (fun b hb => by
                      simp only [World.freeze]
                      split
                      · rfl
                      · simp only [Array.getElem?_modify]
                        rw [if_neg (fun e => hb e.symm)]) (by simp only [World.freeze]; split <;> exact ⟨rfl, rfl, rfl⟩)
                    exact ⟨s, _, .string ⟨l.toArray⟩, exec_builtin ho (x := Builtin.unsafeString_ #[pt, it] o.type #[.pointer (some (p.at 0)), .int .i64 n]) (fun _ => by rw [hmap]; rfl) (by rw [hat, hni]; exact hrun), by simp only [R], hw.1, hw.2⟩
                  · cases e
              · cases e
            · cases e
        · cases e
    · cases e
  · cases e
end
end Go.Ev
namespace Go.Ev
open Go

section
variable {E : Env} {P : Program} (H : EnvOk E P) {s : Sg} {h : AH} {w : World} (st : St s h w) {f : Operand → Option AV} {ρ : Operand → Value} (Hρ : ∀ x a, f x = some a → R s a (ρ x)) {o : Oper} {r : Res}

include H in
theorem callFunc_enter {g : FuncId} {fn : Func} (hf : E.ft.get g = some fn) {c : Code} (hb : fn.body = some c) (args : Array Value) : (callFunc g args).run P w = .ok (.enter g args) w := by
  have h1 := H.ft g fn hf
  have h2 : ¬ fn.name = "runtime.NumGoroutine" := H.nm g fn hf
  simp [callFunc, h1, h2, hb]

include st in
theorem clone_ok {args : List AV} {v : AV} {h' : AH} (e : cloneA h args = some (v, h')) {xs : List Value} (hx : Rs s args xs) {res : Result Next}
    (hr : res = ((Extern.MapsClone.clone xs.toArray).run P w).andThen fun v w' => .ok (.value v) w') : VOk s h w v h' res := by
  unfold cloneA at e; split at e
  · rename_i t m
    split at e
    · rename_i es c hg
      cases e
      simp only [Rs] at hx
      obtain ⟨y, ys, rfl, h1, rfl⟩ := hx
      obtain ⟨z, rfl, h2⟩ := h1.iface_inv
      obtain ⟨p, hp, rfl⟩ := h2.map_inv
      obtain ⟨es', hb, hes⟩ := map_blk st hg hp
      have hget := run_getObj' (P := P) hb (by simp)
      have hle := Sg.le_set s h.next ⟨w.heap.size, 0, 0⟩ (st.fresh _ (Nat.le_refl _))
      have hrun : (Extern.MapsClone.clone #[.iface t (.map (some p.b))]).run P w = .ok (.iface t (.map (some w.heap.size))) (w.alloc (.map es' c)) := by
        rw [show Extern.MapsClone.clone #[.iface t (.map (some p.b))] = (do
          let .map entries clock ← getObj p.b | stuck "maps.clone: a map expected"
          pure (.iface t (.map (some (← newObj (.map entries clock)))))) from rfl]
        simp [hget]
      refine VOk.new (P := P) st _ (.map es c) (.map es' c) 0 (.iface t (.map (some w.heap.size))) (by rw [hr, hrun]; rfl) rfl (wd_alloc _ _) ?_ ?_
      · simp only [BR]; exact ⟨es', rfl, hes.mono hle⟩
      · simp only [R]; exact ⟨_, rfl, _, Sg.set_same _ _ _, rfl⟩
    · cases e
  · cases e

include H st in
/-- what the model does in the place of a function without a body -/
theorem extA_ok {g : FuncId} {fn : Func} {args : List AV} {xs : List Value} (hfn : E.ft.get g = some fn) (hb : fn.body = none) (hx : Rs s args xs) (e : extA E g args h = some r) {res : Result Next}
    (hres : res = (callFunc g xs.toArray).run P w) : OpOk P s h w r res := by
  unfold extA at e; split at e
  · rename_i v hv
    cases e
    obtain ⟨v', k1, k2⟩ := H.ex g fn _ _ hfn hb hv s w xs hx
    exact VOk.pure st k1 (by rw [hres]; exact k2)
  · cases hm : E.mkz g with
    | none => simp [hm] at e
    | some el =>
      simp only [hm] at e
      match args, hx, e with
      | [.int .i64 n], hx, e =>
        simp only [] at e
        cases hq : (decide (0 ≤ n) && decide (n < 1000000)) with
        | false => simp [hq] at e
        | true =>
          simp only [hq, cond_true] at e; cases e
          simp only [Bool.and_eq_true, decide_eq_true_eq] at hq
          simp only [Rs] at hx
          obtain ⟨x, ys, rfl, h1, rfl⟩ := hx
          obtain rfl := h1.int_inv
          obtain ⟨cs, w1, k1, k2, k3, k4⟩ := H.mz g fn el hfn hb hm n.toNat w (by omega)
          rw [show ((n.toNat : Nat) : Int) = n by omega] at k4
          obtain ⟨st1, t1⟩ := Tra.same st k2 k3
          obtain ⟨st2, t2⟩ := Tra.alloc st1 (.cells (some (el, false)) []) (.cells cs el) cs.size (w' := w1.alloc (.cells cs el)) rfl (wd_alloc _ _)
            (by simp only [BR]; exact ⟨cs, el, (0, 0), rfl, ⟨rfl, rfl, fun h => by cases h⟩, by simp, fun i _ => by simp, [], Rs.nil, fun i x hx => by simp at hx⟩)
          refine ⟨_, _, _, by rw [hres]; exact k4, ?_, st2, t1.trans t2⟩
          simp only [R]
          exact ⟨⟨w1.heap.size, 0, cs.size⟩, cs.size, Sg.set_same _ _ _, by rw [k2]; rfl, k1, by simp⟩
      | [], _, e => simp at e
      | _ :: _ :: _, _, e => simp at e
      | [.int .u8 _], _, e => simp at e
      | [.int .u16 _], _, e => simp at e
      | [.int .u32 _], _, e => simp at e
      | [.int .u64 _], _, e => simp at e
      | [.int .i8 _], _, e => simp at e
      | [.int .i16 _], _, e => simp at e
      | [.int .i32 _], _, e => simp at e
      | [.bool _], _, e => simp at e
      | [.str _], _, e => simp at e
      | [.ptr _], _, e => simp at e
      | [.slice _ _ _], _, e => simp at e
      | [.map _], _, e => simp at e
      | [.func _ _ _], _, e => simp at e
      | [.yield _], _, e => simp at e
      | [.nilFunc], _, e => simp at e
      | [.iface _ _], _, e => simp at e
      | [.nilIface], _, e => simp at e
      | [.agg _], _, e => simp at e
      | [.tup _], _, e => simp at e
      | [.any], _, e => simp at e

include H st in
theorem callVal_ok {fv : AV} {args : List AV} {fv' : Value} {xs : List Value} (hf : R s fv fv') (hx : Rs s args xs) (e : callVal E fv args h = some r) {res : Result Next}
    (hr : res = (do let d ← Deferred.ofValue fv' xs.toArray; invoke d.target d.args : Sem Next).run P w) : OpOk P s h w r res := by
  unfold callVal at e; split at e
  · rename_i g first cap
    obtain ⟨x1, x2, rfl, h1, h2⟩ := hf.func_inv
    have hres : res = (callFunc g (x1 ++ xs ++ x2).toArray).run P w := by
      rw [hr]
      have : x1.toArray ++ xs.toArray ++ x2.toArray = (x1 ++ xs ++ x2).toArray := by simp
      simp [Deferred.ofValue, invoke]
    have hall := (h1.append hx).append h2
    split at e
    · rename_i fn hfn
      split at e
      · rename_i c hb
        cases e
        exact ⟨rfl, x1 ++ xs ++ x2, hall, by rw [hres]; exact callFunc_enter H hfn hb _⟩
      · rename_i hb
        cases hn : (fn.name == "maps.clone") with
        | false =>
          simp only [hn, cond_false] at e
          exact extA_ok H st hfn hb hall e hres
        | true =>
          simp only [hn, cond_true] at e; cases e
          intro v h' hc
          exact clone_ok (P := P) st hc hall (by rw [hres]; exact H.cl g fn _ w hfn hb (by simpa using hn))
    · cases e
  · rename_i l
    cases e
    simp only [R] at hf
    obtain ⟨p, hp, rfl⟩ := hf
    refine ⟨rfl, p, xs, hp, hx, ?_⟩
    rw [hr]; simp [Deferred.ofValue, invoke]
  · cases e

include H st Hρ in
theorem op_call {c : Call} (ho : o.op = .call c) (e : evCall E f c h = some r) : OpOk P s h w r ((execOp ρ o).run P w) := by
  unfold evCall at e; split at e
  · rename_i as ha
    have hargs := rhos_ok Hρ _ _ ha
    have hmap : c.args.map ρ = (c.args.toList.map ρ).toArray := arr_map ρ c.args
    unfold evCallee at e; split at e
    · rename_i x hc
      split at e
      · rename_i fv hfv
        refine callVal_ok (P := P) H st (Hρ _ _ hfv) hargs e ?_
        simp only [execOp, ho, resolve, hc, hmap]
      · cases e
    · rename_i b hc
      refine op_builtin H st Hρ (b := b) (args := c.args) (ts := c.argTypes) ?_ ha e
      rw [ho]; cases c; simp only at hc; subst hc; rfl
    · rename_i x name hc
      unfold evInvoke at e; split at e
      · rename_i t v hx
        split at e
        · rename_i i hi
          split at e
          · rename_i m hm
            obtain ⟨v', hx', hv⟩ := (Hρ _ _ hx).iface_inv
            have hm' : i.methods.find? (fun m => m.name == name) = some m := by rw [← Array.find?_toList]; exact hm
            have fin : ∀ g, callVal E (.func (.func g) [] []) (v :: as) h = some r → (method (P.types.size + Made.depth) t v' name).run P w = .ok (g, v') w → OpOk P s h w r ((execOp ρ o).run P w) := by
              intro g k1 k2
              refine callVal_ok (P := P) H st (fv' := .func (.func g) #[] #[]) (xs := v' :: c.args.toList.map ρ) (by simp only [R]; exact ⟨[], [], rfl, Rs.nil, Rs.nil⟩) (Rs.cons hv hargs) k1 ?_
              have hR : (do let d ← Deferred.ofValue (.func (.func g) #[] #[]) (v' :: c.args.toList.map ρ).toArray; invoke d.target d.args : Sem Next) = callFunc g (v' :: c.args.toList.map ρ).toArray := by
                simp [Deferred.ofValue, invoke]
              rw [hR]
              have h0 : (#[Value.iface t v'] ++ c.args.map ρ)[0]? = some (.iface t v') := by rw [Array.getElem?_append_left (by simp)]; rfl
              have hx1 : (#[Value.iface t v'] ++ c.args.map ρ).extract 1 (#[Value.iface t v'] ++ c.args.map ρ).size = c.args.map ρ := by
                apply Array.ext'
                rw [hmap]
                simp [List.extract_eq_take_drop]
                exact List.take_of_length_le (by simp)
              have hA : #[v'] ++ c.args.map ρ = (v' :: c.args.toList.map ρ).toArray := by rw [hmap]; apply Array.ext'; simp
              rw [← hA]
              simp only [execOp, ho, resolve, hc, pure_bind, invoke, hx', h0, hx1, callMethod, Sem.run_bind, run_program, Result.andThen_ok, k2]
            have meth : ∀ g ptr, m.func = some (g, ptr) → m.path.toList = [] → (∀ d, E.under t = some d → ((∃ el, d = .pointer el) ∧ ptr = true) ∨ ((∀ el, d ≠ .pointer el) ∧ ptr = false)) → (∃ d, E.under t = some d) →
                (method (P.types.size + Made.depth) t v' name).run P w = .ok (g, v') w := by
              intro g ptr k1 k2 k3 ⟨d, hd⟩
              obtain ⟨n, hn⟩ : ∃ n, P.types.size + Made.depth = n + 1 := ⟨P.types.size + 99, rfl⟩
              rw [hn]
              have hp : m.path = #[] := by simpa using k2
              have hr := run_under H hd w
              rcases k3 d hd with ⟨⟨el, rfl⟩, rfl⟩ | ⟨hne, rfl⟩
              · simp [method, run_info H hi, hm', hp, follow, k1, receiverAt, hr, Place.get]
              · simp only [method, Sem.run_bind, run_info H hi, Result.andThen_ok, hm', hp, follow, k1, receiverAt, hr, Sem.run_pure]
                cases d <;> first | exact absurd rfl (hne _) | simp [Place.get]
            split at e
            · rename_i g ptr d hfun hpath hd
              split at e
              · rename_i el
                exact fin g e (meth g true hfun hpath (fun d' hd' => by rw [hd] at hd'; cases hd'; exact .inl ⟨⟨_, rfl⟩, rfl⟩) ⟨_, hd⟩)
              · cases e
              · cases e
              · rename_i hne
                exact fin g e (meth g false hfun hpath (fun d' hd' => by rw [hd] at hd'; cases hd'; exact .inr ⟨fun el hel => hne el hel, rfl⟩) ⟨_, hd⟩)
            · cases e
          · cases e
        · cases e
      · cases e
  · cases e

include H st Hρ in
theorem op_defer {c : Call} (ho : o.op = .defer c) (e : evDefer f c = some r) : OpOk P s h w r ((execOp ρ o).run P w) := by
  unfold evDefer at e; split at e
  · rename_i as x ha hc
    split at e
    · rename_i g first cap hx
      cases e
      have hargs := rhos_ok Hρ _ _ ha
      have hmap : c.args.map ρ = (c.args.toList.map ρ).toArray := arr_map ρ c.args
      obtain ⟨x1, x2, hx', h1, h2⟩ := (Hρ _ _ hx).func_inv
      refine ⟨{ target := .fn (.func g) x2.toArray, args := (x1 ++ c.args.toList.map ρ).toArray }, ?_, ?_⟩
      · simp only [DR]
        exact ⟨_, _, rfl, (h1.append hargs).append h2⟩
      · simp only [execOp, ho, resolve, hc, hx', hmap, Deferred.ofValue, pure_bind, Sem.run_pure]
        simp
    · cases e
  · cases e

include H st Hρ in
/-- ████ one operation -/
theorem op_ok (e : evalOp E f o.op h = some r) : OpOk P s h w r ((execOp ρ o).run P w) := by
  cases ho : o.op with
  | move x => rw [ho] at e; exact op_move st Hρ (.inl ho) e
  | assign x => rw [ho] at e; exact op_move st Hρ (.inr ho) e
  | pick c a b => rw [ho] at e; exact op_pick st Hρ ho e
  | alloc t => rw [ho] at e; exact op_alloc H st ho e
  | box t x => rw [ho] at e; exact op_box H st Hρ ho e
  | build t p => rw [ho] at e; exact op_build H st Hρ ho e
  | buildSlice t n p => rw [ho] at e; exact op_buildSlice H st Hρ ho e
  | insert t m k v => rw [ho] at e; exact op_update H st Hρ (.inl ho) e
  | mapUpdate t m k v => rw [ho] at e; exact op_update H st Hρ (.inr ho) e
  | mapEntry t m k => rw [ho] at e; exact op_mapEntry H st Hρ ho e
  | entryStore t m k v => rw [ho] at e; exact op_entryStore st Hρ ho e
  | load t a => rw [ho] at e; exact op_load H st Hρ ho e
  | store t a x => rw [ho] at e; exact op_store H st Hρ ho e
  | nilCheck x => rw [ho] at e; exact op_nilCheck st Hρ ho e
  | binOp b t x y t2 => rw [ho] at e; exact op_bin H st Hρ ho e
  | unOp u t x => rw [ho] at e; exact op_un st Hρ ho e
  | convert a b x => rw [ho] at e; exact op_convert H st Hρ ho e
  | makeInterface t x => rw [ho] at e; exact op_makeInterface H st Hρ ho e
  | makeFunc fn a b => rw [ho] at e; exact op_makeFunc st Hρ ho e
  | makeMap t x => rw [ho] at e; exact op_makeMap H st Hρ ho e
  | makeSlice t a b => rw [ho] at e; exact op_makeSlice H st Hρ ho e
  | slice t x a b c => rw [ho] at e; exact op_slice H st Hρ ho e
  | fieldAddr t x i => rw [ho] at e; exact op_fieldAddr H st Hρ ho e
  | field t x i => rw [ho] at e; exact op_field H st Hρ ho e
  | indexAddr t x i => rw [ho] at e; exact op_indexAddr H st Hρ ho e
  | index t x i => rw [ho] at e; exact op_index H st Hρ ho e
  | lookup t x k ok => rw [ho] at e; exact op_lookup H st Hρ ho e
  | range t x => rw [ho] at e; exact op_range H st Hρ ho e
  | next x b => rw [ho] at e; exact op_next st Hρ ho e
  | entry x => rw [ho] at e; exact op_entry st Hρ ho e
  | typeAssert x a b ok => rw [ho] at e; exact op_assert H st Hρ ho e
  | extract x i => rw [ho] at e; exact op_extract st Hρ ho e
  | call c => rw [ho] at e; exact op_call H st Hρ ho e
  | defer c => rw [ho] at e; exact op_defer H st Hρ ho e
  | _ => rw [ho] at e; simp [evalOp] at e
end
end Go.Ev
namespace Go.Ev
open Go

/-! ### the machine's steps, of any frame -/
section
variable {P : Program} {fr : Frame} {cs : List Frame} {w : World} {k : List Item}

theorem st_skip (hm : fr.mode = .run) (ht : fr.todo = .code .skip :: k) : step P (lone fr cs w) = .next (lone { fr with todo := k } cs w) :=
  step_lone_go (by simp [stepG, stepG.exec, hm, ht])
theorem st_label {l : Nat} (hm : fr.mode = .run) (ht : fr.todo = .code (.label l) :: k) : step P (lone fr cs w) = .next (lone { fr with todo := k } cs w) :=
  step_lone_go (by simp [stepG, stepG.exec, hm, ht])
theorem st_inBlock {l : Nat} (hm : fr.mode = .run) (ht : fr.todo = .inBlock l :: k) : step P (lone fr cs w) = .next (lone { fr with todo := k } cs w) :=
  step_lone_go (by simp [stepG, stepG.exec, hm, ht])
theorem st_inScope {b : Code} (hm : fr.mode = .run) (ht : fr.todo = .inScope b :: k) : step P (lone fr cs w) = .next (lone { fr with todo := k } cs w) :=
  step_lone_go (by simp [stepG, stepG.exec, hm, ht])
theorem st_seq {a b : Code} (hm : fr.mode = .run) (ht : fr.todo = .code (.seq a b) :: k) : step P (lone fr cs w) = .next (lone { fr with todo := .code a :: .code b :: k } cs w) :=
  step_lone_go (by simp [stepG, stepG.exec, hm, ht])
theorem st_cond {c : Operand} {a b : Code} {t : Bool} (hm : fr.mode = .run) (ht : fr.todo = .code (.cond c a b) :: k) (hc : fr.eval c = .bool t) :
    step P (lone fr cs w) = .next (lone { fr with todo := .code (if t then a else b) :: k } cs w) :=
  step_lone_go (by simp [stepG, stepG.exec, hm, ht, hc])
theorem st_block {id : Nat} {c : Code} (hm : fr.mode = .run) (ht : fr.todo = .code (.block id c) :: k) :
    step P (lone fr cs w) = .next (lone { fr with todo := .code c :: .inBlock id :: k } cs w) :=
  step_lone_go (by simp [stepG, stepG.exec, hm, ht])
theorem st_loop {c : Code} (hm : fr.mode = .run) (ht : fr.todo = .code (.loop c) :: k) :
    step P (lone fr cs w) = .next (lone { fr with todo := .code c :: .inLoop c :: k } cs w) :=
  step_lone_go (by simp [stepG, stepG.exec, hm, ht])
theorem st_inLoop {c : Code} (hm : fr.mode = .run) (ht : fr.todo = .inLoop c :: k) :
    step P (lone fr cs w) = .next (lone { fr with todo := .code c :: .inLoop c :: k } cs w) :=
  step_lone_go (by simp [stepG, stepG.exec, hm, ht])
theorem st_scope {c : Code} (hm : fr.mode = .run) (ht : fr.todo = .code (.scope c) :: k) :
    step P (lone fr cs w) = .next (lone { fr with todo := .code c :: .inScope c :: k } cs w) :=
  step_lone_go (by simp [stepG, stepG.exec, hm, ht])
theorem st_exit {id : Nat} {k' : List Item} (hm : fr.mode = .run) (ht : fr.todo = .code (.exit id) :: k) (hx : exitTo id k = some k') :
    step P (lone fr cs w) = .next (lone { fr with todo := k' } cs w) :=
  step_lone_go (by simp [stepG, stepG.exec, hm, ht, hx])
theorem st_region {id : Nat} {ops : Array Oper} (hm : fr.mode = .run) (ht : fr.todo = .code (.region id ops false) :: k) :
    step P (lone fr cs w) = .next (lone { fr with todo := .inRegion ops (List.range ops.size) :: k } cs w) :=
  step_lone_go (by simp [stepG, stepG.exec, hm, ht])
theorem st_draw {id : Nat} {ops : Array Oper} (hm : fr.mode = .run) (ht : fr.todo = .code (.region id ops true) :: k) :
    ∃ t, step P (lone fr cs w) = .next (lone { fr with todo := .inRegion ops (Region.schedule (P.follows .mixedOrders) ops t) :: k } cs { w with drawn := w.drawn + 1 }) :=
  ⟨w.tape w.drawn (.order fr.fn id), step_lone_go (by simp [stepG, stepG.exec, hm, ht, choose, Sem.run, Question.forced, Question.cut])⟩
theorem st_region_end {ops : Array Oper} (hm : fr.mode = .run) (ht : fr.todo = .inRegion ops [] :: k) : step P (lone fr cs w) = .next (lone { fr with todo := k } cs w) :=
  step_lone_go (by simp [stepG, stepG.exec, hm, ht])
theorem st_ret (hm : fr.mode = .run) (hr : fr.roundOf = none) (ht : fr.todo = [] ∨ ∃ k, fr.todo = .code .ret :: k) :
    step P (lone fr cs w) = .next (lone { fr with mode := .returning } cs w) := by
  rcases ht with ht | ⟨k, ht⟩
  · exact step_lone_go (by simp [stepG, stepG.exec, hm, ht, hr])
  · exact step_lone_go (by simp [stepG, stepG.exec, hm, ht, hr])

section ops
variable {ops : Array Oper} {i : Nat} {rest : List Nat} {o : Oper} (hm : fr.mode = .run) (ht : fr.todo = .inRegion ops (i :: rest) :: k) (ho : ops[i]? = some o)
include hm ht ho
theorem st_op_skip (hw : Region.wanted o (yielded ops fr.tmps) = false) : step P (lone fr cs w) = .next (lone (fr.finish undef) cs w) :=
  step_lone_go (by simp [stepG, stepG.exec, hm, ht, ho, hw])

variable (hw : Region.wanted o (yielded ops fr.tmps) = true)
include hw
theorem st_op (hd : fr.roundOf = none ∨ ∀ c, o.op ≠ .defer c) :
    stepG P true { frame := fr, callers := cs, status := .running, dying := none } w = stepG.apply P true fr cs none (execOp fr.eval o) w := by
  rcases hd with hd | hd
  · simp [stepG, stepG.exec, stepG.oper, Frame.oper?, hm, ht, ho, hw, hd]
  · simp only [stepG, stepG.exec, stepG.oper, Frame.oper?, hm, ht, ho, hw, Option.map_some, Option.getD_some, if_true]
    split
    · rename_i hc; exact absurd hc (hd _)
    · rfl

theorem st_op_value (hd : fr.roundOf = none ∨ ∀ c, o.op ≠ .defer c) {v : Value} {w' : World} (hr : (execOp fr.eval o).run P w = .ok (.value v) w') :
    step P (lone fr cs w) = .next (lone (fr.finish v) cs w') :=
  step_lone_go (by rw [st_op hm ht ho hw hd]; simp only [stepG.apply, Sem.runT_eq, hr, GStep.bare_after]; simp)
theorem st_op_void (hd : fr.roundOf = none ∨ ∀ c, o.op ≠ .defer c) {w' : World} (hr : (execOp fr.eval o).run P w = .ok .skip w') :
    step P (lone fr cs w) = .next (lone (fr.finish undef) cs w') :=
  step_lone_go (by rw [st_op hm ht ho hw hd]; simp only [stepG.apply, Sem.runT_eq, hr, GStep.bare_after]; simp)
theorem st_op_defer (hd : fr.roundOf = none) {d : Deferred} {w' : World} (hr : (execOp fr.eval o).run P w = .ok (.defer d) w') :
    step P (lone fr cs w) = .next (lone ({ fr with defers := d :: fr.defers }.finish undef) cs w') :=
  step_lone_go (by rw [st_op hm ht ho hw (.inl hd)]; simp only [stepG.apply, Sem.runT_eq, hr, GStep.bare_after]; simp)
theorem st_op_recover (hd : fr.roundOf = none) (hn : tryRecover fr cs = none) {w' : World} (hr : (execOp fr.eval o).run P w = .ok .recover w') :
    step P (lone fr cs w) = .next (lone (fr.finish .nilIface) cs w') :=
  step_lone_go (by rw [st_op hm ht ho hw (.inl hd)]; simp only [stepG.apply, Sem.runT_eq, hr, GStep.bare_after, hd, hn]; simp)
theorem st_op_enter (hd : fr.roundOf = none ∨ ∀ c, o.op ≠ .defer c) {g : FuncId} {args : Array Value} {w' : World} (hr : (execOp fr.eval o).run P w = .ok (.enter g args) w') :
    step P (lone fr cs w) = .next (lone (Frame.enter P g args .normal) (fr :: cs) w') :=
  step_lone_go (by rw [st_op hm ht ho hw hd]; simp only [stepG.apply, Sem.runT_eq, hr, GStep.bare_after, ht]; simp)
theorem st_op_round (hd : fr.roundOf = none ∨ ∀ c, o.op ≠ .defer c) {l : Nat} {g : FuncId} {tmps : Array Value} {a b : Code} {w' : World}
    (hr : (execOp fr.eval o).run P w = .ok (.round l g tmps a b) w') :
    step P (lone fr cs w) = .next (lone (Frame.round l g tmps a b .normal) (fr :: cs) w') :=
  step_lone_go (by rw [st_op hm ht ho hw hd]; simp only [stepG.apply, Sem.runT_eq, hr, GStep.bare_after]; simp)
end ops

/-! rounds -/
theorem st_range {x : Operand} {params : Array Tmp} {assign body : Code} (hm : fr.mode = .run) (ht : fr.todo = .code (.rangeFunc x params assign body) :: k)
    {l : Nat} {mark : List Deferred} {w1 w2 : World} {g : FuncId} {args : Array Value}
    (h1 : (Instr.enterLoop fr.fn fr.tmps params assign body fr.roundOf).run P w = .ok (l, mark) w1)
    (h2 : (do let d ← resolve fr.eval { callee := .value x, args := #[.const (.func (.yield l) #[] #[])], argTypes := #[] } 0; invoke d.target d.args : Sem Next).run P w1 = .ok (.enter g args) w2) :
    step P (lone fr cs w) = .next (lone (Frame.enter P g args .normal) ({ fr with todo := .inRangeFunc l :: k, defers := mark ++ fr.defers } :: cs) w2) := by
  obtain ⟨fn, tmps, todo, defers, mode, kind, ro⟩ := fr
  simp only at hm ht h1 h2
  subst hm ht
  refine step_lone_go ?_
  have he : ({ fn, tmps, todo := .inRangeFunc l :: k, defers := mark ++ defers, mode := .run, kind, roundOf := ro } : Frame).eval =
      ({ fn, tmps, todo := .code (.rangeFunc x params assign body) :: k, defers, mode := .run, kind, roundOf := ro } : Frame).eval := by funext y; cases y <;> rfl
  simp only [stepG, stepG.exec, Sem.runT_eq, h1, GStep.bare_after]
  simp only [stepG.apply, Sem.runT_eq, he, h2, GStep.bare_after, if_true]
  simp

theorem st_begin {l : Nat} {w1 : World} (hm : fr.mode = .run) (ht : fr.todo = .beginRound :: k) (hr : fr.roundOf = some l) (h1 : (Instr.beginRound l).run P w = .ok () w1) :
    step P (lone fr cs w) = .next (lone { fr with todo := k } cs w1) :=
  step_lone_go (by
    have h2 : (do fr.roundOf.elim (stuck "beginRound: no round") Instr.beginRound; pure .skip : Sem Next).run P w = .ok .skip w1 := by
      rw [hr]; simp [h1]
    simp only [stepG, stepG.exec, hm, ht]
    simp only [stepG.apply, Sem.runT_eq, h2, GStep.bare_after]; simp [Frame.finish, ht, hm])

theorem st_endLoop {l : Nat} {j : Option Code} {w1 : World} (hm : fr.mode = .run) (ht : fr.todo = .endRangeFunc l :: k) (h1 : (Instr.endLoop l).run P w = .ok j w1) :
    step P (lone fr cs w) = .next (lone { fr with todo := (j.map Item.code).toList ++ k } cs w1) :=
  step_lone_go (by simp only [stepG, stepG.exec, hm, ht, Sem.runT_eq, h1, GStep.bare_after]; simp)

theorem st_leave {l : Nat} {j : Option Code} {v : Value} {w1 : World} {c : Frame} (hm : fr.mode = .run) (hr : fr.roundOf = some l) (hk : fr.kind = .normal)
    (ht : (fr.todo = [] ∧ j = none) ∨ (∃ k, fr.todo = .code .ret :: k ∧ j = some .ret) ∨ ∃ id k, fr.todo = .code (.exit id) :: k ∧ exitTo id k = none ∧ j = some (.exit id))
    (h1 : (Instr.endRound l j).run P w = .ok v w1) : step P (lone fr (c :: cs) w) = .next (lone (c.finish v) cs w1) := by
  rcases ht with ⟨ht, rfl⟩ | ⟨k, ht, rfl⟩ | ⟨id, k, ht, hx, rfl⟩
  · exact step_lone_go (by simp only [stepG, stepG.exec, hm, ht, hr, Sem.runT_eq, h1, GStep.bare_after]; simp [doReturn, hk])
  · exact step_lone_go (by simp only [stepG, stepG.exec, hm, ht, hr, Sem.runT_eq, h1, GStep.bare_after]; simp [doReturn, hk])
  · exact step_lone_go (by simp only [stepG, stepG.exec, hm, ht, hr, hx, Option.elim_none, Sem.runT_eq, h1, GStep.bare_after]; simp [doReturn, hk])

theorem st_collected {b : Nat} {args : Array Value} {ds calls : List Deferred} {w1 : World} (hm : fr.mode ≠ .run) (hd : fr.defers = { target := .collected b, args } :: ds)
    (h1 : (Instr.takeDeferred b).run P w = .ok calls w1) : step P (lone fr cs w) = .next (lone { fr with defers := calls ++ ds } cs w1) :=
  step_lone_go (by
    have : stepG P true { frame := fr, callers := cs, status := .running, dying := none } w = unwind P true fr cs none w := by
      unfold stepG; cases h : fr.mode with
      | run => exact absurd h hm
      | _ => simp [h]
    rw [this]
    simp only [unwind, hd, Sem.runT_eq, h1, GStep.bare_after]; simp)
end
end Go.Ev
namespace Go.Ev
open Go

/-! ### answers -/
theorem each_ok : ∀ {l : List Out} {k : Out → Ans} {outs : List Out}, each l k = .ok outs → ∀ o ∈ l, ∃ l', k o = .ok l' ∧ ∀ x ∈ l', x ∈ outs
  | [], k, outs, _, o, ho => by simp at ho
  | [a], k, outs, e, o, ho => by
    simp only [List.mem_singleton] at ho; subst ho
    simp only [each] at e; exact ⟨outs, e, fun _ h => h⟩
  | a :: b :: l, k, outs, e, o, ho => by
    simp only [each] at e
    split at e
    · rename_i l1 h1
      split at e
      · rename_i l2 h2
        cases e
        rcases List.mem_cons.1 ho with rfl | ho
        · exact ⟨l1, h1, fun x hx => List.mem_append.2 (.inl hx)⟩
        · obtain ⟨l', h3, h4⟩ := each_ok (l := b :: l) h2 o ho
          exact ⟨l', h3, fun x hx => List.mem_append.2 (.inr (h4 x hx))⟩
      · cases e
    · cases e

theorem thenAll_ok {a : Ans} {k : Out → Ans} {outs : List Out} (e : thenAll a k = .ok outs) :
    ∃ l, a = .ok l ∧ ∀ o ∈ l, ∃ l', k o = .ok l' ∧ ∀ x ∈ l', x ∈ outs := by
  unfold thenAll at e; split at e
  · rename_i l
    exact ⟨l, rfl, each_ok e⟩
  · cases e

/-! ### frames -/
def DRs (s : Sg) : List ADef → List Deferred → Prop
  | [], l => l = []
  | a :: as, l => ∃ d ds, l = d :: ds ∧ DR s a d ∧ DRs s as ds

theorem DR.mono {s t : Sg} (h : s.le t) : ∀ {a : ADef} {d : Deferred}, DR s a d → DR t a d
  | .fn g args, d, e => by
    simp only [DR] at e ⊢; obtain ⟨as, cap, e, h1⟩ := e; exact ⟨as, cap, e, Rs.mono h _ _ h1⟩
  | .coll r, d, e => by
    simp only [DR] at e ⊢; obtain ⟨p, hp, e⟩ := e; exact ⟨p, h _ _ hp, e⟩

theorem DRs.mono {s t : Sg} (h : s.le t) : ∀ {a : List ADef} {d : List Deferred}, DRs s a d → DRs t a d
  | [], d, e => by simpa only [DRs] using e
  | a :: as, d, e => by
    simp only [DRs] at e ⊢; obtain ⟨x, xs, e, h1, h2⟩ := e; exact ⟨x, xs, e, h1.mono h, DRs.mono h h2⟩

def RoundOk (s : Sg) (r : Option Nat) (fr : Frame) : Prop :=
  match r with
  | none => fr.roundOf = none
  | some l => ∃ p, s l = some p ∧ fr.roundOf = some p.b

structure FrOk (s : Sg) (fn : FuncId) (f : Fr) (todo : List Item) (ds : List ADef) (r : Option Nat) (kind : CallKind) (fr : Frame) : Prop where
  fn : fr.fn = fn
  tmps : TRel s f.tmps f.n fr.tmps
  todo : fr.todo = todo
  defers : DRs s ds fr.defers
  mode : fr.mode = .run
  kind : fr.kind = kind
  round : RoundOk s r fr

theorem FrOk.mono {s t : Sg} (h : s.le t) {fn : FuncId} {f : Fr} {todo : List Item} {ds : List ADef} {r : Option Nat} {kind : CallKind} {fr : Frame}
    (k : FrOk s fn f todo ds r kind fr) : FrOk t fn f todo ds r kind fr :=
  ⟨k.fn, k.tmps.mono h, k.todo, k.defers.mono h, k.mode, k.kind, by
    have := k.round
    unfold RoundOk at this ⊢
    cases r with
    | none => exact this
    | some l => obtain ⟨p, hp, e⟩ := this; exact ⟨p, h _ _ hp, e⟩⟩

theorem FrOk.goto {s : Sg} {fn : FuncId} {f : Fr} {todo todo' : List Item} {ds : List ADef} {r : Option Nat} {kind : CallKind} {fr : Frame}
    (k : FrOk s fn f todo ds r kind fr) : FrOk s fn f todo' ds r kind { fr with todo := todo' } :=
  ⟨k.fn, k.tmps, rfl, k.defers, k.mode, k.kind, by
    have := k.round
    unfold RoundOk at this ⊢
    cases r <;> exact this⟩

/-- recover finds nothing to recover -/
def RecOk (kind : CallKind) (cs : List Frame) : Prop := kind = .normal ∨ (kind = .deferred ∧ ∃ c l, cs = c :: l ∧ c.mode = .returning)

theorem RecOk.none {kind : CallKind} {cs : List Frame} (h : RecOk kind cs) {fr : Frame} (hk : fr.kind = kind) : tryRecover fr cs = none := by
  rcases h with rfl | ⟨rfl, c, l, rfl, hm⟩
  · unfold tryRecover; rw [hk]
  · rw [tryRecover_deferred hk]; simp [recoverD, hm]

theorem FrOk.rho {s : Sg} {fn : FuncId} {f : Fr} {todo : List Item} {ds : List ADef} {r : Option Nat} {kind : CallKind} {fr : Frame}
    (k : FrOk s fn f todo ds r kind fr) (x : Operand) (a : AV) (e : rho f x = some a) : R s a (fr.eval x) := by
  cases x with
  | tmp t =>
    cases f with
    | mk ts n =>
      obtain ⟨v, h1, h2⟩ := k.tmps.2 t a e
      simp only [Frame.eval, Array.getD_eq_getD_getElem?, h1, Option.getD_some]; exact h2
  | const v => exact ofValue_R s v a e
  | global g => simp [Ev.rho] at e
  | func g => simp only [Ev.rho] at e; cases e; simp only [Frame.eval, R]; exact ⟨[], [], rfl, Rs.nil, Rs.nil⟩

theorem TRel.put {s : Sg} {t : Tr AV} {n : Nat} {tmps : Array Value} (k : TRel s t n tmps) {d : Nat} (hd : d < n) {a : AV} {v : Value} (h : R s a v) :
    TRel s (Tr.set t d (some a)) n (tmps.setIfInBounds d v) := by
  refine ⟨by simpa using k.1, fun i b e => ?_⟩
  have hs := k.1
  rcases Tr.get_set t d i (some a) b e with ⟨rfl, hb⟩ | ⟨hne, hb⟩
  · cases hb
    exact ⟨v, by rw [Array.getElem?_setIfInBounds]; simp; omega, h⟩
  · obtain ⟨v', h1, h2⟩ := k.2 i b hb
    exact ⟨v', by rw [Array.getElem?_setIfInBounds]; rw [if_neg (fun e => hne e.symm)]; exact h1, h2⟩

theorem FrOk.finish {s : Sg} {fn : FuncId} {f f' : Fr} {ops : Array Oper} {i : Nat} {rest : List Nat} {tl : List Item} {ds : List ADef} {r : Option Nat} {kind : CallKind} {fr : Frame}
    (k : FrOk s fn f (.inRegion ops (i :: rest) :: tl) ds r kind fr) {o : Oper} (ho : ops[i]? = some o) {a : AV} {v : Value} (hp : f.put o.dst a = some f') (h : R s a v) :
    FrOk s fn f' (.inRegion ops rest :: tl) ds r kind (fr.finish v) := by
  obtain ⟨h1, h2, h3, h4, h5, h6, h7⟩ := k
  have hf : fr.finish v = { fr with tmps := match (ops[i]?).bind (·.dst) with | some d => fr.tmps.setIfInBounds d v | none => fr.tmps, todo := .inRegion ops rest :: tl } := by
    simp [Frame.finish, h3]; rfl
  rw [hf, ho]
  refine ⟨h1, ?_, rfl, h4, h5, h6, ?_⟩
  · cases hd : o.dst with
    | none =>
      rw [hd] at hp; simp only [Fr.put] at hp; cases hp
      simpa [hd] using h2
    | some d =>
      rw [hd] at hp; simp only [Fr.put] at hp
      cases f with
      | mk t n =>
        simp only at hp h2
        cases hb : Nat.blt d n with
        | false => simp [hb] at hp
        | true =>
          simp only [hb, cond_true] at hp; cases hp
          simp only [Option.bind_some, hd]
          exact h2.put (by simpa [Nat.blt_eq] using hb) h
  · unfold RoundOk at h7 ⊢
    cases r <;> exact h7

theorem nothing_R (s : Sg) : R s nothing undef := by
  simp only [nothing, R]; exact ⟨[], rfl, Rs.nil⟩

theorem wanted_ok {s : Sg} {f : Fr} {tmps : Array Value} (k : TRel s f.tmps f.n tmps) {o : Oper} {ops : Array Oper} {b : Bool} (e : wantedA o ops f = some b) :
    Region.wanted o (yielded ops tmps) = b := by
  unfold wantedA at e
  unfold Region.wanted
  split at e
  · rename_i hg; cases e; simp [hg]
  · rename_i j want hg
    split at e
    · rename_i p hp
      split at e
      · rename_i d hd
        have hy : yielded ops tmps j = match tmps[d]? with | some (.bool b) => some b | _ => none := by
          unfold yielded; rw [hp]; simp [hd]; rfl
        split at e
        · rename_i b' hb
          cases e
          obtain ⟨v, h1, h2⟩ := k.2 d _ hb
          rw [h2.bool_inv] at h1
          simp [hg, hy, h1]
        · rename_i l hb
          cases e
          obtain ⟨v, h1, h2⟩ := k.2 d _ hb
          simp only [R] at h2
          obtain ⟨xs, rfl, _⟩ := h2
          simp [hg, hy, h1]
        · cases e
      · cases e
    · cases e

/-! ### what a way of going on does -/
def LeavingAs (r : Option Nat) (j : Option Jump) (todo : List Item) : Prop :=
  (todo = [] ∧ j = none) ∨ (∃ k, todo = .code .ret :: k ∧ j = match r with | some _ => some .ret | none => none) ∨
    ∃ id k l, todo = .code (.exit id) :: k ∧ exitTo id k = none ∧ r = some l ∧ j = some (.exit id)

def LeftOk (P : Program) (s : Sg) (h : AH) (w : World) (fn : FuncId) (r : Option Nat) (kind : CallKind) (fr : Frame) (cs : List Frame) (outs : List Out) : Prop :=
  ∃ f' j ds' h' todo' s' w' fr', Out.left f' j ds' h' ∈ outs ∧ Steps P (lone fr cs w) (lone fr' cs w') ∧ FrOk s' fn f' todo' ds' r kind fr' ∧ LeavingAs r j todo' ∧
    St s' h' w' ∧ Tra s h w s' h' w'

def ValOk (P : Program) (s : Sg) (h : AH) (w : World) (fn : FuncId) (kind : CallKind) (fr : Frame) (cs : List Frame) (outs : List Out) : Prop :=
  ∃ v h' s' w' v' fr', Out.val v h' ∈ outs ∧ Steps P (lone fr cs w) (lone fr' cs w') ∧ R s' v v' ∧ fr'.going P w' (.returned v') ∧ fr'.kind = kind ∧ fr'.fn = fn ∧
    St s' h' w' ∧ Tra s h w s' h' w'

def OpsOk (P : Program) (s : Sg) (h : AH) (w : World) (fn : FuncId) (ops : Array Oper) (k : List Item) (r : Option Nat) (kind : CallKind) (fr : Frame) (cs : List Frame) (outs : List Out) : Prop :=
  ∃ f' ds' h' s' w' fr', Out.ops f' ds' h' ∈ outs ∧ Steps P (lone fr cs w) (lone fr' cs w') ∧ FrOk s' fn f' (.inRegion ops [] :: k) ds' r kind fr' ∧
    St s' h' w' ∧ Tra s h w s' h' w'

theorem LeftOk.of {P : Program} {s s1 : Sg} {h h1 : AH} {w w1 : World} {fn : FuncId} {r : Option Nat} {kind : CallKind} {fr fr1 : Frame} {cs : List Frame} {l outs : List Out}
    (hs : Steps P (lone fr cs w) (lone fr1 cs w1)) (ht : Tra s h w s1 h1 w1) (hm : ∀ x ∈ l, x ∈ outs) (k : LeftOk P s1 h1 w1 fn r kind fr1 cs l) : LeftOk P s h w fn r kind fr cs outs := by
  obtain ⟨f', j, ds', h', todo', s', w', fr', k1, k2, k3, k4, k5, k6⟩ := k
  exact ⟨f', j, ds', h', todo', s', w', fr', hm _ k1, hs.trans k2, k3, k4, k5, ht.trans k6⟩

theorem OpsOk.of {P : Program} {s s1 : Sg} {h h1 : AH} {w w1 : World} {fn : FuncId} {ops : Array Oper} {tl : List Item} {r : Option Nat} {kind : CallKind} {fr fr1 : Frame} {cs : List Frame} {l outs : List Out}
    (hs : Steps P (lone fr cs w) (lone fr1 cs w1)) (ht : Tra s h w s1 h1 w1) (hm : ∀ x ∈ l, x ∈ outs) (k : OpsOk P s1 h1 w1 fn ops tl r kind fr1 cs l) : OpsOk P s h w fn ops tl r kind fr cs outs := by
  obtain ⟨f', ds', h', s', w', fr', k1, k2, k3, k4, k5⟩ := k
  exact ⟨f', ds', h', s', w', fr', hm _ k1, hs.trans k2, k3, k4, ht.trans k5⟩

/-- what a run of the evaluator is worth -/
structure Sound (P : Program) (run : Rec) : Prop where
  code : ∀ fn f todo ds r h outs, run (.code fn f todo ds r h) = .ok outs → ∀ s w kind fr cs, St s h w → FrOk s fn f todo ds r kind fr → RecOk kind cs →
    LeftOk P s h w fn r kind fr cs outs
  call : ∀ d g args h outs, run (.call d g args h) = .ok outs → ∀ s w xs cs, St s h w → Rs s args xs → (d = true → ∃ c l, cs = c :: l ∧ c.mode = .returning) →
    ValOk P s h w g (if d then .deferred else .normal) (Frame.enter P g xs.toArray (if d then .deferred else .normal)) cs outs
  round : ∀ l args h outs, run (.round l args h) = .ok outs → ∀ s w xs p, St s h w → s l = some p → Rs s args xs → ∀ c cs,
    ∃ v h' s' w' v' g tmps a b, Out.val v h' ∈ outs ∧ (Instr.yield p.b xs.toArray).run P w = .ok (.round p.b g tmps a b) w ∧
      Steps P (lone (Frame.round p.b g tmps a b .normal) (c :: cs) w) (lone (c.finish v') cs w') ∧ R s' v v' ∧ St s' h' w' ∧ Tra s h w s' h' w'
  defers : ∀ ds h outs, run (.defers ds h) = .ok outs → ∀ s w fr cs, St s h w → DRs s ds fr.defers → fr.mode = .returning →
    ∃ h' s' w', Out.mem h' ∈ outs ∧ Steps P (lone fr cs w) (lone { fr with defers := [] } cs w') ∧ St s' h' w' ∧ Tra s h w s' h' w'
end Go.Ev
namespace Go.Ev
open Go

section
variable {E : Env} {P : Program} (H : EnvOk E P) {run : Rec} (S : Sound P run)

theorem not_defer {f : Operand → Option AV} {o : Oper} {h : AH} {res : Res} (e : evalOp E f o.op h = some res) (hn : ∀ g args, res ≠ .defer g args) : ∀ c, o.op ≠ .defer c := by
  intro c hc
  rw [hc] at e
  simp only [evalOp] at e
  unfold evDefer at e
  split at e
  · split at e
    · cases e; exact hn _ _ rfl
    · cases e
  · cases e

section one
variable {s : Sg} {h : AH} {w : World} {fn : FuncId} {f : Fr} {ops : Array Oper} {i : Nat} {rest : List Nat} {tl : List Item} {ds : List ADef} {r : Option Nat} {kind : CallKind} {fr : Frame}
  {cs : List Frame} {o : Oper} {k : Fr → List ADef → AH → Ans}

/-- what is asked of the way on -/
def Next (P : Program) (fn : FuncId) (ops : Array Oper) (rest : List Nat) (tl : List Item) (r : Option Nat) (kind : CallKind) (cs : List Frame) (k : Fr → List ADef → AH → Ans) : Prop :=
  ∀ f ds h outs, k f ds h = .ok outs → ∀ s w fr, St s h w → FrOk s fn f (.inRegion ops rest :: tl) ds r kind fr → OpsOk P s h w fn ops tl r kind fr cs outs

theorem goOn_next (K : Next P fn ops rest tl r kind cs k) {v : AV} {outs l : List Out} {h' : AH} (e : goOn f o.dst v (fun f => k f ds h') = .ok outs) (hl : ∀ x ∈ outs, x ∈ l) (ho : ops[i]? = some o)
    {s' : Sg} {w' : World} {v' : Value} (hR : R s' v v') (st' : St s' h' w') (tr : Tra s h w s' h' w') {fr1 : Frame} (F : FrOk s fn f (.inRegion ops (i :: rest) :: tl) ds r kind fr1)
    (hs : Steps P (lone fr cs w) (lone (fr1.finish v') cs w')) : OpsOk P s h w fn ops tl r kind fr cs l := by
  unfold goOn at e
  split at e
  · rename_i f' hf
    exact OpsOk.of hs tr hl (K f' ds h' outs e s' w' (fr1.finish v') st' ((F.mono tr.le).finish ho hf hR))
  · cases e

include H S in
theorem afterOp_ok (st : St s h w) (F : FrOk s fn f (.inRegion ops (i :: rest) :: tl) ds r kind fr) (ho : ops[i]? = some o) (hw : Region.wanted o (yielded ops fr.tmps) = true)
    (hrec : RecOk kind cs) (K : Next P fn ops rest tl r kind cs k) {outs : List Out} (e : afterOp run f o.dst ds r k o.pos h (evalOp E (rho f) o.op h) = .ok outs) :
    OpsOk P s h w fn ops tl r kind fr cs outs := by
  have Hρ := F.rho
  have hm := F.mode
  have ht := F.todo
  cases hres : evalOp E (rho f) o.op h with
  | none => rw [hres] at e; simp [afterOp] at e
  | some res =>
    rw [hres] at e
    have hop := op_ok (P := P) H st Hρ hres
    cases res with
    | val v h' =>
      have hd : fr.roundOf = none ∨ ∀ c, o.op ≠ .defer c := .inr (not_defer hres (by intro _ _ h; cases h))
      simp only [afterOp] at e
      obtain ⟨s', w', v', hr, hR, st', tr⟩ := hop
      exact goOn_next K e (fun _ h => h) ho hR st' tr F (.one (st_op_value hm ht ho hw hd hr))
    | skip h' =>
      have hd : fr.roundOf = none ∨ ∀ c, o.op ≠ .defer c := .inr (not_defer hres (by intro _ _ h; cases h))
      simp only [afterOp] at e
      obtain ⟨s', w', hr, st', tr⟩ := hop
      exact goOn_next K e (fun _ h => h) ho (nothing_R s') st' tr F (.one (st_op_void hm ht ho hw hd hr))
    | vals l =>
      have hd : fr.roundOf = none ∨ ∀ c, o.op ≠ .defer c := .inr (not_defer hres (by intro _ _ h; cases h))
      simp only [afterOp] at e
      obtain ⟨x, hx, s', w', v', hr, hR, st', tr⟩ := hop
      obtain ⟨l', h1, h2⟩ := each_ok e (.val x.1 x.2) (List.mem_map.2 ⟨x, hx, rfl⟩)
      simp only [onVal] at h1
      exact goOn_next K h1 h2 ho hR st' tr F (.one (st_op_value hm ht ho hw hd hr))
    | enter g args h' =>
      have hd : fr.roundOf = none ∨ ∀ c, o.op ≠ .defer c := .inr (not_defer hres (by intro _ _ h; cases h))
      simp only [afterOp] at e
      obtain ⟨rfl, xs, hx, hr⟩ := hop
      obtain ⟨l, h1, h2⟩ := thenAll_ok e
      obtain ⟨v, h2', s', w', v', fr', k1, k2, k3, k4, k5, k6, k7, k8⟩ := S.call false g args h' l h1 s w xs (fr :: cs) st hx (by simp)
      obtain ⟨l', h3, h4⟩ := h2 _ k1
      simp only [onVal] at h3
      simp only [Bool.false_eq_true, if_false] at k2 k5
      have hleave : fr'.leaving P w' (.returned v') := ⟨k4.1, k4.2.1, k5, k4.2.2⟩
      exact goOn_next K h3 h4 ho k3 k7 k8 F (.head (st_op_enter hm ht ho hw hd hr) (k2.trans (.one (step_leave_returned hleave))))
    | round l args h' =>
      have hd : fr.roundOf = none ∨ ∀ c, o.op ≠ .defer c := .inr (not_defer hres (by intro _ _ h; cases h))
      simp only [afterOp] at e
      obtain ⟨rfl, p, xs, hp, hx, hr⟩ := hop
      obtain ⟨l1, h1, h2⟩ := thenAll_ok e
      obtain ⟨v, h2', s', w', v', g, tmps, a, b, k1, k2, k3, k4, k5, k6⟩ := S.round l args h' l1 h1 s w xs p st hp hx fr cs
      obtain ⟨l', h3, h4⟩ := h2 _ k1
      simp only [onVal] at h3
      rw [k2] at hr
      exact goOn_next K h3 h4 ho k4 k5 k6 F (.head (st_op_round hm ht ho hw hd hr) k3)
    | defer g args =>
      simp only [afterOp] at e
      split at e
      · obtain ⟨d, hdr, hr⟩ := hop
        have F' : FrOk s fn f (.inRegion ops (i :: rest) :: tl) (.fn g args :: ds) none kind { fr with defers := d :: fr.defers } :=
          ⟨F.fn, F.tmps, F.todo, by simp only [DRs]; exact ⟨d, _, rfl, hdr, F.defers⟩, F.mode, F.kind, F.round⟩
        exact goOn_next K e (fun _ h => h) ho (nothing_R s) st (Tra.refl s h w) F' (.one (st_op_defer hm ht ho hw F.round hr))
      · cases e
    | recover =>
      simp only [afterOp] at e
      split at e
      · exact goOn_next K e (fun _ h => h) ho (by simp only [R]) st (Tra.refl s h w) F (.one (st_op_recover hm ht ho hw F.round (hrec.none F.kind) hop))
      · cases e
    | clone args =>
      have hd : fr.roundOf = none ∨ ∀ c, o.op ≠ .defer c := .inr (not_defer hres (by intro _ _ h; cases h))
      simp only [afterOp] at e
      split at e
      · rename_i v h' hc
        obtain ⟨s', w', v', hr, hR, st', tr⟩ := hop v h' hc
        exact goOn_next K e (fun _ h => h) ho hR st' tr F (.one (st_op_value hm ht ho hw hd hr))
      · cases e

include H S in
theorem stepOp_ok (ho : ops[i]? = some o) (hrec : RecOk kind cs) (K : Next P fn ops rest tl r kind cs k) : Next P fn ops (i :: rest) tl r kind cs (stepOp run E ops r o k) := by
  intro f ds h outs e s w fr st F
  unfold stepOp at e
  split at e
  · rename_i hw
    exact afterOp_ok H S st F ho (wanted_ok F.tmps hw) hrec K e
  · rename_i hw
    exact goOn_next K e (fun _ h => h) ho (nothing_R s) st (Tra.refl s h w) F (.one (st_op_skip F.mode F.todo ho (wanted_ok F.tmps hw)))
  · cases e
end one

include H S in
theorem runOps_ok {fn : FuncId} {ops : Array Oper} {tl : List Item} {r : Option Nat} {kind : CallKind} {cs : List Frame} (hrec : RecOk kind cs) : ∀ (l : List Oper) (i : Nat),
    (∀ j, ops[i + j]? = l[j]?) → Next P fn ops (List.range' i l.length) tl r kind cs (runOps run E ops r l)
  | [], i, _ => by
    intro f ds h outs e s w fr st F
    simp only [runOps] at e; cases e
    exact ⟨f, ds, h, s, w, fr, List.mem_singleton.2 rfl, .refl P _, F, st, Tra.refl s h w⟩
  | o :: l, i, hl => by
    have ih := runOps_ok hrec l (i + 1) (fun j => by
      have := hl (j + 1); rw [show i + 1 + j = i + (j + 1) by omega, this]; simp) (fn := fn) (tl := tl) (r := r)
    have ho : ops[i]? = some o := by simpa using hl 0
    exact stepOp_ok H S ho hrec ih
end
end Go.Ev
namespace Go.Ev
open Go

theorem Tra.gone {s : Sg} {h : AH} {w w' : World} (st : St s h w) {i : Nat} {old : ABlk} {p : Pl} (hg : h.get i = some old) (hp : s i = some p)
    (hs : w'.heap.size = w.heap.size) (hne : ∀ b, b ≠ p.b → w'.heap[b]? = w.heap[b]?) (wd : Wd w w') : St s (h.drop i) w' ∧ Tra s h w s (h.drop i) w' := by
  have hget : ∀ j b, (h.drop i).get j = some b → j ≠ i ∧ h.get j = some b := fun j b => AH.get_drop h i j b
  have hown : ∀ b, Own s (h.drop i) b → Own s h b := by
    rintro b ⟨j, bb, q, h1, h2, h3⟩
    exact ⟨j, bb, q, (hget j bb h1).2, h2, h3⟩
  refine ⟨⟨?_, ?_, fun j q hq => by rw [hs]; exact st.bound j q hq, fun j hj => st.fresh j (by rwa [AH.next_drop] at hj), st.base,
      fun b hb => (hne b (fun e => by have := st.base i p hp; omega)).trans (st.old b hb), by rw [hs]; exact st.len⟩,
    ⟨Sg.le_refl s, fun _ h => .inl h, by rw [AH.next_drop]; exact Nat.le_refl _, by rw [hs]; exact Nat.le_refl _, ?_, fun b o => .inr (hown b o), wd.os, wd.out, wd.tape, rfl⟩⟩
  · intro j b q h1 h2
    obtain ⟨k1, k2⟩ := hget j b h1
    have hne' : q.b ≠ p.b := fun e => k1 (st.inj j i b old q p k2 hg h2 hp e)
    rw [hne _ hne']; exact st.hr j b q k2 h2
  · intro j k bj bk q r h1 h2 h3 h4 h5
    exact st.inj j k bj bk q r (hget j bj h1).2 (hget k bk h2).2 h3 h4 h5
  · intro b _ hno
    exact hne b (fun e => hno ⟨i, old, p, hg, hp, e.symm⟩)

theorem exitTo'_eq (id : Nat) : ∀ k : List Item, exitTo' id k = exitTo id k
  | [] => by simp [exitTo', exitTo]
  | x :: k => by
    have ih := exitTo'_eq id k
    cases x with
    | inBlock i =>
      simp only [exitTo', exitTo]
      cases h : Nat.beq i id with
      | true => have := Nat.eq_of_beq_eq_true h; subst this; simp
      | false => have : i ≠ id := fun e => by subst e; simp at h
                 simp [this, ih]
    | _ => simp only [exitTo', exitTo, ih]

section
variable {E : Env} {P : Program} (H : EnvOk E P) {run : Rec} (S : Sound P run)

theorem loop_blk {s : Sg} {h : AH} {w : World} (st : St s h w) {l : Nat} {p : Pl} {sta : LState} {pend : Option Jump} {fn : FuncId} {tm : Tr AV} {nt : Nat} {params : Array Tmp} {a b : Code}
    (hg : h.get l = some (.loop sta pend fn tm nt params a b)) (hp : s l = some p) :
    ∃ L : Go.Loop, w.heap[p.b]? = some (.loop L) ∧ L.state = sta.val ∧ L.pending = pend.map Jump.code ∧ L.fn = fn ∧ TRel s tm nt L.tmps ∧ L.params = params ∧ L.assign = a ∧ L.body = b := by
  obtain ⟨ob, h1, h2⟩ := st.hr l _ p hg hp
  simp only [BR] at h2
  obtain ⟨L, rfl, h3⟩ := h2
  exact ⟨L, h1, h3⟩

/-- a task's code, when a row of operations whose order is drawn is sound -/
def DrawnSound (P : Program) (E : Env) (run : Rec) : Prop :=
  ∀ ops l f h outs, plan ops = some l → runDrawn run E ops l f ⟨h, [], [], []⟩ = .ok outs → ∀ t s w fn tl ds r kind fr cs, St s h w →
    FrOk s fn f (.inRegion ops (Region.schedule (P.follows .mixedOrders) ops t) :: tl) ds r kind fr →
    ∃ f' h' s' w' fr', Out.ops f' [] h' ∈ outs ∧ Steps P (lone fr cs w) (lone fr' cs w') ∧ FrOk s' fn f' (.inRegion ops [] :: tl) ds r kind fr' ∧ St s' h' w' ∧ Tra s h w s' h' w'

variable (D : DrawnSound P E run)
variable {s : Sg} {h : AH} {w : World} {fn : FuncId} {f : Fr} {k : List Item} {ds : List ADef} {r : Option Nat} {kind : CallKind} {fr : Frame} {cs : List Frame} {outs : List Out}
  (st : St s h w) (hrec : RecOk kind cs)

include S hrec in
theorem onward {f1 : Fr} {k1 : List Item} {ds1 : List ADef} {h1 : AH} (e : run (.code fn f1 k1 ds1 r h1) = .ok outs) {fr1 : Frame} {w1 : World} {s1 : Sg}
    (hs : Steps P (lone fr cs w) (lone fr1 cs w1)) (F1 : FrOk s1 fn f1 k1 ds1 r kind fr1) (st1 : St s1 h1 w1) (tr : Tra s h w s1 h1 w1) : LeftOk P s h w fn r kind fr cs outs :=
  LeftOk.of hs tr (fun _ h => h) (S.code fn f1 k1 ds1 r h1 outs e s1 w1 kind fr1 cs st1 F1 hrec)

include H S D st hrec in
theorem region_ok {id : Nat} {ops : Array Oper} {draw : Bool} (F : FrOk s fn f (.code (.region id ops draw) :: k) ds r kind fr)
    (e : runRegion run E fn f ops draw k ds r h = .ok outs) : LeftOk P s h w fn r kind fr cs outs := by
  cases draw with
  | false =>
    simp only [runRegion] at e
    obtain ⟨l, h1, h2⟩ := thenAll_ok e
    have F1 : FrOk s fn f (.inRegion ops (List.range' 0 ops.toList.length) :: k) ds r kind { fr with todo := .inRegion ops (List.range ops.size) :: k } := by
      rw [List.range_eq_range']; exact F.goto
    obtain ⟨f', ds', h', s', w', fr', k1, k2, k3, k4, k5⟩ := runOps_ok H S hrec ops.toList 0 (fun j => by simp) f ds h l h1 s w _ st F1
    obtain ⟨l', h3, h4⟩ := h2 _ k1
    simp only [onOps] at h3
    exact LeftOk.of ((Steps.one (st_region F.mode F.todo)).trans (k2.trans (.one (st_region_end k3.mode k3.todo)))) k5 h4
      (S.code fn f' k ds' r h' l' h3 s' w' kind _ cs k4 k3.goto hrec)
  | true =>
    simp only [runRegion] at e
    split at e
    · rename_i l hl
      obtain ⟨l1, h1, h2⟩ := thenAll_ok e
      obtain ⟨t, ht⟩ := st_draw (P := P) (cs := cs) (w := w) F.mode F.todo
      obtain ⟨st1, tr1⟩ := Tra.same (w' := { w with drawn := w.drawn + 1 }) st rfl ⟨rfl, rfl, rfl⟩
      obtain ⟨f', h', s', w', fr', k1, k2, k3, k4, k5⟩ := D ops l f h l1 hl h1 t s _ fn k ds r kind _ cs st1 F.goto
      obtain ⟨l', h3, h4⟩ := h2 _ k1
      simp only [onOps] at h3
      exact LeftOk.of ((Steps.one ht).trans (k2.trans (.one (st_region_end k3.mode k3.todo)))) (tr1.trans k5) h4
        (S.code fn f' k ds r h' l' h3 s' w' kind _ cs k4 k3.goto hrec)
    · cases e

include H S st hrec in
theorem range_ok {x : Operand} {params : Array Tmp} {assign body : Code} (F : FrOk s fn f (.code (.rangeFunc x params assign body) :: k) ds r kind fr)
    (e : runRange run E fn f (rho f x) params assign body k ds r h = .ok outs) : LeftOk P s h w fn r kind fr cs outs := by
  unfold runRange at e
  split at e
  · rename_i fv hfv
    split at e
    · rename_i g args h1 hc
      have a1 := Tra.alloc (w' := w.alloc (.deferred (some []))) st .dfr (.deferred (some [])) 0 rfl (wd_alloc _ _) (by simp only [BR])
      obtain ⟨st1, tr1⟩ := a1
      have hn1 : (h.new .dfr).next = h.next + 1 := AH.next_new h .dfr
      let L : Go.Loop := { state := .ready, pending := none, fn := fr.fn, tmps := fr.tmps, params, assign, body, defers := w.heap.size }
      have hsz1 : (w.alloc (.deferred (some []))).heap.size = w.heap.size + 1 := by
        show (w.heap.push _).size = _
        simp
      have a2 := Tra.alloc (w' := (w.alloc (.deferred (some []))).alloc (.loop L)) st1 (.loop .ready none fn f.tmps f.n params assign body) (.loop L) 0 rfl (wd_alloc _ _) (by
        simp only [BR]
        exact ⟨L, rfl, rfl, rfl, F.fn, ((F.tmps.mono tr1.le).mono (Sg.le_set _ _ _ (st1.fresh _ (Nat.le_refl _)))), rfl, rfl, rfl⟩)
      obtain ⟨st2, tr2⟩ := a2
      have tr12 := tr1.trans tr2
      generalize hs2 : ((s.set h.next ⟨w.heap.size, 0, 0⟩).set (h.new .dfr).next ⟨(w.alloc (.deferred (some []))).heap.size, 0, 0⟩ : Sg) = s2 at st2 tr2 tr12
      have hl2 : s2 (h.next + 1) = some ⟨w.heap.size + 1, 0, 0⟩ := by rw [← hs2, hn1, Sg.set_same, hsz1]
      have hd2 : s2 h.next = some ⟨w.heap.size, 0, 0⟩ := by rw [← hs2, hn1, Sg.set_ne _ _ _ _ (by omega), Sg.set_same]
      have hcall := callVal_ok (P := P) H st2 (R.mono tr12.le _ _ (F.rho x fv hfv)) (Rs.cons (v := .func (.yield (w.heap.size + 1)) #[] #[]) (by simp only [R]; exact ⟨_, hl2, rfl⟩) Rs.nil) hc rfl
      obtain ⟨rfl, xs, hx, hr⟩ := hcall
      obtain ⟨l1, e1, e2⟩ := thenAll_ok e
      have hstep := st_range (P := P) (cs := cs) (w := w) (l := w.heap.size + 1) (mark := [{ target := .collected w.heap.size, args := #[] }]) (g := g) (args := xs.toArray)
        (w1 := (w.alloc (.deferred (some []))).alloc (.loop L)) (w2 := (w.alloc (.deferred (some []))).alloc (.loop L)) F.mode F.todo
        (by
          have hro : fr.roundOf = none := F.round
          rw [hro]
          simp [Instr.enterLoop, L, hsz1])
        (by
          rw [← hr]
          have hmap : (#[Operand.const (Value.func (Fn.yield (w.heap.size + 1)) #[] #[])] : Array Operand).map fr.eval = #[Value.func (Fn.yield (w.heap.size + 1)) #[] #[]] := by simp [Frame.eval]
          simp only [resolve, hmap])
      generalize hc0 : ({ fr with todo := .inRangeFunc (w.heap.size + 1) :: k, defers := [{ target := .collected w.heap.size, args := #[] }] ++ fr.defers } : Frame) = c0 at hstep
      obtain ⟨v, h', s', w', v', fr', k1, k2, k3, k4, k5, k6, k7, k8⟩ := S.call false g args _ l1 e1 s2 _ xs (c0 :: cs) st2 hx (by simp)
      simp only [Bool.false_eq_true, if_false] at k2 k5
      have hleave : fr'.leaving P w' (.returned v') := ⟨k4.1, k4.2.1, k5, k4.2.2⟩
      obtain ⟨l', e3, e4⟩ := e2 _ k1
      simp only [onVal] at e3
      have hfin : c0.finish v' = { c0 with todo := .endRangeFunc (w.heap.size + 1) :: k } := by rw [← hc0]; simp [Frame.finish]
      have tr' := tr12.trans k8
      have hl' : s' (h.next + 1) = some ⟨w.heap.size + 1, 0, 0⟩ := k8.le _ _ hl2
      have hd' : s' h.next = some ⟨w.heap.size, 0, 0⟩ := k8.le _ _ hd2
      have steps1 : Steps P (lone fr cs w) (lone { c0 with todo := .endRangeFunc (w.heap.size + 1) :: k } cs w') := by
        rw [← hfin]; exact .head hstep (k2.trans (.one (step_leave_returned hleave)))
      have hdefers : DRs s' (.coll h.next :: ds) c0.defers := by
        rw [← hc0]; simp only [DRs]
        exact ⟨_, _, rfl, by simp only [DR]; exact ⟨_, hd', rfl⟩, F.defers.mono tr'.le⟩
      have hround : RoundOk s' none fr := F.round
      have F3 : ∀ td, FrOk s' fn f td (.coll h.next :: ds) none kind { c0 with todo := td } := by
        intro td
        refine ⟨?_, ?_, rfl, hdefers, ?_, ?_, ?_⟩
        · rw [← hc0]; exact F.fn
        · rw [← hc0]; exact F.tmps.mono tr'.le
        · rw [← hc0]; exact F.mode
        · rw [← hc0]; exact F.kind
        · rw [← hc0]; exact hround
      unfold loopEnd at e3
      have fin : ∀ (sta : LState) (pend : Option Jump) (fn2 : FuncId) (tm : Tr AV) (nt : Nat) (pr : Array Tmp) (as bo : Code), sta ≠ .busy →
          h'.get (h.next + 1) = some (.loop sta pend fn2 tm nt pr as bo) → run (.code fn f ((pend.map fun j => Item.code j.code).toList ++ k) (.coll h.next :: ds) none (h'.drop (h.next + 1))) = .ok l' →
          LeftOk P s h w fn none kind fr cs outs := by
        intro sta pend fn2 tm nt pr as bo hb hg hrun
        obtain ⟨L2, q1, q2, q3, -⟩ := loop_blk k7 hg hl'
        have hend : (Instr.endLoop (w.heap.size + 1)).run P w' = .ok (pend.map Jump.code) (setB w' (w.heap.size + 1) (.loop { L2 with state := .exhausted })) := by
          have hget := run_getObj' (P := P) q1 (by simp)
          have hset := fun o => run_setObj' (P := P) q1 (by simp) o
          cases sta with
          | busy => exact absurd rfl hb
          | ready =>
            simp only [Instr.endLoop, Instr.getLoop, ← q3]
            simp [hget, hset, q2, LState.val]
          | done =>
            simp only [Instr.endLoop, Instr.getLoop, ← q3]
            simp [hget, hset, q2, LState.val]
        obtain ⟨st4, tr4⟩ := Tra.gone (w' := setB w' (w.heap.size + 1) (.loop { L2 with state := .exhausted })) k7 hg hl' (setB_size _ _ _) (fun b hb => setB_ne _ _ _ _ hb) (setB_wd _ _ _)
        have htd : ((pend.map Jump.code).map Item.code).toList ++ k = (pend.map fun j => Item.code j.code).toList ++ k := by cases pend <;> rfl
        have hstep2 : step P (lone { c0 with todo := .endRangeFunc (w.heap.size + 1) :: k } cs w') = .next (lone { c0 with todo := (pend.map fun j => Item.code j.code).toList ++ k } cs (setB w' (w.heap.size + 1) (.loop { L2 with state := .exhausted }))) := by
          rw [← htd]
          exact st_endLoop (by rw [← hc0]; exact F.mode) rfl hend
        refine LeftOk.of (steps1.trans (.one hstep2)) (tr'.trans tr4) e4 (S.code fn f _ _ none _ l' hrun s' _ kind _ cs st4 (F3 _) hrec)
      split at e3
      · rename_i hg
        exact fin .ready none _ _ _ _ _ _ (by simp) hg e3
      · rename_i j _ _ _ _ _ _ hg
        exact fin .done (some j) _ _ _ _ _ _ (by simp) hg e3
      · cases e3
    · cases e
  · cases e

include H S D st hrec in
theorem code_ok {c : Code} (F : FrOk s fn f (.code c :: k) ds r kind fr) (e : runC run E fn f c k ds r h = .ok outs) : LeftOk P s h w fn r kind fr cs outs := by
  have hm := F.mode
  have ht := F.todo
  cases c with
  | skip => exact onward S hrec e (.one (st_skip hm ht)) F.goto st (Tra.refl s h w)
  | label l => exact onward S hrec e (.one (st_label hm ht)) F.goto st (Tra.refl s h w)
  | ret =>
    simp only [runC] at e; cases e
    exact ⟨f, _, ds, h, _, s, w, fr, List.mem_singleton.2 rfl, .refl P _, F, .inr (.inl ⟨k, rfl, rfl⟩), st, Tra.refl s h w⟩
  | seq a b => exact onward S hrec e (.one (st_seq hm ht)) F.goto st (Tra.refl s h w)
  | cond c a b =>
    simp only [runC, runCond] at e
    split at e
    · rename_i hc
      have := (F.rho c _ hc).bool_inv
      exact onward S hrec e (.one (st_cond hm ht this)) F.goto st (Tra.refl s h w)
    · rename_i hc
      have := (F.rho c _ hc).bool_inv
      exact onward S hrec e (.one (st_cond hm ht this)) F.goto st (Tra.refl s h w)
    · cases e
  | block id b => exact onward S hrec e (.one (st_block hm ht)) F.goto st (Tra.refl s h w)
  | loop b => exact onward S hrec e (.one (st_loop hm ht)) F.goto st (Tra.refl s h w)
  | scope b => exact onward S hrec e (.one (st_scope hm ht)) F.goto st (Tra.refl s h w)
  | exit id =>
    simp only [runC, runExit, exitTo'_eq] at e
    split at e
    · rename_i k' hk
      exact onward S hrec e (.one (st_exit hm ht hk)) F.goto st (Tra.refl s h w)
    · rename_i l hk
      cases e
      exact ⟨f, _, ds, h, _, s, w, fr, List.mem_singleton.2 rfl, .refl P _, F, .inr (.inr ⟨id, k, l, rfl, hk, rfl, rfl⟩), st, Tra.refl s h w⟩
    · cases e
  | region id ops draw => exact region_ok H S D st hrec F e
  | rangeFunc x params assign body => exact range_ok H S st hrec F e
  | goto l => simp [runC] at e
  | refuse x => simp [runC] at e

include H S D st hrec in
theorem item_ok {i : Item} (F : FrOk s fn f (i :: k) ds r kind fr) (e : runItem run E fn f i k ds r h = .ok outs) : LeftOk P s h w fn r kind fr cs outs := by
  have hm := F.mode
  have ht := F.todo
  cases i with
  | code c => exact code_ok H S D st hrec F e
  | inBlock l => exact onward S hrec e (.one (st_inBlock hm ht)) F.goto st (Tra.refl s h w)
  | inScope b => exact onward S hrec e (.one (st_inScope hm ht)) F.goto st (Tra.refl s h w)
  | inLoop c => exact onward S hrec e (.one (st_inLoop hm ht)) F.goto st (Tra.refl s h w)
  | beginRound =>
    simp only [runItem] at e
    split at e
    · rename_i l
      split at e
      · rename_i h1 hb
        unfold beginA at hb
        split at hb
        · rename_i p fn2 tm nt pr as bo hg
          cases hb
          have := F.round
          unfold RoundOk at this
          obtain ⟨q, hq, hro⟩ := this
          obtain ⟨L2, q1, q2, q3, q4, q5, q6, q7, q8⟩ := loop_blk st hg hq
          have hget := run_getObj' (P := P) q1 (by simp)
          have hset := fun o => run_setObj' (P := P) q1 (by simp) o
          have hbeg : (Instr.beginRound q.b).run P w = .ok () (setB w q.b (.loop { L2 with state := .busy })) := by
            simp only [Instr.beginRound, Instr.getLoop]
            simp [hget, hset, q2, LState.val]
          obtain ⟨st4, tr4⟩ := Tra.write (w' := setB w q.b (.loop { L2 with state := .busy })) st hg hq (.loop .busy p fn2 tm nt pr as bo) (.loop { L2 with state := .busy })
            (setB_size _ _ _) (setB_same q1 _) (fun b hb => setB_ne _ _ _ _ hb) (setB_wd _ _ _) (by simp only [BR]; exact ⟨_, rfl, rfl, q3, q4, q5, q6, q7, q8⟩)
          exact onward S hrec e (.one (st_begin hm ht hro hbeg)) F.goto st4 tr4
        · cases hb
      · cases e
    · cases e
  | _ => simp [runItem] at e
end
end Go.Ev
namespace Go.Ev
open Go

/-! ### equality of what is known -/
theorem oBeq_eq : ∀ {a b : Option (Nat × Nat)}, oBeq a b = true → a = b
  | none, none, _ => rfl
  | some (a, b), some (c, d), h => by
    simp only [oBeq, Bool.and_eq_true] at h
    rw [Nat.eq_of_beq_eq_true h.1, Nat.eq_of_beq_eq_true h.2]
  | none, some _, h => by simp [oBeq] at h
  | some _, none, h => by simp [oBeq] at h

theorem Cap.beq_eq : ∀ {a b : Cap}, a.beq b = true → a = b
  | .known a, .known b, h => by rw [Nat.eq_of_beq_eq_true (show Nat.beq a b = true from h)]
  | .grown a, .grown b, h => by rw [Nat.eq_of_beq_eq_true (show Nat.beq a b = true from h)]
  | .known _, .grown _, h => by simp [Cap.beq] at h
  | .grown _, .known _, h => by simp [Cap.beq] at h

mutual
theorem AV.beq_eq : ∀ (a b : AV), AV.beq a b = true → a = b
  | .bool a, b, h => by cases b <;> simp_all [AV.beq]
  | .int j a, b, h => by cases b <;> simp_all [AV.beq]
  | .str a, b, h => by cases b <;> simp_all [AV.beq]
  | .ptr a, b, h => by
    cases b <;> first | (simp only [AV.beq] at h; rw [oBeq_eq h]) | simp [AV.beq] at h
  | .slice a n c, b, h => by
    cases b <;> first | (simp only [AV.beq, Bool.and_eq_true] at h; rw [oBeq_eq h.1.1, Nat.eq_of_beq_eq_true h.1.2, Cap.beq_eq h.2]) | simp [AV.beq] at h
  | .map none, b, h => by
    cases b with
    | map m => cases m <;> simp_all [AV.beq]
    | _ => simp [AV.beq] at h
  | .map (some i), b, h => by
    cases b with
    | map m => cases m with
      | none => simp [AV.beq] at h
      | some j => simp only [AV.beq] at h; rw [Nat.eq_of_beq_eq_true h]
    | _ => simp [AV.beq] at h
  | .func f a c, b, h => by
    cases b <;> first | (simp only [AV.beq, Bool.and_eq_true] at h; rw [eq_of_beq h.1.1, AV.beqs_eq _ _ h.1.2, AV.beqs_eq _ _ h.2]) | simp [AV.beq] at h
  | .yield a, b, h => by
    cases b <;> first | (simp only [AV.beq] at h; rw [Nat.eq_of_beq_eq_true h]) | simp [AV.beq] at h
  | .nilFunc, b, h => by cases b <;> simp_all [AV.beq]
  | .iface t a, b, h => by
    cases b <;> first | (simp only [AV.beq, Bool.and_eq_true] at h; rw [Nat.eq_of_beq_eq_true h.1, AV.beq_eq _ _ h.2]) | simp [AV.beq] at h
  | .nilIface, b, h => by cases b <;> simp_all [AV.beq]
  | .any, b, h => by cases b <;> simp_all [AV.beq]
  | .agg a, b, h => by
    cases b <;> first | (simp only [AV.beq] at h; rw [AV.beqs_eq _ _ h]) | simp [AV.beq] at h
  | .tup a, b, h => by
    cases b <;> first | (simp only [AV.beq] at h; rw [AV.beqs_eq _ _ h]) | simp [AV.beq] at h
theorem AV.beqs_eq : ∀ (a b : List AV), AV.beqs a b = true → a = b
  | [], b, h => by cases b <;> simp_all [AV.beqs]
  | x :: l, b, h => by
    cases b with
    | nil => simp [AV.beqs] at h
    | cons y m =>
      simp only [AV.beqs, Bool.and_eq_true] at h
      rw [AV.beq_eq _ _ h.1, AV.beqs_eq _ _ h.2]
end

theorem Tr.get_meet : ∀ (t u : Tr ABlk) (i : Nat) (b : ABlk), (meet t u).get i = some b → t.get i = some b
  | .leaf, u, i, b, h => by cases u <;> simp [meet, Tr.get] at h
  | .node l v r, .leaf, i, b, h => by simp [meet, Tr.get] at h
  | .node l v r, .node l' v' r', i, b, h => by
    simp only [meet] at h
    cases i with
    | zero =>
      simp only [Tr.get] at h ⊢
      split at h
      · rename_i x y
        cases hb : x.beq y with
        | true => rw [hb] at h; exact h
        | false => rw [hb] at h; simp at h
      · cases h
    | succ n =>
      have g : ∀ (a : Tr ABlk) (o : Option ABlk) (c : Tr ABlk), (Tr.node a o c).get (n + 1) = if n % 2 = 0 then a.get (n / 2) else c.get (n / 2) := by
        intro a o c
        show (Bool.rec (motive := fun _ => Option ABlk) (c.get (n / 2)) (a.get (n / 2)) (Nat.beq (n % 2) 0)) = _
        cases h : Nat.beq (n % 2) 0 with
        | true => rw [if_pos (Nat.eq_of_beq_eq_true h)]
        | false => rw [if_neg (Nat.ne_of_beq_eq_false h)]
      rw [g] at h ⊢
      split at h
      · rename_i hn; rw [if_pos hn]; exact Tr.get_meet l l' _ b h
      · rename_i hn; rw [if_neg hn]; exact Tr.get_meet r r' _ b h

theorem natsBeq_eq : ∀ (a b : List Nat), natsBeq a b = true → a = b
  | [], b, h => by cases b <;> simp_all [natsBeq]
  | x :: l, b, h => by
    cases b with
    | nil => simp [natsBeq] at h
    | cons y m =>
      simp only [natsBeq, Bool.and_eq_true] at h
      rw [Nat.eq_of_beq_eq_true h.1, natsBeq_eq _ _ h.2]

theorem entsBeq_eq : ∀ (a b : List AEntry), entsBeq a b = true → a = b
  | [], b, h => by cases b <;> simp_all [entsBeq]
  | x :: l, b, h => by
    cases b with
    | nil => simp [entsBeq] at h
    | cons y m =>
      simp only [entsBeq, Bool.and_eq_true] at h
      rw [entsBeq_eq _ _ h.2]
      cases x; cases y
      simp only at h
      rw [AV.beq_eq _ _ h.1.1.1, AV.beq_eq _ _ h.1.1.2, Nat.eq_of_beq_eq_true h.1.2]

theorem kBeq_eq : ∀ a b, kBeq a b = true → a = b
  | none, none, _ => rfl
  | some (t, a), some (u, b), h => by
    simp only [kBeq, Bool.and_eq_true] at h
    rw [Nat.eq_of_beq_eq_true h.1, eq_of_beq h.2]
  | none, some _, h => by cases h
  | some _, none, h => by cases h

theorem ABlk.beq_eq (a b : ABlk) (h : a.beq b = true) : a = b := by
  cases a with
  | cells t c => cases b <;> first | (simp only [ABlk.beq, Bool.and_eq_true] at h; rw [kBeq_eq _ _ h.1, AV.beqs_eq _ _ h.2]) | simp [ABlk.beq] at h
  | map es c => cases b <;> first | (simp only [ABlk.beq, Bool.and_eq_true] at h; rw [entsBeq_eq _ _ h.1, Nat.eq_of_beq_eq_true h.2]) | simp [ABlk.beq] at h
  | mapIter m a b' c =>
    cases m with
    | none => cases b <;> simp [ABlk.beq] at h
    | some m =>
      cases b with
      | mapIter m' a2 b2 c2 =>
        cases m' with
        | none => simp [ABlk.beq] at h
        | some m' =>
          simp only [ABlk.beq, Bool.and_eq_true] at h
          rw [Nat.eq_of_beq_eq_true h.1.1.1, Nat.eq_of_beq_eq_true h.1.1.2, natsBeq_eq _ _ h.1.2, Nat.eq_of_beq_eq_true h.2]
      | _ => simp [ABlk.beq] at h
  | strIter s p => cases b <;> first | (simp only [ABlk.beq, Bool.and_eq_true] at h; rw [eq_of_beq h.1, Nat.eq_of_beq_eq_true h.2]) | simp [ABlk.beq] at h
  | loop => cases b <;> simp [ABlk.beq] at h
  | dfr => cases b <;> simp_all [ABlk.beq]

theorem Tr.get_meet' : ∀ (t u : Tr ABlk) (i : Nat) (b : ABlk), (meet t u).get i = some b → u.get i = some b
  | .leaf, u, i, b, h => by cases u <;> simp [meet, Tr.get] at h
  | .node l v r, .leaf, i, b, h => by simp [meet, Tr.get] at h
  | .node l v r, .node l' v' r', i, b, h => by
    simp only [meet] at h
    cases i with
    | zero =>
      simp only [Tr.get] at h ⊢
      split at h
      · rename_i x y
        cases hb : x.beq y with
        | true => rw [hb] at h; rw [← ABlk.beq_eq _ _ hb]; exact h
        | false => rw [hb] at h; simp at h
      · cases h
    | succ n =>
      have g : ∀ (a : Tr ABlk) (o : Option ABlk) (c : Tr ABlk), (Tr.node a o c).get (n + 1) = if n % 2 = 0 then a.get (n / 2) else c.get (n / 2) := by
        intro a o c
        show (Bool.rec (motive := fun _ => Option ABlk) (c.get (n / 2)) (a.get (n / 2)) (Nat.beq (n % 2) 0)) = _
        cases h : Nat.beq (n % 2) 0 with
        | true => rw [if_pos (Nat.eq_of_beq_eq_true h)]
        | false => rw [if_neg (Nat.ne_of_beq_eq_false h)]
      rw [g] at h ⊢
      split at h
      · rename_i hn; rw [if_pos hn]; exact Tr.get_meet' l l' _ b h
      · rename_i hn; rw [if_neg hn]; exact Tr.get_meet' r r' _ b h

/-- part of a memory -/
def AH.part (g h : AH) : Prop := (∀ i b, g.get i = some b → h.get i = some b) ∧ h.next ≤ g.next

theorem merge_ok : ∀ (l : List Out) (v : AV) (h : AH), Out.val v h ∈ l → ∃ g, Out.val v g ∈ merge l ∧ g.part h
  | [], v, h, m => by simp at m
  | [o], v, h, m => by
    simp only [List.mem_singleton] at m; subst m
    exact ⟨h, by simp [merge], fun _ _ e => e, Nat.le_refl _⟩
  | a :: b :: l, v, h, m => by
    have ih := merge_ok (b :: l)
    cases a with
    | val v1 h1 =>
      simp only [merge]
      split
      · rename_i u g hm
        cases hb : AV.beq v1 u with
        | false =>
          simp only [cond_false]
          rcases List.mem_cons.1 m with e | m
          · cases e; exact ⟨h, List.mem_cons_self, fun _ _ e => e, Nat.le_refl _⟩
          · obtain ⟨g', k1, k2⟩ := ih v h m
            rw [hm] at k1
            exact ⟨g', List.mem_cons_of_mem _ k1, k2⟩
        | true =>
          simp only [cond_true]
          have hu := AV.beq_eq _ _ hb
          subst hu
          rcases List.mem_cons.1 m with e | m
          · cases e
            exact ⟨_, List.mem_singleton.2 rfl, fun i b e => by cases h; exact Tr.get_meet _ _ i b e, Nat.le_max_left _ _⟩
          · obtain ⟨g', k1, k2, k3⟩ := ih v h m
            rw [hm] at k1
            simp only [List.mem_singleton] at k1
            cases k1
            refine ⟨_, List.mem_singleton.2 rfl, fun i b e => k2 i b ?_, Nat.le_trans k3 (Nat.le_max_right _ _)⟩
            cases g; exact Tr.get_meet' _ _ i b e
      · rcases List.mem_cons.1 m with e | m
        · cases e; exact ⟨h, List.mem_cons_self, fun _ _ e => e, Nat.le_refl _⟩
        · obtain ⟨g', k1, k2⟩ := ih v h m
          exact ⟨g', List.mem_cons_of_mem _ k1, k2⟩
    | _ =>
      simp only [merge]
      rcases List.mem_cons.1 m with e | m
      · cases e
      · obtain ⟨g', k1, k2⟩ := ih v h m
        exact ⟨g', List.mem_cons_of_mem _ k1, k2⟩
end Go.Ev
namespace Go.Ev
open Go

/-- memory grows by what nobody knows of -/
structure Garb (w w' : World) : Prop where
  sz : w.heap.size ≤ w'.heap.size
  old : ∀ b, b < w.heap.size → w'.heap[b]? = w.heap[b]?
  wd : Wd w w'

theorem Tra.garb {s : Sg} {h : AH} {w w' : World} (st : St s h w) (g : Garb w w') : St s h w' ∧ Tra s h w s h w' := by
  refine ⟨⟨fun i b p h1 h2 => by rw [g.old _ (st.bound i p h2)]; exact st.hr i b p h1 h2, st.inj, fun i p h1 => Nat.lt_of_lt_of_le (st.bound i p h1) g.sz, st.fresh, st.base,
    fun b hb => (g.old b (Nat.lt_of_lt_of_le hb st.len)).trans (st.old b hb), Nat.le_trans st.len g.sz⟩, ?_⟩
  exact ⟨Sg.le_refl s, fun _ h => .inl h, Nat.le_refl _, g.sz, fun b hb _ => g.old b hb, fun _ h => .inr h, g.wd.os, g.wd.out, g.wd.tape, rfl⟩

/-- what is known of functions without a walk -/
def PrimOk (P : Program) (E : Env) : Prop :=
  ∀ g args v, E.prim g args = some v → ∀ (s : Sg) w xs, Good w → Rs s args xs → Calls P g xs.toArray w fun e w' => ∃ v', e = .returned v' ∧ R s v v' ∧ Garb w w'

section
variable {E : Env} {P : Program} (H : EnvOk E P) (HP : PrimOk P E) {run : Rec} (S : Sound P run)
variable {s : Sg} {h : AH} {w : World}

def resM (tmps : Array Value) : ResultVar → Sem Value
  | .tmp t => pure (tmps.getD t undef)
  | .cell a t => do Go.loadVar t (← asAddr (tmps.getD a undef))

include H in
theorem results_ok (st : St s h w) {f : Fr} {tmps : Array Value} (k : TRel s f.tmps f.n tmps) : ∀ (l : List ResultVar) (r : List AV), resultsA E f h l = some r →
    ∃ xs, (l.mapM (resM tmps)).run P w = .ok xs w ∧ Rs s r xs
  | [], r, e => by
    simp only [resultsA] at e; cases e
    exact ⟨[], by simp, Rs.nil⟩
  | .tmp t :: l, r, e => by
    simp only [resultsA] at e
    split at e
    · rename_i v r1 h1 h2
      cases e
      obtain ⟨xs, k1, k2⟩ := results_ok st k l r1 h2
      obtain ⟨v', q1, q2⟩ := k.2 t v h1
      refine ⟨v' :: xs, ?_, Rs.cons q2 k2⟩
      have hr : (resM tmps (.tmp t)).run P w = .ok v' w := by simp [resM, q1]
      simp only [List.mapM_cons, Sem.run_bind, hr, k1, Result.andThen_ok, Sem.run_pure]
    · cases e
  | .cell a t :: l, r, e => by
    simp only [resultsA] at e
    split at e
    · rename_i ad h1
      split at e
      · rename_i v r1 h2 h3
        cases e
        obtain ⟨xs, k1, k2⟩ := results_ok st k l r1 h3
        obtain ⟨v', q1, q2⟩ := k.2 a _ h1
        obtain ⟨i, off⟩ := ad
        simp only [R] at q2
        obtain ⟨p, hp, rfl⟩ := q2
        obtain ⟨x, l1, l2⟩ := load_ok (P := P) H st h2 hp
        refine ⟨x :: xs, ?_, Rs.cons l2 k2⟩
        have hr : (resM tmps (.cell a t)).run P w = .ok x w := by simp [resM, q1, asAddr, l1]
        simp only [List.mapM_cons, Sem.run_bind, hr, k1, Result.andThen_ok, Sem.run_pure]
      · cases e
    · cases e

theorem tupled_ok {l : List AV} {xs : List Value} (h : Rs s l xs) : R s (tupled l) (if h : xs.toArray.size = 1 then xs.toArray[0] else .tuple xs.toArray) := by
  match l, xs, h with
  | [], xs, h =>
    simp only [Rs] at h; subst h
    simp [tupled, R, Rs]
  | [a], xs, h =>
    simp only [Rs] at h
    obtain ⟨x, xs', rfl, h1, rfl⟩ := h
    simpa [tupled] using h1
  | a :: b :: l, xs, h =>
    have hl := h.length
    simp only [tupled]
    rw [dif_neg (by simp; simp at hl; omega)]
    simp only [R]; exact ⟨xs, rfl, h⟩

include H in
theorem retn_ok (st : St s h w) {f : Fr} {tmps : Array Value} (k : TRel s f.tmps f.n tmps) {fn : Func} {outs : List Out} (e : retn E fn f h = .ok outs) :
    ∃ v v', outs = [.val v h] ∧ (Go.results fn tmps).run P w = .ok v' w ∧ R s v v' := by
  unfold retn at e; split at e
  · rename_i l hl
    cases e
    obtain ⟨xs, k1, k2⟩ := results_ok (P := P) H st k _ _ hl
    refine ⟨_, _, rfl, ?_, tupled_ok k2⟩
    have hd : Go.results fn tmps = (do let vs ← fn.results.mapM (resM tmps); pure (if h : vs.size = 1 then vs[0] else .tuple vs)) := rfl
    rw [hd, Array.mapM_eq_mapM_toList]
    simp [k1]
  · cases e
end
end Go.Ev
namespace Go.Ev
open Go

theorem blocks_get (l : List (Nat × ABlk)) (n : Nat) : (blocks l n).next = n ∧ ∀ i b, (blocks l n).get i = some b → (i, b) ∈ l := by
  unfold blocks
  have key : ∀ (l : List (Nat × ABlk)) (h : AH), (l.foldl (fun h x => h.put x.1 x.2) h).next = h.next ∧ ∀ i b, (l.foldl (fun h x => h.put x.1 x.2) h).get i = some b → (i, b) ∈ l ∨ h.get i = some b := by
    intro l
    induction l with
    | nil => intro h; exact ⟨rfl, fun i b e => .inr e⟩
    | cons x l ih =>
      intro h
      obtain ⟨h1, h2⟩ := ih (h.put x.1 x.2)
      refine ⟨h1.trans (AH.next_put _ _ _), fun i b e => ?_⟩
      rcases h2 i b e with k | k
      · exact .inl (List.mem_cons_of_mem _ k)
      · rcases AH.get_put h x.1 i x.2 b k with ⟨rfl, rfl⟩ | ⟨_, k⟩
        · exact .inl List.mem_cons_self
        · exact .inr k
  obtain ⟨h1, h2⟩ := key l ⟨.leaf, n⟩
  refine ⟨h1, fun i b e => ?_⟩
  rcases h2 i b e with k | k
  · exact k
  · cases k

theorem holds_ok {h : AH} {l : List (Nat × ABlk)} {n : Nat} (e : holds h l = true) (hn : h.next ≤ n) : (blocks l n).part h := by
  obtain ⟨h1, h2⟩ := blocks_get l n
  refine ⟨fun i b hb => ?_, by rw [h1]; exact hn⟩
  have := List.all_eq_true.1 e _ (h2 i b hb)
  simp only at this
  split at this
  · rename_i b' hb'
    rw [hb', ABlk.beq_eq _ _ this]
  · cases this

/-- what is known of calls without a walk -/
def MemoOk (P : Program) (E : Env) : Prop :=
  ∀ g, ∀ m ∈ E.memo g, ∀ (s : Sg) w xs cs, St s (blocks m.pre m.n) w → Rs s m.args xs →
    ValOk P s (blocks m.pre m.n) w g .normal (Frame.enter P g xs.toArray .normal) cs [.val m.v (blocks m.post m.n2)]

theorem findMemo_ok {args : List AV} {h : AH} : ∀ {l : List Memo} {m : Memo}, findMemo args h l = some m → m ∈ l ∧ m.args = args ∧ (blocks m.pre m.n).part h
  | [], m, e => by cases e
  | x :: l, m, e => by
    simp only [findMemo] at e
    cases hb : (AV.beqs x.args args && Nat.ble h.next x.n && holds h x.pre) with
    | true =>
      rw [hb] at e; simp only [cond_true] at e; cases e
      simp only [Bool.and_eq_true] at hb
      exact ⟨List.mem_cons_self, AV.beqs_eq _ _ hb.1.1, holds_ok hb.2 (Nat.le_of_ble_eq_true hb.1.2)⟩
    | false =>
      rw [hb] at e; simp only [cond_false] at e
      obtain ⟨k1, k2⟩ := findMemo_ok e
      exact ⟨List.mem_cons_of_mem _ k1, k2⟩

section
variable {E : Env} {P : Program} (H : EnvOk E P) (HP : PrimOk P E) (HM : MemoOk P E) {run : Rec} (S : Sound P run) (D : DrawnSound P E run)
variable {s : Sg} {h : AH} {w : World}

theorem TRel.putArgs : ∀ (l : List AV) (xs : List Value) (i : Nat) (t : Tr AV) (n : Nat) (pre : List Value), Rs s l xs → pre.length = i → (∀ j a, t.get j = some a → ∃ v, pre[j]? = some v ∧ R s a v) →
    ∀ j a, (Ev.putArgs i l t).get j = some a → ∃ v, (pre ++ xs)[j]? = some v ∧ R s a v
  | [], xs, i, t, n, pre, hx, hp, ht, j, a, e => by
    simp only [Rs] at hx; subst hx
    simpa using ht j a e
  | x :: l, xs, i, t, n, pre, hx, hp, ht, j, a, e => by
    simp only [Rs] at hx
    obtain ⟨y, ys, rfl, h1, h2⟩ := hx
    have := TRel.putArgs l ys (i + 1) (Tr.set t i (some x)) n (pre ++ [y]) h2 (by simp [hp]) (fun j a e => by
      rcases Tr.get_set t i j (some x) a e with ⟨rfl, k⟩ | ⟨hne, k⟩
      · cases k; exact ⟨y, by rw [← hp]; simp, h1⟩
      · obtain ⟨v, k1, k2⟩ := ht j a k
        have : j < pre.length := by
          rcases Nat.lt_or_ge j pre.length with q | q
          · exact q
          · rw [List.getElem?_eq_none q] at k1; cases k1
        exact ⟨v, by rw [List.getElem?_append_left this]; exact k1, k2⟩) j a e
    simpa using this

theorem enter_ok {g : FuncId} {fn : Func} {c : Code} (hf : P.funcs[g]? = some fn) (hb : fn.body = some c) {args : List AV} {xs : List Value} (hx : Rs s args xs) (hn : args.length ≤ fn.ntmps) (kind : CallKind) :
    FrOk s g ⟨Ev.putArgs 0 args .leaf, fn.ntmps⟩ [.code c] [] none kind (Frame.enter P g xs.toArray kind) := by
  have hl := hx.length
  refine ⟨rfl, ?_, by simp [Frame.enter, hf, hb], by simp [Frame.enter, DRs], rfl, rfl, rfl⟩
  simp only [Frame.enter, hf, Option.map_some, Option.getD_some]
  refine ⟨by simp; omega, fun j a e => ?_⟩
  obtain ⟨v, k1, k2⟩ := TRel.putArgs args xs 0 .leaf 0 [] hx rfl (fun j a e => by rw [Tr.get_leaf] at e; cases e) j a e
  simp only [List.nil_append] at k1
  have hj : j < xs.length := by
    rcases Nat.lt_or_ge j xs.length with q | q
    · exact q
    · rw [List.getElem?_eq_none q] at k1; cases k1
  exact ⟨v, by rw [Array.getElem?_append_left (by simpa using hj)]; simpa using k1, k2⟩

theorem ValOk.merge {fn : FuncId} {kind : CallKind} {fr : Frame} {cs : List Frame} {l : List Out} (k : ValOk P s h w fn kind fr cs l) : ValOk P s h w fn kind fr cs (Ev.merge l) := by
  obtain ⟨v, h', s', w', v', fr', k1, k2, k3, k4, k5, k6, k7, k8⟩ := k
  obtain ⟨g, m1, m2, m3⟩ := merge_ok l v h' k1
  obtain ⟨st2, tr2⟩ := Tra.less k7 m2 m3
  exact ⟨v, g, s', w', v', fr', m1, k2, k3, k4, k5, k6, st2, k8.trans tr2⟩

theorem ValOk.of {s1 : Sg} {h1 : AH} {w1 : World} {fn : FuncId} {kind : CallKind} {fr fr1 : Frame} {cs : List Frame} {l outs : List Out}
    (hs : Steps P (lone fr cs w) (lone fr1 cs w1)) (ht : Tra s h w s1 h1 w1) (hm : ∀ x ∈ l, x ∈ outs) (k : ValOk P s1 h1 w1 fn kind fr1 cs l) : ValOk P s h w fn kind fr cs outs := by
  obtain ⟨v, h', s', w', v', fr', k1, k2, k3, k4, k5, k6, k7, k8⟩ := k
  exact ⟨v, h', s', w', v', fr', hm _ k1, hs.trans k2, k3, k4, k5, k6, k7, ht.trans k8⟩

include H S in
theorem callEnd_ok (st : St s h w) {g : FuncId} {fn : Func} (hf : E.ft.get g = some fn) {f : Fr} {j : Option Jump} {todo : List Item} {ds : List ADef} {kind : CallKind} {fr : Frame} {cs : List Frame}
    (F : FrOk s g f todo ds none kind fr) (hl : LeavingAs none j todo) {outs : List Out} (e : callEnd run E fn f j ds h = .ok outs) : ValOk P s h w g kind fr cs outs := by
  have hro : fr.roundOf = none := F.round
  have hfP := H.ft g fn hf
  have hret : step P (lone fr cs w) = .next (lone { fr with mode := .returning } cs w) := by
    rcases hl with ⟨rfl, _⟩ | ⟨k, rfl, _⟩ | ⟨_, _, _, _, _, hc, _⟩
    · exact st_ret F.mode hro (.inl F.todo)
    · exact st_ret F.mode hro (.inr ⟨k, F.todo⟩)
    · cases hc
  unfold callEnd at e
  split at e
  · split at e
    · obtain ⟨v, v', rfl, k1, k2⟩ := retn_ok (P := P) H st F.tmps e
      have hd : fr.defers = [] := by have := F.defers; simpa only [DRs] using this
      exact ⟨v, h, s, w, v', { fr with mode := .returning }, List.mem_singleton.2 rfl, .one hret, k2, ⟨rfl, hd, fn, by rw [← hfP]; exact congrArg (P.funcs[·]?) F.fn, k1⟩, F.kind, F.fn, st, Tra.refl s h w⟩
    · obtain ⟨l, e1, e2⟩ := thenAll_ok e
      obtain ⟨h', s', w', k1, k2, k3, k4⟩ := S.defers ds h l e1 s w { fr with mode := .returning } cs st F.defers rfl
      obtain ⟨l', e3, e4⟩ := e2 _ k1
      simp only [onMem] at e3
      obtain ⟨v, v', rfl, q1, q2⟩ := retn_ok (P := P) H k3 (F.tmps.mono k4.le) e3
      exact ⟨v, h', s', w', v', { fr with mode := .returning, defers := [] }, e4 _ (List.mem_singleton.2 rfl), .head hret k2, q2,
        ⟨rfl, rfl, fn, by rw [← hfP]; exact congrArg (P.funcs[·]?) F.fn, q1⟩, F.kind, F.fn, k3, k4⟩
  · cases e

include H S in
theorem func_ok (st : St s h w) {g : FuncId} {args : List AV} {xs : List Value} (hx : Rs s args xs) {kind : CallKind} {cs : List Frame} (hrec : RecOk kind cs) {outs : List Out}
    (e : runFunc run E g args h = .ok outs) : ValOk P s h w g kind (Frame.enter P g xs.toArray kind) cs outs := by
  unfold runFunc at e; split at e
  · rename_i fn hf
    unfold runBody at e; split at e
    · rename_i c hb
      have key : ∀ l, thenAll (run (.code g ⟨Ev.putArgs 0 args .leaf, fn.ntmps⟩ [.code c] [] none h)) (onLeft fun f j ds h => callEnd run E fn f j ds h) = .ok l → args.length ≤ fn.ntmps →
          ValOk P s h w g kind (Frame.enter P g xs.toArray kind) cs l := by
        intro l e hn
        obtain ⟨l1, e1, e2⟩ := thenAll_ok e
        obtain ⟨f', j, ds', h', todo', s', w', fr', k1, k2, k3, k4, k5, k6⟩ := S.code _ _ _ _ _ _ l1 e1 s w kind _ cs st (enter_ok (H.ft g fn hf) hb hx hn kind) hrec
        obtain ⟨l2, e3, e4⟩ := e2 _ k1
        simp only [onLeft] at e3
        exact ValOk.of k2 k6 e4 (callEnd_ok H S k5 hf k3 k4 e3)
      cases hle : Nat.ble args.length fn.ntmps with
      | false => rw [hle] at e; simp [merged] at e
      | true =>
        rw [hle] at e
        simp only [cond_true] at e
        have hle := Nat.le_of_ble_eq_true hle
        unfold merged at e; split at e
        · rename_i l hl
          cases hb : E.mg.any (Nat.beq g) with
          | true => rw [hb] at e; simp only [cond_true] at e; cases e; exact (key _ hl hle).merge
          | false => rw [hb] at e; simp only [cond_false] at e; cases e; exact key _ hl hle
        · cases e
    · cases e
  · cases e

include H HP HM S in
theorem call_ok (st : St s h w) {d : Bool} {g : FuncId} {args : List AV} {xs : List Value} (hx : Rs s args xs) {cs : List Frame} (hd : d = true → ∃ c l, cs = c :: l ∧ c.mode = .returning) {outs : List Out}
    (e : runCall run E d g args h = .ok outs) : ValOk P s h w g (if d then .deferred else .normal) (Frame.enter P g xs.toArray (if d then .deferred else .normal)) cs outs := by
  cases d with
  | true =>
    simp only [runCall] at e
    obtain ⟨c, l, rfl, hc⟩ := hd rfl
    exact func_ok H S st hx (.inr ⟨rfl, c, l, rfl, hc⟩) e
  | false =>
    simp only [runCall] at e
    split at e
    · rename_i v hv
      cases e
      obtain ⟨en, w', fr, ⟨v', rfl, k1, k2⟩, k3, k4, k5⟩ := HP g args v hv s w xs st.good hx cs
      obtain ⟨st2, tr2⟩ := Tra.garb st k2
      exact ⟨v, h, s, w', v', fr, List.mem_singleton.2 rfl, k3, k1, ⟨k5.1, k5.2.1, k5.2.2.2⟩, k5.2.2.1, k4, st2, tr2⟩
    · split at e
      · rename_i m hm
        cases e
        obtain ⟨m1, rfl, m3⟩ := findMemo_ok hm
        obtain ⟨st1, tr1⟩ := Tra.less st m3.1 m3.2
        exact ValOk.of (.refl P _) tr1 (fun _ h => h) (HM g m m1 s w xs cs st1 hx)
      · exact func_ok H S st hx (.inl rfl) e

theorem zipPut_ok : ∀ (ts : List Tmp) (as : List AV) (f f' : Fr) (tmps : Array Value) (xs : List Value), zipPut f ts as = some f' → TRel s f.tmps f.n tmps → Rs s as xs →
    xs.length = ts.length ∧ TRel s f'.tmps f'.n ((ts.zip xs).foldl (fun tmps (t, a) => tmps.setIfInBounds t a) tmps)
  | [], [], f, f', tmps, xs, e, k, hx => by
    simp only [zipPut] at e; cases e
    simp only [Rs] at hx; subst hx
    exact ⟨rfl, by simpa using k⟩
  | [], _ :: _, f, f', tmps, xs, e, k, hx => by simp [zipPut] at e
  | _ :: _, [], f, f', tmps, xs, e, k, hx => by simp [zipPut] at e
  | t :: ts, a :: as, f, f', tmps, xs, e, k, hx => by
    simp only [Rs] at hx
    obtain ⟨y, ys, rfl, h1, h2⟩ := hx
    simp only [zipPut] at e
    split at e
    · rename_i f1 hf
      simp only [Fr.put] at hf
      cases f with
      | mk tr n =>
        simp only at hf k
        cases hb : Nat.blt t n with
        | false => simp [hb] at hf
        | true =>
          simp only [hb, cond_true] at hf; cases hf
          have := zipPut_ok ts as _ f' (tmps.setIfInBounds t y) ys e (k.put (by simpa [Nat.blt_eq] using hb) h1) h2
          exact ⟨by simp [this.1], by simpa using this.2⟩
    · cases e

include S in
theorem round_ok (st : St s h w) {l : Nat} {args : List AV} {xs : List Value} {p : Pl} (hp : s l = some p) (hx : Rs s args xs) {outs : List Out} (e : runRound run l args h = .ok outs) (c : Frame) (cs : List Frame) :
    ∃ v h' s' w' v' g tmps a b, Out.val v h' ∈ outs ∧ (Instr.yield p.b xs.toArray).run P w = .ok (.round p.b g tmps a b) w ∧
      Steps P (lone (Frame.round p.b g tmps a b .normal) (c :: cs) w) (lone (c.finish v') cs w') ∧ R s' v v' ∧ St s' h' w' ∧ Tra s h w s' h' w' := by
  unfold runRound at e; split at e
  · rename_i pend fn tm nt params as bo hg
    split at e
    · rename_i f hz
      obtain ⟨L, q1, q2, q3, q4, q5, q6, q7, q8⟩ := loop_blk st hg hp
      obtain ⟨z1, z2⟩ := zipPut_ok _ _ _ _ _ _ hz q5 hx
      obtain ⟨l1, e1, e2⟩ := thenAll_ok e
      let tmps := (params.toList.zip xs).foldl (fun (tmps : Array Value) (x : Tmp × Value) => tmps.setIfInBounds x.1 x.2) L.tmps
      have hy : (Instr.yield p.b xs.toArray).run P w = .ok (.round p.b fn tmps as bo) w := by
        have hget := run_getObj' (P := P) q1 (by simp)
        have hsz : xs.toArray.size = L.params.size := by rw [q6]; simpa using z1
        have hfold : (L.params.zip xs.toArray).foldl (fun (tmps : Array Value) (x : Tmp × Value) => tmps.setIfInBounds x.1 x.2) L.tmps = tmps := by
          rw [q6, ← Array.foldl_toList]; simp [tmps]
        simp only [Instr.yield, Instr.getLoop]
        simp only [List.size_toArray] at hsz
        simp [hget, hsz, q4, q7, q8]
        have hmin : min L.params.size xs.length = L.params.size := by omega
        simpa [hmin] using hfold
      have F : FrOk s fn f [.code as, .beginRound, .code bo] [] (some l) .normal (Frame.round p.b fn tmps as bo .normal) :=
        ⟨rfl, z2, rfl, by simp [Frame.round, DRs], rfl, rfl, ⟨p, hp, rfl⟩⟩
      obtain ⟨f', j, ds', h', todo', s', w', fr', k1, k2, k3, k4, k5, k6⟩ := S.code _ _ _ _ _ _ l1 e1 s w .normal _ (c :: cs) st F (.inl rfl)
      obtain ⟨l2, e3, e4⟩ := e2 _ k1
      simp only [onLeft] at e3
      split at e3
      · unfold roundEnd at e3; split at e3
        · rename_i pend2 fn2 tm2 nt2 params2 as2 bo2 hg2
          cases e3
          have hp' := k6.le _ _ hp
          obtain ⟨L2, r1, r2, r3, r4, r5, r6, r7, r8⟩ := loop_blk k5 hg2 hp'
          have hget := run_getObj' (P := P) r1 (by simp)
          have hset := fun o => run_setObj' (P := P) r1 (by simp) o
          let ob : Obj := .loop { L2 with state := if (j.map Jump.code).isNone then .ready else .done, pending := j.map Jump.code }
          have hend : (Instr.endRound p.b (j.map Jump.code)).run P w' = .ok (.bool j.isNone) (setB w' p.b ob) := by
            simp only [Instr.endRound, Instr.getLoop]
            simp [hget, hset, ob]
          obtain ⟨st4, tr4⟩ := Tra.write (w' := setB w' p.b ob) k5 hg2 hp' (.loop (bif j.isNone then .ready else .done) j fn2 tm2 nt2 params2 as2 bo2) ob
            (setB_size _ _ _) (setB_same r1 _) (fun b hb => setB_ne _ _ _ _ hb) (setB_wd _ _ _) (by
              simp only [BR]
              exact ⟨_, rfl, by cases j <;> rfl, rfl, r4, r5, r6, r7, r8⟩)
          have hro : fr'.roundOf = some p.b := by
            have := k3.round
            unfold RoundOk at this
            obtain ⟨q, hq, e⟩ := this
            rw [hp'] at hq; cases hq; exact e
          have hleave := st_leave (P := P) (cs := cs) (c := c) (j := j.map Jump.code) k3.mode hro k3.kind (by
            rcases k4 with ⟨rfl, rfl⟩ | ⟨k, rfl, rfl⟩ | ⟨id, k, l', rfl, hx', hl', rfl⟩
            · exact .inl ⟨k3.todo, rfl⟩
            · exact .inr (.inl ⟨k, k3.todo, rfl⟩)
            · exact .inr (.inr ⟨id, k, k3.todo, hx', rfl⟩)) hend
          exact ⟨_, _, s', _, .bool j.isNone, fn, tmps, as, bo, e4 _ (List.mem_singleton.2 rfl), hy, k2.trans (.one hleave), by simp only [R], st4, k6.trans tr4⟩
        · cases e3
      · cases e3
    · cases e
  · cases e

include H S in
theorem defers_ok : ∀ (ds : List ADef) (st : St s h w) {outs : List Out} (_ : runDefers run E ds h = .ok outs) (fr : Frame) (cs : List Frame), DRs s ds fr.defers → fr.mode = .returning →
    ∃ h' s' w', Out.mem h' ∈ outs ∧ Steps P (lone fr cs w) (lone { fr with defers := [] } cs w') ∧ St s' h' w' ∧ Tra s h w s' h' w'
  | [], st, outs, e, fr, cs, hd, hm => by
    simp only [runDefers] at e; cases e
    simp only [DRs] at hd
    refine ⟨h, s, w, List.mem_singleton.2 rfl, ?_, st, Tra.refl s h w⟩
    have : ({ fr with defers := [] } : Frame) = fr := by cases fr; simp only at hd; subst hd; rfl
    rw [this]; exact .refl P _
  | .coll r :: ds, st, outs, e, fr, cs, hd, hm => by
    simp only [runDefers] at e
    split at e
    · rename_i hg
      simp only [DRs] at hd
      obtain ⟨d, ds', hfd, hdr, hrest⟩ := hd
      simp only [DR] at hdr
      obtain ⟨p, hp, rfl⟩ := hdr
      obtain ⟨ob, q1, q2⟩ := st.hr r _ p hg hp
      simp only [BR] at q2; subst q2
      have hget := run_getObj' (P := P) q1 (by simp)
      have hset := fun o => run_setObj' (P := P) q1 (by simp) o
      have ht : (Instr.takeDeferred p.b).run P w = .ok [] (setB w p.b (.deferred none)) := by
        simp [Instr.takeDeferred, hget, hset]
      obtain ⟨st4, tr4⟩ := Tra.gone (w' := setB w p.b (.deferred none)) st hg hp (setB_size _ _ _) (fun b hb => setB_ne _ _ _ _ hb) (setB_wd _ _ _)
      have hstep := st_collected (P := P) (cs := cs) (w := w) (by rw [hm]; simp) hfd ht
      simp only [List.nil_append] at hstep
      obtain ⟨h', s', w', k1, k2, k3, k4⟩ := S.defers ds _ outs e s _ { fr with defers := ds' } cs st4 hrest hm
      exact ⟨h', s', w', k1, .head hstep k2, k3, tr4.trans k4⟩
    · cases e
  | .fn g args :: ds, st, outs, e, fr, cs, hd, hm => by
    simp only [runDefers] at e
    simp only [DRs] at hd
    obtain ⟨d, ds', hfd, hdr, hrest⟩ := hd
    simp only [DR] at hdr
    obtain ⟨as, cap, rfl, hx⟩ := hdr
    cases hb : hasBody E g with
    | false => rw [hb] at e; simp at e
    | true =>
      rw [hb] at e; simp only [cond_true] at e
      unfold hasBody at hb
      split at hb
      · rename_i fn hfn
        obtain ⟨c, hc⟩ := Option.isSome_iff_exists.1 hb
        obtain ⟨l, e1, e2⟩ := thenAll_ok e
        obtain ⟨v, h', s', w', v', fr', k1, k2, k3, k4, k5, k6, k7, k8⟩ := S.call true g args h l e1 s w (as ++ cap) ({ fr with defers := ds' } :: cs) st hx (fun _ => ⟨_, _, rfl, hm⟩)
        simp only [if_true] at k2 k5
        obtain ⟨l', e3, e4⟩ := e2 _ k1
        simp only [onVal] at e3
        have hinv : (invoke (.fn (.func g) cap.toArray) as.toArray).run P w = .ok (.enter g (as ++ cap).toArray) w := by
          have := callFunc_enter H hfn hc (as ++ cap).toArray (w := w)
          simpa [invoke] using this
        have h1 := step_defer (P := P) (cs := cs) (w := w) (by rw [hm]; simp) hfd rfl hinv
        have h2 := step_going_returned (c := { fr with defers := ds' }) (cs := cs) k5 k4
        have hset : settle ({ fr with defers := ds' } : Frame).mode = .returning := by simp only [hm]; rfl
        rw [hset] at h2
        have hfr : ({ ({ fr with defers := ds' } : Frame) with mode := .returning } : Frame) = { fr with defers := ds' } := by cases fr; simp only at hm; subst hm; rfl
        rw [hfr] at h2
        obtain ⟨h3, s3, w3, q1, q2, q3, q4⟩ := S.defers ds h' l' e3 s' w' { fr with defers := ds' } cs k7 (hrest.mono k8.le) hm
        exact ⟨h3, s3, w3, e4 _ q1, .head h1 (k2.trans (.head h2 q2)), q3, k8.trans q4⟩
      · cases hb

include H HP HM S D in
/-- one task deeper -/
theorem Sound.next : Sound P (fun t => runTask run E t) where
  code := fun fn f todo ds r h outs e s w kind fr cs st F hrec => by
    cases todo with
    | nil =>
      simp only [runTask] at e; cases e
      exact ⟨f, none, ds, h, _, s, w, fr, List.mem_singleton.2 rfl, .refl P _, F, .inl ⟨rfl, rfl⟩, st, Tra.refl s h w⟩
    | cons i k => exact item_ok H S D st hrec F e
  call := fun d g args h outs e s w xs cs st hx hd => call_ok H HP HM S st hx hd e
  round := fun l args h outs e s w xs p st hp hx c cs => round_ok S st hp hx e c cs
  defers := fun ds h outs e s w fr cs st hd hm => defers_ok H S ds st e fr cs hd hm
end

theorem Sound.none (P : Program) : Sound P (fun _ => .error "fuel") where
  code := fun _ _ _ _ _ _ _ e => by cases e
  call := fun _ _ _ _ _ e => by cases e
  round := fun _ _ _ _ e => by cases e
  defers := fun _ _ _ e => by cases e

/-- ████ whatever the evaluator finds is so -/
theorem sound {E : Env} {P : Program} (H : EnvOk E P) (HP : PrimOk P E) (HM : MemoOk P E) (D : ∀ run, Sound P run → DrawnSound P E run) : ∀ n, Sound P (Ev.run E n)
  | 0 => Sound.none P
  | n + 1 => Sound.next H HP HM (sound H HP HM D n) (D _ (sound H HP HM D n))
end Go.Ev
namespace Go.Ev
open Go

/-! ### an operation looks at its own operands alone -/
section
variable {f f' : Operand → Option AV}

theorem rhos_congr : ∀ (l : List Operand), (∀ x ∈ l, f x = f' x) → rhos f l = rhos f' l
  | [], _ => rfl
  | x :: l, h => by
    simp only [rhos]
    rw [h x (by simp), rhos_congr l (fun y hy => h y (by simp [hy]))]

theorem pairs_congr : ∀ (l : List (Nat × Operand)), (∀ x ∈ l.map (·.2), f x = f' x) → pairs f l = pairs f' l
  | [], _ => rfl
  | (i, x) :: l, h => by
    simp only [pairs]
    rw [h x (by simp), pairs_congr l (fun y hy => h y (by simp only [List.map_cons]; exact List.mem_cons_of_mem _ hy))]

theorem optRho_congr : ∀ (x : Option Operand), (∀ y ∈ x, f y = f' y) → optRho f x = optRho f' x
  | none, _ => rfl
  | some x, h => by simp only [optRho]; rw [h x (by simp)]

theorem evalOp_congr (E : Env) (op : Op) (h : AH) (hx : ∀ x ∈ op.operands, f x = f' x) : evalOp E f op h = evalOp E f' op h := by
  cases op <;> simp only [Op.operands] at hx <;> simp only [evalOp]
  case build t ps => rw [pairs_congr ps.toList (fun x h => hx x (by simpa using h))]
  case buildSlice t n ps => rw [pairs_congr ps.toList (fun x h => hx x (by simpa using h))]
  case makeFunc fn a b =>
    rw [rhos_congr a.toList (fun x h => hx x (by simp only [Array.mem_append]; exact .inl (Array.mem_toList_iff.1 h))),
      rhos_congr b.toList (fun x h => hx x (by simp only [Array.mem_append]; exact .inr (Array.mem_toList_iff.1 h)))]
  case call c =>
    simp only [Call.operands] at hx
    unfold evCall
    rw [rhos_congr c.args.toList (fun x h => hx x (by simp only [Array.mem_append]; exact .inr (Array.mem_toList_iff.1 h)))]
    unfold evCallee
    cases hc : c.callee with
    | value x => rw [hc] at hx; simp only; rw [hx x (by simp)]
    | invoke x m => rw [hc] at hx; simp only; rw [hx x (by simp)]
    | builtin b => rfl
  case defer c =>
    simp only [Call.operands] at hx
    unfold evDefer
    rw [rhos_congr c.args.toList (fun x h => hx x (by simp only [Array.mem_append]; exact .inr (Array.mem_toList_iff.1 h)))]
    cases hc : c.callee with
    | value x =>
      rw [hc] at hx
      have := hx x (by simp)
      cases rhos f' c.args.toList <;> simp only [this]
    | invoke x m => cases rhos f' c.args.toList <;> rfl
    | builtin b => cases rhos f' c.args.toList <;> rfl
  case pick c a b => unfold evPick; rw [hx c (by simp), hx a (by simp), hx b (by simp)]
  case makeMap t r => rw [optRho_congr r (fun y hy => hx y (by simpa using hy))]
  case slice t x lo hi mx =>
    rw [hx x (by simp), optRho_congr lo (fun y hy => hx y (by simp only [Array.mem_append]; exact .inl (.inl (.inr (by simpa using hy))))),
      optRho_congr hi (fun y hy => hx y (by simp only [Array.mem_append]; exact .inl (.inr (by simpa using hy)))),
      optRho_congr mx (fun y hy => hx y (by simp only [Array.mem_append]; exact .inr (by simpa using hy)))]
  all_goals first | rfl | (simp_all; done)

/-- of the operands alone -/
noncomputable def only (l : Array Operand) (f : Operand → Option AV) : Operand → Option AV := fun x => open Classical in if x ∈ l then f x else none

theorem evalOp_only (E : Env) (op : Op) (h : AH) : evalOp E (only op.operands f) op h = evalOp E f op h :=
  evalOp_congr E op h (fun x hx => by simp [only, hx])

theorem op_ok' {E : Env} {P : Program} (H : EnvOk E P) {s : Sg} {h : AH} {w : World} (st : St s h w) {ρ : Operand → Value} {o : Oper} (Hρ : ∀ x ∈ o.op.operands, ∀ a, f x = some a → R s a (ρ x)) {r : Res}
    (e : evalOp E f o.op h = some r) : OpOk P s h w r ((execOp ρ o).run P w) := by
  refine op_ok (f := only o.op.operands f) H st ?_ (by rw [evalOp_only]; exact e)
  intro x a ha
  by_cases hx : x ∈ o.op.operands
  · exact Hρ x hx a (by simpa [only, hx] using ha)
  · simp [only, hx] at ha
end
end Go.Ev
namespace Go.Ev
open Go

/-! ### the orders that may be drawn -/
/-- 'rest' is a way to end a row of which 'X' has been done -/
def Sched (ops : Array Oper) : (Nat → Prop) → List Nat → Prop
  | X, [] => ∀ i, i < ops.size → X i
  | X, i :: rest => ¬ X i ∧ (∃ o, ops[i]? = some o ∧ ∀ e ∈ o.after, Region.binds .any e = true → X e.on) ∧ Sched ops (fun j => X j ∨ j = i) rest

theorem Sched.congr {ops : Array Oper} : ∀ {l : List Nat} {X Y : Nat → Prop}, (∀ i, X i ↔ Y i) → Sched ops X l → Sched ops Y l
  | [], X, Y, h, k => fun i hi => (h i).1 (k i hi)
  | i :: l, X, Y, h, ⟨k1, ⟨o, k2, k3⟩, k4⟩ =>
    ⟨fun y => k1 ((h i).2 y), ⟨o, k2, fun e he hb => (h _).1 (k3 e he hb)⟩, Sched.congr (fun j => by rw [h j]) k4⟩

def open_ (listed : Array Bool) (n : Nat) : Nat := (List.range n).countP fun i => !listed.getD i true

theorem countP_one {p q : Nat → Bool} {i : Nat} (hp : p i = false) (hq : q i = true) (h : ∀ j, j ≠ i → p j = q j) : ∀ m, (List.range m).countP p + (if i < m then 1 else 0) = (List.range m).countP q
  | 0 => by simp
  | m + 1 => by
    have ih := countP_one hp hq h m
    rw [List.range_succ, List.countP_append, List.countP_append, List.countP_singleton, List.countP_singleton, ← ih]
    by_cases hmi : m = i
    · subst hmi
      simp [hp, hq]
    · rw [h m hmi]
      by_cases hlt : i < m
      · have : i < m + 1 := by omega
        simp only [hlt, this, if_true]; omega
      · have : ¬ i < m + 1 := by omega
        simp only [hlt, this, if_false]; omega

theorem open_set {listed : Array Bool} {n i : Nat} (hn : listed.size = n) (hi : i < n) (h : listed.getD i true = false) : open_ (listed.setIfInBounds i true) n + 1 = open_ listed n := by
  unfold open_
  have := countP_one (p := fun j => !(listed.setIfInBounds i true).getD j true) (q := fun j => !listed.getD j true) (i := i)
    (by simp [Array.getD_eq_getD_getElem?, Array.getElem?_setIfInBounds, hn, hi]) (by simp only [h]; rfl)
    (fun j hj => by simp only [Array.getD_eq_getD_getElem?]; rw [Array.getElem?_setIfInBounds_ne (fun e => hj e.symm)]) n
  rw [if_pos hi] at this
  exact this

theorem sched_go (ops : Array Oper) (hE : ∀ i o, ops[i]? = some o → ∀ e ∈ o.after, Region.binds .any e = true → e.on < i) : ∀ (fuel t : Nat) (listed : Array Bool), listed.size = ops.size → open_ listed ops.size ≤ fuel →
    Sched ops (fun i => listed.getD i false = true) (Region.linearise.go .any ops fuel t listed []) := by
  intro fuel
  induction fuel with
  | zero =>
    intro t listed hs hf
    simp only [Region.linearise.go, List.reverse_nil, Sched]
    intro i hi
    have : open_ listed ops.size = 0 := by omega
    unfold open_ at this
    rw [List.countP_eq_zero] at this
    have := this i (List.mem_range.2 hi)
    simp only [Bool.not_eq_true', Bool.not_eq_false] at this
    have hlt : i < listed.size := by omega
    simpa [Array.getD_eq_getD_getElem?, hlt] using this
  | succ fuel ih =>
    intro t listed hs hf
    simp only [Region.linearise.go]
    change Sched ops _ (match (Region.ready .any ops listed)[t % (Region.ready .any ops listed).length]? with
      | some i => Region.linearise.go .any ops fuel (t / (Region.ready .any ops listed).length) (listed.setIfInBounds i true) [i]
      | none => [].reverse)
    cases hi : (Region.ready .any ops listed)[t % (Region.ready .any ops listed).length]? with
    | none =>
      have hnil : Region.ready .any ops listed = [] := by
        cases hr : Region.ready .any ops listed with
        | nil => rfl
        | cons x xs =>
          rw [hr] at hi
          have hlt : t % (x :: xs).length < (x :: xs).length := Nat.mod_lt _ (by simp)
          simp at hi
          simp at hlt
          omega
      simp only [List.reverse_nil, Sched]
      intro i
      induction i using Nat.strongRecOn with
      | _ i ih2 =>
        intro hilt
        have hlt : i < listed.size := by omega
        cases hb : listed.getD i false with
        | true => rfl
        | false =>
          exfalso
          have hmem : i ∈ Region.ready .any ops listed := by
            unfold Region.ready
            rw [List.mem_filter]
            refine ⟨List.mem_range.2 hilt, ?_⟩
            have hl : listed.getD i true = false := by
              simp only [Array.getD_eq_getD_getElem?] at hb ⊢
              rw [Array.getElem?_eq_getElem hlt] at hb ⊢
              simpa using hb
            have ho : ops[i]? = some ops[i] := Array.getElem?_eq_getElem hilt
            rw [hl, ho]
            simp only [Bool.not_false, Bool.true_and, Option.map_some, Option.getD_some]
            rw [Array.all_eq_true']
            intro e he
            cases hbd : Region.binds .any e with
            | false => rfl
            | true =>
              have hon := hE i _ ho e he hbd
              simpa using ih2 e.on hon (by omega)
          rw [hnil] at hmem
          cases hmem
    | some i =>
      simp only []
      rw [linearise_go_acc, List.reverse_singleton, List.singleton_append]
      have hmem := List.mem_of_getElem? hi
      unfold Region.ready at hmem
      rw [List.mem_filter] at hmem
      obtain ⟨hr, hm⟩ := hmem
      have hilt := List.mem_range.1 hr
      simp only [Bool.and_eq_true, Bool.not_eq_true'] at hm
      obtain ⟨hm1, hm2⟩ := hm
      have hlt : i < listed.size := by omega
      have ho : ops[i]? = some ops[i] := Array.getElem?_eq_getElem hilt
      rw [ho] at hm2
      simp only [Option.map_some, Option.getD_some] at hm2
      rw [Array.all_eq_true'] at hm2
      refine ⟨?_, ⟨_, ho, fun e he hb => ?_⟩, ?_⟩
      · intro hx
        simp only [Array.getD_eq_getD_getElem?] at hx hm1
        rw [Array.getElem?_eq_getElem hlt] at hx hm1
        simp at hx hm1
        rw [hx] at hm1; cases hm1
      · have := hm2 e he
        rw [hb] at this; simpa using this
      · have hop := open_set hs hilt hm1
        refine Sched.congr (fun j => ?_) (ih (t / (Region.ready .any ops listed).length) (listed.setIfInBounds i true) (by simpa using hs) (by omega))
        simp only [Array.getD_eq_getD_getElem?]
        by_cases hji : j = i
        · subst hji; simp [Array.getElem?_setIfInBounds, hlt]
        · rw [Array.getElem?_setIfInBounds_ne (fun e => hji e.symm)]; simp [hji]

theorem sched (ops : Array Oper) (hE : ∀ i o, ops[i]? = some o → ∀ e ∈ o.after, Region.binds .any e = true → e.on < i) (t : Nat) : Sched ops (fun _ => False) (Region.linearise .any ops t) := by
  unfold Region.linearise
  refine Sched.congr (fun i => ?_) (sched_go ops hE ops.size t (Array.replicate ops.size false) (by simp) ?_)
  · simp only [Array.getD_eq_getD_getElem?]
    by_cases h : i < ops.size
    · simp [h]
    · simp [h]
  · unfold open_
    exact Nat.le_trans List.countP_le_length (by simp)
end Go.Ev
namespace Go.Ev
open Go

/-- the same whatever memory holds -/
def Par (g : AH → Option Res) : Prop := ∃ v : Option AV, ∀ h, g h = mapRes v h

theorem Par.map (v : Option AV) : Par (mapRes v) := ⟨v, fun _ => rfl⟩
theorem Par.none : Par (fun _ => none) := ⟨.none, fun _ => rfl⟩
theorem Par.some (v : AV) : Par (fun h => some (.val v h)) := ⟨.some v, fun _ => rfl⟩
theorem Par.bif (b : Bool) {g : AH → Option Res} (p : Par g) : Par (fun h => bif b then g h else .none) := by
  cases b
  · exact Par.none
  · exact p
theorem Par.bif2 (b : Bool) {g g' : AH → Option Res} (p : Par g) (p' : Par g') : Par (fun h => bif b then g h else g' h) := by
  cases b
  · exact p'
  · exact p
theorem bif_some {α : Type} {c : Bool} {x : Option α} {r : α} (e : (bif c then x else none) = some r) : x = some r := by
  cases c
  · cases e
  · exact e
theorem Par.congr {g g' : AH → Option Res} (p : Par g) (e : ∀ h, g' h = g h) : Par g' := let ⟨v, hv⟩ := p; ⟨v, fun h => (e h).trans (hv h)⟩

section
variable (E : Env) (f : Operand → Option AV)

theorem par_pick (c a b : Operand) : Par (evPick f c a b) := by
  unfold evPick
  cases hc : f c with
  | none => exact Par.none
  | some v => cases v with
    | bool x => cases x <;> exact Par.map _
    | _ => exact Par.none

theorem par_build (t : TypeId) (ps : Option (List (Nat × AV))) : Par (evBuild E t ps) := by
  unfold evBuild
  split
  · split
    · exact Par.map _
    · exact Par.map _
    · exact Par.none
  · exact Par.none

theorem par_nilCheck (x : Option AV) : Par (evNilCheck x) := by
  unfold evNilCheck
  split <;> first | exact Par.some _ | exact Par.none

theorem par_bin (op : BinOp) (t : TypeId) (c : Bool) (a b : Option AV) : Par (evBin E op t c a b) := by
  unfold evBin
  split <;> first | exact Par.map _ | exact Par.none

theorem par_un (op : UnOp) (x : Option AV) : Par (evUn op x) := by
  unfold evUn
  split <;> first | exact Par.some _ | exact Par.none

theorem par_makeInterface (t : TypeId) (x : Option AV) : Par (evMakeInterface E t x) := by
  unfold evMakeInterface
  split <;> first | exact Par.some _ | exact Par.none

theorem par_makeFunc (fn : Fn) (a b : Option (List AV)) : Par (evMakeFunc fn a b) := by
  unfold evMakeFunc
  split <;> first | exact Par.some _ | exact Par.none

theorem par_slice (t : TypeId) (x : Option AV) (a b c : Option (Option AV)) : Par (evSlice E t x a b c) := by
  unfold evSlice
  split <;> first | exact Par.map _ | exact Par.none

theorem par_fieldAddr (s : TypeId) (x : Option AV) (i : Nat) : Par (evFieldAddr E s x i) := by
  unfold evFieldAddr
  split
  · split
    · split <;> first | exact Par.some _ | exact Par.none
    · exact Par.none
  · exact Par.none

theorem par_field (t : TypeId) (x : Option AV) (i : Nat) : Par (evField E t x i) := by
  unfold evField
  split
  · split <;> first | exact Par.map _ | exact Par.none
  · exact Par.none

theorem par_indexAddr (t : TypeId) (x i : Option AV) : Par (evIndexAddr E t x i) := by
  unfold evIndexAddr
  split
  · split
    · exact Par.bif _ (Par.some _)
    · exact Par.none
  · split
    · exact Par.bif _ (Par.some _)
    · exact Par.none
  · exact Par.none

theorem par_index (t : TypeId) (x i : Option AV) : Par (evIndex E t x i) := by
  unfold evIndex
  split
  · refine Par.bif _ ?_
    split <;> first | exact Par.some _ | exact Par.none
  · refine Par.bif _ ?_
    split <;> first | exact Par.map _ | exact Par.none
  · exact Par.none

theorem par_assert (x : Option AV) (t : TypeId) (ok : Bool) : Par (evAssert E x t ok) := by
  unfold evAssert
  split
  · exact Par.none
  · refine Par.bif2 _ (Par.some _) (Par.bif _ ?_)
    split <;> first | exact Par.some _ | exact Par.none
  · refine Par.bif _ ?_
    split <;> first | exact Par.some _ | exact Par.none
  · exact Par.none

theorem par_extract (x : Option AV) (i : Nat) : Par (evExtract x i) := by
  unfold evExtract
  split <;> first | exact Par.map _ | exact Par.none

theorem pure_par {op : Op} (hc : clsOf op = .pure) : Par (evalOp E f op) := by
  cases op with
  | move x => exact Par.map _
  | assign x => exact Par.map _
  | pick c a b => exact par_pick f c a b
  | build t p => exact par_build E t _
  | nilCheck x => exact par_nilCheck _
  | binOp o t x y t2 => exact par_bin E o t _ _ _
  | unOp o t x => exact par_un o _
  | makeInterface t x => exact par_makeInterface E t _
  | makeFunc fn a b => exact par_makeFunc fn _ _
  | slice t x a b c => exact par_slice E t _ _ _ _
  | fieldAddr s x i => exact par_fieldAddr E s _ i
  | field t x i => exact par_field E t _ i
  | indexAddr t x i => exact par_indexAddr E t _ _
  | index t x i => exact par_index E t _ _
  | typeAssert x a t ok => exact par_assert E _ t ok
  | extract x i => exact par_extract _ i
  | call c =>
    obtain ⟨ce, as, ts⟩ := c
    cases ce with
    | builtin b => cases b <;> cases hc
    | value x => cases hc
    | invoke x m => cases hc
  | _ => cases hc

theorem pure_ok {op : Op} (hc : clsOf op = .pure) {h : AH} {r : Res} (e : evalOp E f op h = some r) : ∃ v, r = .val v h ∧ ∀ B, evalOp E f op B = some (.val v B) := by
  obtain ⟨v, hv⟩ := pure_par E f hc
  rw [hv] at e
  obtain ⟨a, rfl, rfl⟩ := mapRes_some e
  exact ⟨a, rfl, fun B => hv B⟩

theorem bif_val {b : Bool} {v v' : AV} {h h' : AH} (e : (bif b then some (Res.val v h) else none) = some (.val v' h')) : h' = h := by
  cases b with
  | false => cases e
  | true => cases e; rfl

/-- what is read, memory left as it is -/
theorem mem_ok {op : Op} (hc : clsOf op = .mem) {h h' : AH} {v : AV} (e : evalOp E f op h = some (.val v h')) (hn : h'.next = h.next) : h' = h := by
  have nr : ∀ {mk : Nat → AV} {blk : ABlk}, newRes h mk blk = some (.val v h') → False := by
    intro mk blk e
    have := newRes_some e
    cases this
    rw [AH.next_new] at hn; omega
  have mp : ∀ {o : Option AV}, mapRes o h = some (.val v h') → h' = h := by
    intro o e
    obtain ⟨a, _, k⟩ := mapRes_some e
    cases k; rfl
  cases op with
  | load t x =>
    simp only [evalOp, evLoad] at e
    split at e
    · exact mp e
    · cases e
  | lookup t x k ok =>
    simp only [evalOp, evLookup, okTup] at e
    split at e
    · split at e
      · cases e; rfl
      · split at e
        · cases e; rfl
        · cases e
      · cases e
    · cases e
  | entry x =>
    simp only [evalOp, evEntry] at e
    split at e
    · split at e
      · split at e
        · exact mp (bif_some e)
        · cases e
      · cases e
    · cases e
  | convert a b x =>
    simp only [evalOp, evConvert] at e
    split at e
    · cases e; rfl
    · cases e; rfl
    · unfold toBytes at e
      split at e
      · exact (nr e).elim
      · cases e
    · unfold ofBytes at e
      split at e
      · cases e; rfl
      · split at e
        · split at e
          · cases e; rfl
          · cases e
        · cases e
      · cases e
    · unfold toUnsafe at e
      split at e
      · exact bif_val e
      · cases e
    · unfold ofUnsafe at e
      split at e
      · exact bif_val e
      · cases e
    · cases e
  | call c =>
    obtain ⟨ce, as, ts⟩ := c
    cases ce with
    | builtin b =>
      cases b <;> first | cases hc; done | skip
      simp only [evalOp, evCall, evCallee] at e
      split at e
      · unfold bi at e
        split at e <;> first | contradiction | skip
        split at e <;> first | (cases e; rfl) | skip
        · split at e <;> first | (cases e; rfl) | cases e
        all_goals cases e
      · cases e
    | value x => cases hc
    | invoke x m => cases hc
  | _ => cases hc
end
end Go.Ev
namespace Go.Ev
open Go

section
variable {E : Env} {P : Program} (H : EnvOk E P) {s : Sg} {h : AH} {w : World} {f : Operand → Option AV} {ρ : Operand → Value} {o : Oper} {r : Res}

include H in
theorem alloc_ok (hc : clsOf o.op = .alloc) (Hρ : ∀ x ∈ o.op.operands, ∀ a, f x = some a → R s a (ρ x)) (e : evalOp E f o.op h = some r) : NR s h w r ((execOp ρ o).run P w) := by
  rw [← evalOp_only] at e
  have Hρ' : ∀ x a, only o.op.operands f x = some a → R s a (ρ x) := by
    intro x a ha
    by_cases hx : x ∈ o.op.operands
    · exact Hρ x hx a (by simpa [only, hx] using ha)
    · simp [only, hx] at ha
  generalize only o.op.operands f = f' at e Hρ'
  cases ho : o.op with
  | alloc t => rw [ho] at e; exact op_alloc_new H ho e
  | box t x => rw [ho] at e; exact op_box_new H Hρ' ho e
  | buildSlice t n p => rw [ho] at e; exact op_buildSlice_new H Hρ' ho e
  | makeMap t x => rw [ho] at e; exact op_makeMap_new H Hρ' ho e
  | makeSlice t a b => rw [ho] at e; exact op_makeSlice_new H Hρ' ho e
  | call c =>
    rw [ho] at hc
    obtain ⟨ce, as, ts⟩ := c
    cases ce with
    | builtin b => cases b <;> cases hc
    | value x => cases hc
    | invoke x m => cases hc
  | _ => rw [ho] at hc; cases hc
end

theorem alloc_shape {E : Env} {f : Operand → Option AV} {op : Op} (hc : clsOf op = .alloc) {h : AH} {r : Res} (e : evalOp E f op h = some r) : ∃ v blk, r = .val v (h.new blk) := by
  have nr : ∀ {mk : Nat → AV} {blk : ABlk}, newRes h mk blk = some r → ∃ v blk, r = .val v (h.new blk) := fun e => ⟨_, _, newRes_some e⟩
  cases op with
  | alloc t => simp only [evalOp, evBox] at e; split at e; exact nr e; cases e
  | box t x => simp only [evalOp, evBox] at e; split at e; exact nr e; cases e
  | buildSlice t n p =>
    simp only [evalOp, evBuildSlice] at e
    split at e
    · split at e
      · have e := bif_some e
        split at e
        · split at e
          · exact nr e
          · cases e
        · cases e
      · cases e
    · cases e
  | makeMap t x =>
    simp only [evalOp, evMakeMap] at e
    split at e
    · exact nr e
    · split at e
      · exact nr e
      · cases e
    · cases e
  | makeSlice t a b =>
    simp only [evalOp, evMakeSlice] at e
    split at e
    · split at e
      · have e := bif_some e
        split at e
        · exact nr e
        · cases e
      · cases e
    · cases e
  | call c =>
    obtain ⟨ce, as, ts⟩ := c
    cases ce with
    | builtin b => cases b <;> cases hc
    | value x => cases hc
    | invoke x m => cases hc
  | _ => cases hc

/-! ### memory -/
theorem Tra.more {s : Sg} {h h' : AH} {w : World} (st : St s h w) (hs : ∀ i b, s i ≠ none → h'.get i = some b → h.get i = some b) (hn : h.next ≤ h'.next) :
    St s h' w ∧ Tra s h w s h' w := by
  have hs' : ∀ i b p, s i = some p → h'.get i = some b → h.get i = some b := fun i b p hp => hs i b (by rw [hp]; simp)
  refine ⟨⟨fun i b p h1 h2 => st.hr i b p (hs' i b p h2 h1) h2, fun i j bi bj p q h1 h2 h3 h4 => st.inj i j bi bj p q (hs' _ _ _ h3 h1) (hs' _ _ _ h4 h2) h3 h4, st.bound, fun i hi => st.fresh i (by omega), st.base, st.old, st.len⟩, ?_⟩
  refine ⟨Sg.le_refl s, fun _ h => .inl h, hn, Nat.le_refl _, fun _ _ _ => rfl, ?_, rfl, rfl, rfl, rfl⟩
  rintro b ⟨i, bb, p, h1, h2, h3⟩
  exact .inr ⟨i, bb, p, hs' _ _ _ h2 h1, h2, h3⟩

theorem Tra.ahead {s : Sg} {h : AH} {w : World} (st : St s h w) (blk : ABlk) : St s (h.new blk) w ∧ Tra s h w s (h.new blk) w :=
  Tra.more st (fun i b hi hg => by
    rcases AH.get_new h i blk b hg with ⟨rfl, _⟩ | ⟨_, k⟩
    · exact absurd (st.fresh _ (Nat.le_refl _)) hi
    · exact k) (by rw [AH.next_new]; omega)

theorem Tra.late {s0 s : Sg} {h0 h : AH} {w0 w : World} (st : St s h w) (tr : Tra s0 h0 w0 s h w) {id : Nat} {blk : ABlk} {ob : Obj} {e : Nat} (hs : s id = none) (h1 : h0.next ≤ id) (h2 : id < h.next)
    (hg : h.get id = some blk) (hb : BR (s.set id ⟨w.heap.size, 0, e⟩) blk ob ⟨w.heap.size, 0, e⟩) :
    St (s.set id ⟨w.heap.size, 0, e⟩) h (w.alloc ob) ∧ Tra s0 h0 w0 (s.set id ⟨w.heap.size, 0, e⟩) h (w.alloc ob) := by
  have hle := Sg.le_set s id ⟨w.heap.size, 0, e⟩ hs
  have hsz : (w.alloc ob).heap.size = w.heap.size + 1 := by show (w.heap.push ob).size = _; simp
  have hold : ∀ b, b < w.heap.size → (w.alloc ob).heap[b]? = w.heap[b]? := fun b hb => by
    show (w.heap.push ob)[b]? = _; rw [Array.getElem?_push, if_neg (Nat.ne_of_lt hb)]
  have hnew : (w.alloc ob).heap[w.heap.size]? = some ob := by show (w.heap.push ob)[w.heap.size]? = _; simp
  have hget : ∀ i p, s.set id ⟨w.heap.size, 0, e⟩ i = some p → (i = id ∧ p = ⟨w.heap.size, 0, e⟩) ∨ (i ≠ id ∧ s i = some p) := by
    intro i p h2
    by_cases hi : i = id
    · subst hi; rw [Sg.set_same] at h2; injection h2 with h2; exact .inl ⟨rfl, h2.symm⟩
    · rw [Sg.set_ne _ _ _ _ hi] at h2; exact .inr ⟨hi, h2⟩
  refine ⟨⟨?_, ?_, ?_, ?_, ?_, fun b hb => (hold b (Nat.lt_of_lt_of_le hb st.len)).trans (st.old b hb), by rw [hsz]; exact Nat.le_succ_of_le st.len⟩,
    ⟨Sg.le_trans tr.le hle, ?_, tr.nx, by have := tr.sz; omega, ?_, ?_, tr.os, tr.out, tr.tape, tr.w0⟩⟩
  · intro i b p k1 k2
    rcases hget i p k2 with ⟨rfl, rfl⟩ | ⟨hi, k3⟩
    · rw [hg] at k1; cases k1; exact ⟨ob, hnew, hb⟩
    · obtain ⟨ob', h3, h4⟩ := st.hr i b p k1 k3
      exact ⟨ob', by rw [hold _ (st.bound i p k3)]; exact h3, h4.mono hle⟩
  · intro i j bi bj p q k1 k2 k3 k4 k5
    rcases hget i p k3 with ⟨rfl, rfl⟩ | ⟨hi, k3⟩
    · rcases hget j q k4 with ⟨rfl, rfl⟩ | ⟨hj, k4⟩
      · rfl
      · have := st.bound j q k4; simp at k5; omega
    · rcases hget j q k4 with ⟨rfl, rfl⟩ | ⟨hj, k4'⟩
      · have := st.bound i p ‹_›; simp at k5; omega
      · exact st.inj i j bi bj p q k1 k2 ‹_› ‹_› k5
  · intro i p hp
    rcases hget i p hp with ⟨rfl, rfl⟩ | ⟨hi, k3⟩
    · simp [hsz]
    · have := st.bound i p k3; omega
  · intro i hi
    rw [Sg.set_ne _ _ _ _ (by omega)]; exact st.fresh i hi
  · intro i p hp
    rcases hget i p hp with ⟨rfl, rfl⟩ | ⟨hi, k3⟩
    · exact st.len
    · exact st.base i p k3
  · intro i hi
    by_cases hj : i = id
    · subst hj; exact .inr ⟨h1, h2⟩
    · rw [Sg.set_ne _ _ _ _ hj] at hi; exact tr.hi i hi
  · intro b hb hn
    rw [hold b (Nat.lt_of_lt_of_le hb tr.sz)]; exact tr.fr b hb hn
  · rintro b ⟨i, bb, p, k1, k2, k3⟩
    rcases hget i p k2 with ⟨rfl, rfl⟩ | ⟨hi, k4⟩
    · exact .inl (by have := tr.sz; simp at k3; omega)
    · exact tr.pv b ⟨i, bb, p, k1, k4, k3⟩

/-! ### temporaries -/
structure Pe where
  x : It
  f : Fr
  v : AV

def put1 (g : Nat → Option AV) (d : Option Tmp) (v : AV) : Nat → Option AV := fun t => if d = some t then some v else g t

def Chain (g : Nat → Option AV) : List Pe → Fr → Prop
  | [], f => ∀ t a, f.tmps.get t = some a → g t = some a
  | p :: l, f => (∀ t ∈ p.x.ns, ∀ a, p.f.tmps.get t = some a → g t = some a) ∧ Chain (put1 g p.x.o.dst p.v) l f

/-- nothing in common -/
def Ind (p q : It) : Prop := (∀ d, p.o.dst = some d → d ∉ q.ns) ∧ (∀ d, p.o.dst = some d → q.o.dst ≠ some d) ∧ ∀ d, q.o.dst = some d → d ∉ p.ns

theorem put1_ne {g : Nat → Option AV} {d : Option Tmp} {v : AV} {t : Nat} (h : d ≠ some t) : put1 g d v t = g t := by simp [put1, h]

theorem put1_comm {g : Nat → Option AV} {d e : Option Tmp} {v u : AV} (h : ∀ x, d = some x → e ≠ some x) : put1 (put1 g d v) e u = put1 (put1 g e u) d v := by
  funext t
  simp only [put1]
  by_cases h1 : e = some t
  · by_cases h2 : d = some t
    · exact absurd h1 (h t h2)
    · simp [h1, h2]
  · simp [h1]

theorem Fr.put_get {f f' : Fr} {d : Option Tmp} {v : AV} (h : f.put d v = some f') {t : Nat} {a : AV} (e : f'.tmps.get t = some a) : (d = some t ∧ a = v) ∨ (d ≠ some t ∧ f.tmps.get t = some a) := by
  cases d with
  | none => simp only [Fr.put] at h; cases h; exact .inr ⟨by simp, e⟩
  | some d =>
    cases f with
    | mk tr n =>
      simp only [Fr.put] at h
      have h := bif_some h
      cases h
      rcases Tr.get_set tr d t (some v) a e with ⟨rfl, k⟩ | ⟨hne, k⟩
      · cases k; exact .inl ⟨rfl, rfl⟩
      · exact .inr ⟨fun e => by cases e; exact hne rfl, k⟩

theorem Fr.put_n {f f' : Fr} {d : Option Tmp} {v : AV} (h : f.put d v = some f') : f'.n = f.n ∧ ∀ t, d = some t → t < f.n := by
  cases d with
  | none => simp only [Fr.put] at h; cases h; exact ⟨rfl, by simp⟩
  | some d =>
    cases f with
    | mk tr n =>
      simp only [Fr.put] at h
      cases hb : Nat.blt d n with
      | false => rw [hb] at h; cases h
      | true =>
        rw [hb] at h; cases h
        exact ⟨rfl, fun t e => by cases e; simpa [Nat.blt_eq] using hb⟩

theorem put_step {g : Nat → Option AV} {f f' : Fr} {d : Option Tmp} {v : AV} (hp : f.put d v = some f') (h : ∀ t a, f.tmps.get t = some a → g t = some a) :
    ∀ t a, f'.tmps.get t = some a → put1 g d v t = some a := by
  intro t a e
  rcases Fr.put_get hp e with ⟨k1, k2⟩ | ⟨k1, k2⟩
  · simp [put1, k1, k2]
  · rw [put1_ne k1]; exact h t a k2

theorem Chain.push : ∀ {l : List Pe} {g : Nat → Option AV} {f f' : Fr} {x : It} {v : AV}, Chain g l f → f.put x.o.dst v = some f' → Chain g (l ++ [⟨x, f, v⟩]) f'
  | [], g, f, f', x, v, c, h => ⟨fun t _ a e => c t a e, put_step h c⟩
  | p :: l, g, f, f', x, v, c, h => ⟨c.1, Chain.push c.2 h⟩

theorem Chain.pull : ∀ {pre : List Pe} {g : Nat → Option AV} {f : Fr} {p : Pe} {post : List Pe}, Chain g (pre ++ p :: post) f → (∀ q ∈ pre, Ind q.x p.x) →
    (∀ t ∈ p.x.ns, ∀ a, p.f.tmps.get t = some a → g t = some a) ∧ Chain (put1 g p.x.o.dst p.v) (pre ++ post) f
  | [], g, f, p, post, c, _ => c
  | q :: pre, g, f, p, post, c, hi => by
    obtain ⟨k1, k2⟩ := Chain.pull (pre := pre) c.2 (fun q hq => hi q (List.mem_cons_of_mem _ hq))
    obtain ⟨i1, i2, i3⟩ := hi q List.mem_cons_self
    refine ⟨fun t ht a e => ?_, ?_, ?_⟩
    · have := k1 t ht a e
      rw [put1_ne (fun e => i1 t e ht)] at this; exact this
    · intro t ht a e
      rw [put1_ne (fun e => i3 t e ht)]; exact c.1 t ht a e
    · rw [put1_comm (fun x hx hq => i2 x hq hx)]; exact k2

theorem Chain.loud : ∀ {l : List Pe} {g : Nat → Option AV} {f f' : Fr} {x : It} {v : AV}, Chain g l f → (∀ q ∈ l, Ind q.x x) → f.put x.o.dst v = some f' →
    (∀ t ∈ x.ns, ∀ a, f.tmps.get t = some a → g t = some a) ∧ Chain (put1 g x.o.dst v) l f'
  | [], g, f, f', x, v, c, _, h => ⟨fun t _ a e => c t a e, put_step h c⟩
  | q :: l, g, f, f', x, v, c, hi, h => by
    obtain ⟨k1, k2⟩ := Chain.loud (l := l) c.2 (fun q hq => hi q (List.mem_cons_of_mem _ hq)) h
    obtain ⟨i1, i2, i3⟩ := hi q List.mem_cons_self
    refine ⟨fun t ht a e => ?_, ?_, ?_⟩
    · have := k1 t ht a e
      rw [put1_ne (fun e => i1 t e ht)] at this; exact this
    · intro t ht a e
      rw [put1_ne (fun e => i3 t e ht)]; exact c.1 t ht a e
    · rw [put1_comm (fun x hx hq => i2 x hq hx)]; exact k2

theorem memN_eq : ∀ (l : List Nat) (x : Nat), memN x l = true ↔ x ∈ l
  | [], x => by simp [memN]
  | y :: l, x => by
    simp only [memN, Bool.or_eq_true, List.mem_cons, memN_eq l x]
    exact or_congr ⟨fun h => Nat.eq_of_beq_eq_true h, fun h => by rw [h]; exact Nat.beq_refl y⟩ Iff.rfl

theorem apart_ind {x y : It} (h : Ev.apart x y = true) : Ind x y := by
  unfold Ev.apart at h
  simp only [Bool.and_eq_true, Bool.not_eq_true'] at h
  obtain ⟨⟨h1, h2⟩, h3⟩ := h
  refine ⟨fun d hd hm => ?_, fun d hd he => ?_, fun d hd hm => ?_⟩
  · simp only [hits, hd] at h1
    rw [(memN_eq _ _).2 hm] at h1; cases h1
  · simp only [same, hd, he, Nat.beq_refl] at h2; cases h2
  · simp only [hits, hd] at h3
    rw [(memN_eq _ _).2 hm] at h3; cases h3
end Go.Ev
namespace Go.Ev
open Go

/-! ### the plan of a row -/
theorem maskOf_ok : ∀ (acc : List Nat) (i : Nat) (l : List Edge) (m : Nat), maskOf acc i l = some m →
    (∀ e ∈ l, Region.binds .any e = true → e.on < acc.length) ∧ ∀ b, m.testBit b = true → ∃ e ∈ l, Region.binds .any e = true ∧ (b = e.on ∨ ∃ k, acc[e.on]? = some k ∧ k.testBit b = true)
  | acc, i, [], m, e => by
    simp only [maskOf] at e; cases e
    exact ⟨by simp, by simp⟩
  | acc, i, x :: l, m, e => by
    simp only [maskOf] at e
    cases hb : Region.binds .any x with
    | false =>
      rw [hb] at e; simp only [cond_false] at e
      obtain ⟨h1, h2⟩ := maskOf_ok acc i l m e
      refine ⟨fun y hy hyb => ?_, fun b hm => ?_⟩
      · rcases List.mem_cons.1 hy with rfl | hy
        · rw [hb] at hyb; cases hyb
        · exact h1 y hy hyb
      · obtain ⟨y, hy, hyb, h⟩ := h2 b hm
        exact ⟨y, List.mem_cons_of_mem _ hy, hyb, h⟩
    | true =>
      rw [hb] at e; simp only [cond_true, slot_eq] at e
      split at e
      · rename_i m1 r h1 h2
        cases e
        obtain ⟨k1, k2⟩ := maskOf_ok acc i l r h2
        refine ⟨fun y hy hyb => ?_, fun b hm => ?_⟩
        · rcases List.mem_cons.1 hy with rfl | hy
          · exact (List.getElem?_eq_some_iff.1 h1).1
          · exact k1 y hy hyb
        · rw [Nat.testBit_or, Nat.testBit_or, Bool.or_eq_true, Bool.or_eq_true] at hm
          rcases hm with (hm | hm) | hm
          · obtain ⟨y, hy, hyb, h⟩ := k2 b hm
            exact ⟨y, List.mem_cons_of_mem _ hy, hyb, h⟩
          · rw [Nat.testBit_two_pow] at hm
            exact ⟨x, List.mem_cons_self, hb, .inl (by simpa [eq_comm] using hm)⟩
          · exact ⟨x, List.mem_cons_self, hb, .inr ⟨m1, h1, hm⟩⟩
      · cases e

def ItOk (ops : Array Oper) (ms : List Nat) (x : It) : Prop :=
  ops[x.i]? = some x.o ∧ x.ns = opTmps ops x.o ∧ ms[x.i]? = some x.m ∧ (∀ e ∈ x.o.after, Region.binds .any e = true → e.on < x.i) ∧
    ∀ b, x.m.testBit b = true → ∃ e ∈ x.o.after, Region.binds .any e = true ∧ (b = e.on ∨ ∃ k, ms[e.on]? = some k ∧ k.testBit b = true)

theorem masks_ok (ops : Array Oper) : ∀ (l : List Oper) (i : Nat) (acc : List Nat) (r : List It), masks ops l i acc = some r → acc.length = i → (∀ j, l[j]? = ops[i + j]?) →
    (∀ x ∈ r, ItOk ops (acc ++ r.map (·.m)) x) ∧ ∀ j, j < l.length → ∃ x ∈ r, x.i = i + j
  | [], i, acc, r, e, ha, hl => by
    simp only [masks] at e; cases e
    exact ⟨by simp, by simp⟩
  | o :: l, i, acc, r, e, ha, hl => by
    simp only [masks] at e
    split at e
    · rename_i m hm
      split at e
      · rename_i r1 hr
        cases e
        obtain ⟨k1, k2⟩ := masks_ok ops l (i + 1) (acc ++ [m]) r1 hr (by simp [ha]) (fun j => by
          have := hl (j + 1); simp only [List.getElem?_cons_succ] at this; rw [this]; congr 1; omega)
        obtain ⟨m1, m2⟩ := maskOf_ok _ _ _ _ hm
        have hlist : acc ++ ((⟨i, o, m, opTmps ops o⟩ : It) :: r1).map (·.m) = acc ++ [m] ++ r1.map (·.m) := by simp
        refine ⟨fun x hx => ?_, fun j hj => ?_⟩
        · rw [hlist]
          rcases List.mem_cons.1 hx with rfl | hx
          · refine ⟨?_, rfl, ?_, fun e he hb => ?_, fun b hb => ?_⟩
            · have := hl 0; simp only [List.getElem?_cons_zero, Nat.add_zero] at this; exact this.symm
            · simp [← ha]
            · have := m1 e (by simpa using he) hb
              show e.on < i
              omega
            · obtain ⟨e, he, hbd, hor⟩ := m2 b hb
              refine ⟨e, by simpa using he, hbd, hor.imp id ?_⟩
              rintro ⟨k, h1, h2⟩
              refine ⟨k, ?_, h2⟩
              have := (List.getElem?_eq_some_iff.1 h1).1
              rw [List.append_assoc, List.getElem?_append_left this]; exact h1
          · exact k1 x hx
        · cases j with
          | zero => exact ⟨_, List.mem_cons_self, rfl⟩
          | succ j =>
            obtain ⟨x, hx, hxi⟩ := k2 j (by simpa using hj)
            exact ⟨x, List.mem_cons_of_mem _ hx, by rw [hxi]; omega⟩
      · cases e
    · cases e

theorem ordered_mem : ∀ (nl ls : List It) (x : It), x ∈ ordered nl ls ↔ x ∈ nl ∨ x ∈ ls
  | nl, [], x => by simp [ordered]
  | nl, l :: ls, x => by
    simp only [ordered, List.mem_append, List.mem_cons, ordered_mem _ ls x, List.mem_filter]
    constructor
    · rintro (⟨h, _⟩ | rfl | ⟨h, _⟩ | h)
      · exact .inl h
      · exact .inr (.inl rfl)
      · exact .inl h
      · exact .inr (.inr h)
    · rintro (h | rfl | h)
      · cases hb : x.m.testBit l.i with
        | true => exact .inr (.inr (.inl ⟨h, rfl⟩))
        | false => exact .inl ⟨h, by simp⟩
      · exact .inr (.inl rfl)
      · exact .inr (.inr (.inr h))

theorem plan_ok {ops : Array Oper} {l : List It} (e : plan ops = some l) : ∃ ms, (∀ x ∈ l, ItOk ops ms x) ∧ (∀ i, i < ops.size → ∃ x ∈ l, x.i = i) ∧ chk l [] 0 0 = true := by
  unfold plan at e
  split at e
  · rename_i r hr
    obtain ⟨k1, k2⟩ := masks_ok ops _ _ _ _ hr rfl (fun j => by simp)
    have hmem : ∀ x, x ∈ ordered (r.filter fun x => !isLoud x) (r.filter isLoud) ↔ x ∈ r := by
      intro x
      rw [ordered_mem, List.mem_filter, List.mem_filter]
      constructor
      · rintro (h | h) <;> exact h.1
      · intro h
        cases hb : isLoud x with
        | true => exact .inr ⟨h, rfl⟩
        | false => exact .inl ⟨h, by simp⟩
    generalize ordered (r.filter fun x => !isLoud x) (r.filter isLoud) = q at e hmem
    have e : (bif (chk q [] 0 0 && Nat.beq q.length ops.size) then some q else none) = some l := e
    cases hc : (chk q [] 0 0 && Nat.beq q.length ops.size) with
    | false => rw [hc] at e; simp at e
    | true =>
      rw [hc] at e; simp only [cond_true] at e; cases e
      rw [Bool.and_eq_true] at hc
      refine ⟨_, fun x hx => k1 x ((hmem x).1 hx), fun i hi => ?_, hc.1⟩
      obtain ⟨x, hx, hxi⟩ := k2 i (by simpa using hi)
      exact ⟨x, (hmem x).2 hx, by simpa using hxi⟩
  · cases e

theorem and_sub {m D : Nat} (h : Nat.beq (m &&& D) m = true) : ∀ b, m.testBit b = true → D.testBit b = true := by
  intro b hb
  rw [← Nat.eq_of_beq_eq_true h, Nat.testBit_and, Bool.and_eq_true] at hb
  exact hb.2
theorem and_sub' {m L : Nat} (h : Nat.beq (m &&& L) L = true) : ∀ b, L.testBit b = true → m.testBit b = true := by
  intro b hb
  rw [← Nat.eq_of_beq_eq_true h, Nat.testBit_and, Bool.and_eq_true] at hb
  exact hb.1

theorem chk_cons {x : It} {l done : List It} {D L : Nat} (h : chk (x :: l) done D L = true) :
    (∀ b, L.testBit b = true → x.m.testBit b = true) ∧ D.testBit x.i = false ∧ (∀ y ∈ done, x.m.testBit y.i = true ∨ Ind y x) ∧
      chk l (x :: done) (D ||| 2 ^ x.i) (bif isLoud x then L ||| 2 ^ x.i else L) = true := by
  simp only [chk, Bool.and_eq_true, Bool.not_eq_true'] at h
  obtain ⟨⟨⟨⟨h1, h2⟩, h3⟩, h4⟩, h5⟩ := h
  refine ⟨and_sub' h2, h3, fun y hy => ?_, h5⟩
  have := List.all_eq_true.1 h4 y hy
  rw [Bool.or_eq_true] at this
  exact this.imp id apart_ind

theorem chk_loud : ∀ (l done : List It) (D L : Nat), chk l done D L = true → ∀ y ∈ l, ∀ b, L.testBit b = true → y.m.testBit b = true
  | [], _, _, _, _, y, hy, _, _ => by simp at hy
  | x :: l, done, D, L, h, y, hy, b, hb => by
    obtain ⟨h1, h2, h3, h4⟩ := chk_cons h
    rcases List.mem_cons.1 hy with rfl | hy
    · exact h1 b hb
    · refine chk_loud l _ _ _ h4 y hy b ?_
      cases isLoud x with
      | false => exact hb
      | true => simp only [cond_true, Nat.testBit_or, hb, Bool.true_or]
end Go.Ev
namespace Go.Ev
open Go

def inD (d : Dr) (x : Float) : Prop := x ∈ d.fresh ∨ x ∈ d.old

/-- what is done in thought and not yet in deed -/
def PeOk (E : Env) (ops : Array Oper) (h0 : AH) (N : Nat) (d : Dr) (s : Sg) (p : Pe) : Prop :=
  (∀ t, p.x.o.dst = some t → t < N) ∧
  ((wantedA p.x.o ops p.f = some false ∧ p.v = nothing) ∨ (wantedA p.x.o ops p.f = some true ∧
    ((clsOf p.x.o.op = .pure ∧ ∃ h, evalOp E (rho p.f) p.x.o.op h = some (.val p.v h)) ∨
     (clsOf p.x.o.op = .mem ∧ inD d ⟨p.x.i, p.x.o, p.f, p.v⟩) ∨
     (clsOf p.x.o.op = .alloc ∧ ∃ h h' b, evalOp E (rho p.f) p.x.o.op h = some (.val p.v h') ∧ h'.get h.next = some b ∧ (⟨p.x.i, h.next, b⟩ : Al) ∈ d.als ∧ s h.next = none ∧
        h0.next ≤ h.next ∧ h.next < d.h.next))))

structure Inv (E : Env) (ops : Array Oper) (ms : List Nat) (all : List It) (s0 : Sg) (h0 : AH) (w0 : World) (N : Nat)
    (X : Nat → Prop) (done : List It) (D : Nat) (pool : List Pe) (f : Fr) (d : Dr) (s : Sg) (w : World) (tmps : Array Value) : Prop where
  xd : ∀ i, X i → D.testBit i = true
  dd : ∀ x ∈ done, D.testBit x.i = true
  closed : ∀ j, X j → ∀ k b, ms[j]? = some k → k.testBit b = true → X b
  dn : ∀ x ∈ done, X x.i ∨ ∃ p ∈ pool, p.x = x
  pin : ∀ p ∈ pool, p.x ∈ done ∧ p.x ∈ all ∧ ¬ X p.x.i ∧ PeOk E ops h0 N d s p
  pw : pool.Pairwise (fun p q => (q.x.m.testBit p.x.i = true ∨ Ind p.x q.x) ∧ p.x.i ≠ q.x.i)
  g : ∃ g, Chain g pool f ∧ ∀ t a, g t = some a → ∃ v, tmps[t]? = some v ∧ R s a v
  sz : tmps.size = N
  fn : f.n = N
  st : St s d.h w
  tr : Tra s0 h0 w0 s d.h w
  fresh : ∀ fl ∈ d.fresh, evalOp E (rho fl.f) fl.o.op d.h = some (.val fl.v d.h)
  ali : ∀ a ∈ d.als, a.id < d.h.next
  ald : ∀ a ∈ d.als, ∀ b ∈ d.als, a.i ≠ b.i → a.id ≠ b.id

section
variable {E : Env} {P : Program} (H : EnvOk E P) {run : Rec} (S : Sound P run)
variable {ops : Array Oper} {ms : List Nat} {all : List It} (hit : ∀ x ∈ all, ItOk ops ms x) (hall : ∀ i, i < ops.size → ∃ x ∈ all, x.i = i)
variable {s0 : Sg} {h0 : AH} {w0 : World} {N : Nat} {fn : FuncId} {tl : List Item} {ds : List ADef} {r : Option Nat} {kind : CallKind} {cs : List Frame}

theorem FrOk.fin {s : Sg} {i : Nat} {rest : List Nat} {fr : Frame} (F : FrOk s fn ⟨.leaf, N⟩ (.inRegion ops (i :: rest) :: tl) ds r kind fr) {o : Oper} (ho : ops[i]? = some o) (v : Value) :
    FrOk s fn ⟨.leaf, N⟩ (.inRegion ops rest :: tl) ds r kind (fr.finish v) ∧ (fr.finish v).tmps = match o.dst with | some d => fr.tmps.setIfInBounds d v | none => fr.tmps := by
  obtain ⟨h1, h2, h3, h4, h5, h6, h7⟩ := F
  have hf : fr.finish v = { fr with tmps := match o.dst with | some d => fr.tmps.setIfInBounds d v | none => fr.tmps, todo := .inRegion ops rest :: tl } := by
    simp [Frame.finish, h3, ho]; rfl
  rw [hf]
  refine ⟨⟨h1, ⟨?_, fun i a e => by rw [Tr.get_leaf] at e; cases e⟩, rfl, h4, h5, h6, ?_⟩, rfl⟩
  · have := h2.1
    cases o.dst <;> simpa using this
  · unfold RoundOk at h7 ⊢
    cases r <;> exact h7

theorem tmps_put {s : Sg} {g : Nat → Option AV} {tmps : Array Value} (hg : ∀ t a, g t = some a → ∃ v, tmps[t]? = some v ∧ R s a v) {dst : Option Tmp} (hd : ∀ t, dst = some t → t < tmps.size) {a : AV} {v : Value} (h : R s a v) :
    ∀ t b, put1 g dst a t = some b → ∃ u, (match dst with | some d => tmps.setIfInBounds d v | none => tmps)[t]? = some u ∧ R s b u := by
  intro t b e
  cases hdst : dst with
  | none => rw [hdst] at e; exact hg t b (by simpa [put1] using e)
  | some d =>
    rw [hdst] at e
    have hlt := hd d hdst
    by_cases hdt : d = t
    · subst hdt
      simp only [put1, if_true] at e; cases e
      exact ⟨v, by simp [Array.getElem?_setIfInBounds, hlt], h⟩
    · obtain ⟨u, h1, h2⟩ := hg t b (by simpa [put1, hdt] using e)
      exact ⟨u, by simp only; rw [Array.getElem?_setIfInBounds_ne hdt]; exact h1, h2⟩

theorem wanted_ok' {s : Sg} {f : Fr} {tmps : Array Value} {o : Oper} {ops : Array Oper} (k : ∀ t ∈ opTmps ops o, ∀ a, f.tmps.get t = some a → ∃ v, tmps[t]? = some v ∧ R s a v) {b : Bool}
    (e : wantedA o ops f = some b) : Region.wanted o (yielded ops tmps) = b := by
  unfold wantedA at e
  unfold Region.wanted
  split at e
  · rename_i hg; cases e; simp [hg]
  · rename_i j want hg
    split at e
    · rename_i p hp
      split at e
      · rename_i d hd
        have hin : d ∈ opTmps ops o := by
          unfold opTmps
          refine List.mem_append_right _ ?_
          rw [hg]; simp [hp, hd]
        have hy : yielded ops tmps j = match tmps[d]? with | some (.bool b) => some b | _ => none := by
          unfold yielded; rw [hp]; simp [hd]; rfl
        split at e
        · rename_i b' hb
          cases e
          obtain ⟨v, h1, h2⟩ := k d hin _ hb
          rw [h2.bool_inv] at h1
          simp [hg, hy, h1]
        · rename_i l hb
          cases e
          obtain ⟨v, h1, h2⟩ := k d hin _ hb
          simp only [R] at h2
          obtain ⟨xs, rfl, _⟩ := h2
          simp [hg, hy, h1]
        · cases e
      · cases e
    · cases e

theorem operands_ok {s : Sg} {f : Fr} {fr : Frame} {o : Oper} (k : ∀ t ∈ opTmps ops o, ∀ a, f.tmps.get t = some a → ∃ v, fr.tmps[t]? = some v ∧ R s a v) :
    ∀ y ∈ o.op.operands, ∀ a, rho f y = some a → R s a (fr.eval y) := by
  intro y hy a e
  cases y with
  | tmp t =>
    have hin : t ∈ opTmps ops o := by
      unfold opTmps
      exact List.mem_append_left _ (List.mem_filterMap.2 ⟨.tmp t, by simpa using hy, rfl⟩)
    cases f with
    | mk ts n =>
      obtain ⟨v, h1, h2⟩ := k t hin a e
      simp only [Frame.eval, Array.getD_eq_getD_getElem?, h1, Option.getD_some]; exact h2
  | const v => exact ofValue_R s v a e
  | global g => simp [Ev.rho] at e
  | func g => simp only [Ev.rho] at e; cases e; simp only [Frame.eval, R]; exact ⟨[], [], rfl, Rs.nil, Rs.nil⟩

variable {X : Nat → Prop} {done : List It} {D : Nat} {pool : List Pe} {f : Fr} {d : Dr} {s : Sg} {w : World} {fr : Frame} {rest : List Nat}

include hit in
theorem bits_done (I : Inv E ops ms all s0 h0 w0 N X done D pool f d s w fr.tmps) {x : It} (hx : x ∈ all) (hs : Sched ops X (x.i :: rest)) : ∀ b, x.m.testBit b = true → X b := by
  obtain ⟨h1, h2, h3, h4, h5⟩ := hit x hx
  obtain ⟨k1, ⟨o, k2, k3⟩, k4⟩ := hs
  rw [h1] at k2; cases k2
  intro b hb
  obtain ⟨e, he, hbd, hor⟩ := h5 b hb
  have hon := k3 e he hbd
  rcases hor with rfl | ⟨k, q1, q2⟩
  · exact hon
  · exact I.closed _ hon k b q1 q2

include H in
/-- one pending operation is done -/
theorem pend_core (st : St s d.h w) (tr : Tra s0 h0 w0 s d.h w) (hfresh : ∀ fl ∈ d.fresh, evalOp E (rho fl.f) fl.o.op d.h = some (.val fl.v d.h))
    (ald : ∀ a ∈ d.als, ∀ b ∈ d.als, a.i ≠ b.i → a.id ≠ b.id) (hst : stageOk E d = true) {p : Pe} (hp : PeOk E ops h0 N d s p)
    (k : ∀ t ∈ opTmps ops p.x.o, ∀ a, p.f.tmps.get t = some a → ∃ v, fr.tmps[t]? = some v ∧ R s a v)
    (ho : ops[p.x.i]? = some p.x.o) (F : FrOk s fn ⟨.leaf, N⟩ (.inRegion ops (p.x.i :: rest) :: tl) ds r kind fr) :
    ∃ s' w' v', step P (lone fr cs w) = .next (lone (fr.finish v') cs w') ∧ R s' p.v v' ∧ s.le s' ∧ St s' d.h w' ∧ Tra s0 h0 w0 s' d.h w' ∧
      ∀ a ∈ d.als, a.i ≠ p.x.i → a.id < d.h.next → s a.id = none → s' a.id = none := by
  obtain ⟨hN, hk⟩ := hp
  rcases hk with ⟨hw, hv⟩ | ⟨hw, hk⟩
  · refine ⟨s, w, undef, st_op_skip F.mode F.todo ho (wanted_ok' k hw), by rw [hv]; exact nothing_R s, Sg.le_refl s, st, tr, fun a _ _ _ h => h⟩
  · have hwt := wanted_ok' k hw
    have Hρ := operands_ok k
    have common : (∀ c, p.x.o.op ≠ .defer c) → evalOp E (rho p.f) p.x.o.op d.h = some (.val p.v d.h) →
        ∃ s' w' v', step P (lone fr cs w) = .next (lone (fr.finish v') cs w') ∧ R s' p.v v' ∧ s.le s' ∧ St s' d.h w' ∧ Tra s0 h0 w0 s' d.h w' ∧
          ∀ a ∈ d.als, a.i ≠ p.x.i → a.id < d.h.next → s a.id = none → s' a.id = none := by
      intro hd hev
      obtain ⟨s', w', v', q1, q2, q3, q4⟩ := op_ok' H st Hρ hev
      refine ⟨s', w', v', st_op_value F.mode F.todo ho hwt (.inr hd) q1, q2, q4.le, q3, tr.trans q4, fun a _ _ hlt hn => ?_⟩
      cases hq : s' a.id with
      | none => rfl
      | some pl =>
        rcases q4.hi a.id (by rw [hq]; simp) with z | ⟨z1, z2⟩
        · exact absurd hn z
        · omega
    rcases hk with ⟨hc, h, hev⟩ | ⟨hc, hin⟩ | ⟨hc, h, h', b, hev, hb, hal, hsn, h1, h2⟩
    · refine common (fun c e => by rw [e] at hc; cases hc) ?_
      obtain ⟨v, e, hB⟩ := pure_ok E (rho p.f) hc hev
      cases e; exact hB _
    · refine common (fun c e => by rw [e] at hc; cases hc) ?_
      rcases hin with hin | hin
      · exact hfresh _ hin
      · unfold stageOk at hst
        rw [Bool.and_eq_true] at hst
        have := List.all_eq_true.1 hst.1 _ hin
        unfold agrees at this
        split at this
        · rename_i u h' hu
          rw [Bool.and_eq_true] at this
          have e1 := AV.beq_eq _ _ this.1
          have e2 := Nat.eq_of_beq_eq_true this.2
          simp only at hu e1
          have e3 := mem_ok E (rho p.f) hc hu e2
          rw [e1, e3] at hu; exact hu
        · cases this
    · have hn := alloc_ok H hc (w := w) Hρ hev
      obtain ⟨mk, blk, ob, ex, v', e1, e2, e3, e4⟩ := hn
      injection e1 with e1 e1'
      subst e1'
      have hblk : b = blk := by
        rcases AH.get_new h h.next blk b hb with ⟨_, k⟩ | ⟨k, _⟩
        · exact k
        · exact absurd rfl k
      subst hblk
      unfold stageOk at hst
      rw [Bool.and_eq_true] at hst
      have hget := List.all_eq_true.1 hst.2 _ hal
      unfold alOk at hget
      simp only at hget
      split at hget
      · rename_i b' hb'
        have := ABlk.beq_eq _ _ hget
        subst this
        have hle := Sg.le_set s h.next ⟨w.heap.size, 0, ex⟩ hsn
        obtain ⟨st', tr'⟩ := Tra.late st tr (ob := ob) (e := ex) hsn h1 h2 hb' (e3 _ hle)
        refine ⟨_, _, v', st_op_value F.mode F.todo ho hwt (.inr (fun c e => by rw [e] at hc; cases hc)) e2, by rw [e1]; exact e4 _ _ (Sg.set_same _ _ _), hle, st', tr', fun a ha hai _ hsa => ?_⟩
        have hne := ald a ha _ hal hai
        rw [Sg.set_ne _ _ _ _ hne]; exact hsa
      · cases hget

theorem PeOk.step {s' : Sg} {p q : Pe} (hq : PeOk E ops h0 N d s q) (hne : q.x.i ≠ p.x.i) (hs : ∀ a ∈ d.als, a.i ≠ p.x.i → a.id < d.h.next → s a.id = none → s' a.id = none) : PeOk E ops h0 N d s' q := by
  obtain ⟨h1, h2⟩ := hq
  refine ⟨h1, h2.imp id fun ⟨h3, h4⟩ => ⟨h3, h4.imp id fun h5 => h5.imp id ?_⟩⟩
  rintro ⟨hc, h, h', b, hev, hb, hal, hsn, k1, k2⟩
  exact ⟨hc, h, h', b, hev, hb, hal, hs _ hal hne k2 hsn, k1, k2⟩

include H hit in
theorem exec_one (I : Inv E ops ms all s0 h0 w0 N X done D pool f d s w fr.tmps) (hst : stageOk E d = true) {p : Pe} (hp : p ∈ pool) (hs : Sched ops X (p.x.i :: rest))
    (F : FrOk s fn ⟨.leaf, N⟩ (.inRegion ops (p.x.i :: rest) :: tl) ds r kind fr) :
    ∃ s' w' fr' pool', Steps P (lone fr cs w) (lone fr' cs w') ∧ Inv E ops ms all s0 h0 w0 N (fun j => X j ∨ j = p.x.i) done D pool' f d s' w' fr'.tmps ∧
      FrOk s' fn ⟨.leaf, N⟩ (.inRegion ops rest :: tl) ds r kind fr' := by
  obtain ⟨hpd, hpa, hpX, hpk⟩ := I.pin p hp
  have hbits := bits_done hit I hpa hs
  obtain ⟨ho, hns, hmi, -, -⟩ := hit p.x hpa
  obtain ⟨pre, post, rfl⟩ := List.append_of_mem hp
  have hpw := I.pw
  rw [List.pairwise_append] at hpw
  obtain ⟨pw1, pw2, pw3⟩ := hpw
  rw [List.pairwise_cons] at pw2
  have hind : ∀ q ∈ pre, Ind q.x p.x := by
    intro q hq
    rcases (pw3 q hq p List.mem_cons_self).1 with k | k
    · exact absurd (hbits _ k) (I.pin q (List.mem_append_left _ hq)).2.2.1
    · exact k
  obtain ⟨g, hch, hg⟩ := I.g
  obtain ⟨k1, k2⟩ := Chain.pull hch hind
  rw [hns] at k1
  obtain ⟨s', w', v', hstep, hR, hle, st', tr', hals⟩ := pend_core (cs := cs) H I.st I.tr I.fresh I.ald hst hpk (fun t ht a e => hg t a (k1 t ht a e)) ho F
  obtain ⟨F', htm⟩ := (F.mono hle).fin ho v'
  have hmem : ∀ q, q ∈ pre ++ post → q ∈ pre ++ p :: post := by
    intro q hq
    rcases List.mem_append.1 hq with h | h
    · exact List.mem_append_left _ h
    · exact List.mem_append_right _ (List.mem_cons_of_mem _ h)
  have hne : ∀ q ∈ pre ++ post, q.x.i ≠ p.x.i := by
    intro q hq
    rcases List.mem_append.1 hq with h | h
    · exact (pw3 q h p List.mem_cons_self).2
    · exact fun e => (pw2.1 q h).2 e.symm
  refine ⟨s', w', fr.finish v', pre ++ post, .one hstep, ?_, F'⟩
  refine ⟨?_, I.dd, ?_, ?_, ?_, ?_, ⟨put1 g p.x.o.dst p.v, k2, ?_⟩, ?_, I.fn, st', tr', I.fresh, I.ali, I.ald⟩
  · rintro i (h | rfl)
    · exact I.xd i h
    · exact I.dd _ hpd
  · rintro j (h | rfl) k b hk hb
    · exact .inl (I.closed j h k b hk hb)
    · rw [hmi] at hk; cases hk; exact .inl (hbits b hb)
  · intro x hx
    rcases I.dn x hx with h | ⟨q, hq, rfl⟩
    · exact .inl (.inl h)
    · rcases List.mem_append.1 hq with h | h
      · exact .inr ⟨q, List.mem_append_left _ h, rfl⟩
      · rcases List.mem_cons.1 h with rfl | h
        · exact .inl (.inr rfl)
        · exact .inr ⟨q, List.mem_append_right _ h, rfl⟩
  · intro q hq
    obtain ⟨q1, q2, q3, q4⟩ := I.pin q (hmem q hq)
    refine ⟨q1, q2, ?_, q4.step (hne q hq) hals⟩
    rintro (h | h)
    · exact q3 h
    · exact hne q hq h
  · rw [List.pairwise_append]
    exact ⟨pw1, pw2.2, fun a ha b hb => pw3 a ha b (List.mem_cons_of_mem _ hb)⟩
  · rw [htm]
    exact tmps_put (fun t a e => let ⟨v, h1, h2⟩ := hg t a e; ⟨v, h1, R.mono hle _ _ h2⟩) (fun t ht => by rw [I.sz]; exact hpk.1 t ht) hR
  · rw [htm]; have := I.sz; cases p.x.o.dst <;> simpa using this

include H hit in
/-- what may be done of what is pending -/
theorem exec_pool (hst : stageOk E d = true) : ∀ (rest : List Nat) (X : Nat → Prop) (pool : List Pe) (s : Sg) (w : World) (fr : Frame), Inv E ops ms all s0 h0 w0 N X done D pool f d s w fr.tmps → Sched ops X rest →
    FrOk s fn ⟨.leaf, N⟩ (.inRegion ops rest :: tl) ds r kind fr →
    ∃ X' pool' s' w' fr' rest', Steps P (lone fr cs w) (lone fr' cs w') ∧ Inv E ops ms all s0 h0 w0 N X' done D pool' f d s' w' fr'.tmps ∧ Sched ops X' rest' ∧
      FrOk s' fn ⟨.leaf, N⟩ (.inRegion ops rest' :: tl) ds r kind fr' ∧ (rest' = [] ∨ ∃ i l, rest' = i :: l ∧ ∀ p ∈ pool', p.x.i ≠ i)
  | [], X, pool, s, w, fr, I, hs, F => ⟨X, pool, s, w, fr, [], .refl P _, I, hs, F, .inl rfl⟩
  | i :: rest, X, pool, s, w, fr, I, hs, F => by
    by_cases h : ∃ p ∈ pool, p.x.i = i
    · obtain ⟨p, hp, rfl⟩ := h
      obtain ⟨s', w', fr', pool', k1, k2, k3⟩ := exec_one (cs := cs) H hit I hst hp hs F
      obtain ⟨X2, pool2, s2, w2, fr2, rest2, q1, q2⟩ := exec_pool hst rest _ pool' s' w' fr' k2 hs.2.2 k3
      exact ⟨X2, pool2, s2, w2, fr2, rest2, k1.trans q1, q2⟩
    · exact ⟨X, pool, s, w, fr, i :: rest, .refl P _, I, hs, F, .inr ⟨i, rest, rfl, fun p hp e => h ⟨p, hp, e⟩⟩⟩
end
end Go.Ev
namespace Go.Ev
open Go

section
variable {E : Env} {P : Program} (H : EnvOk E P) {run : Rec} (S : Sound P run)
variable {ops : Array Oper} {ms : List Nat} {all : List It} (hit : ∀ x ∈ all, ItOk ops ms x) (hall : ∀ i, i < ops.size → ∃ x ∈ all, x.i = i)
variable {s0 : Sg} {h0 : AH} {w0 : World} {N : Nat} {fn : FuncId} {tl : List Item} {ds : List ADef} {r : Option Nat} {kind : CallKind} {cs : List Frame}
variable {X : Nat → Prop} {done : List It} {D : Nat} {pool : List Pe} {f : Fr} {d : Dr} {s : Sg} {w : World} {tmps : Array Value} {fr : Frame} {rest : List Nat}

theorem bit_or {D i j : Nat} (h : D.testBit j = true ∨ j = i) : (D ||| 2 ^ i).testBit j = true := by
  rw [Nat.testBit_or, Bool.or_eq_true]
  rcases h with h | rfl
  · exact .inl h
  · exact .inr (by rw [Nat.testBit_two_pow]; simp)

/-- in thought, one further -/
theorem Inv.push (I : Inv E ops ms all s0 h0 w0 N X done D pool f d s w tmps) {x : It} (hx : x ∈ all) (hD : D.testBit x.i = false) (hind : ∀ y ∈ done, x.m.testBit y.i = true ∨ Ind y x) {v : AV} {f' : Fr}
    (hp : f.put x.o.dst v = some f') {d' : Dr} (h1 : ∀ fl, inD d fl → inD d' fl) (h2 : ∀ a ∈ d.als, a ∈ d'.als) (h3 : d.h.next ≤ d'.h.next) (st : St s d'.h w) (tr : Tra s0 h0 w0 s d'.h w)
    (hfresh : ∀ fl ∈ d'.fresh, evalOp E (rho fl.f) fl.o.op d'.h = some (.val fl.v d'.h)) (hali : ∀ a ∈ d'.als, a.id < d'.h.next) (hald : ∀ a ∈ d'.als, ∀ b ∈ d'.als, a.i ≠ b.i → a.id ≠ b.id)
    (hnew : PeOk E ops h0 N d' s ⟨x, f, v⟩) : Inv E ops ms all s0 h0 w0 N X (x :: done) (D ||| 2 ^ x.i) (pool ++ [⟨x, f, v⟩]) f' d' s w tmps := by
  have hXx : ¬ X x.i := fun h => by rw [I.xd _ h] at hD; cases hD
  obtain ⟨g, hch, hg⟩ := I.g
  refine ⟨fun i h => bit_or (.inl (I.xd i h)), ?_, I.closed, ?_, ?_, ?_, ⟨g, hch.push hp, hg⟩, I.sz, by rw [(Fr.put_n hp).1]; exact I.fn, st, tr, hfresh, hali, hald⟩
  · intro y hy
    rcases List.mem_cons.1 hy with rfl | hy
    · exact bit_or (.inr rfl)
    · exact bit_or (.inl (I.dd y hy))
  · intro y hy
    rcases List.mem_cons.1 hy with rfl | hy
    · exact .inr ⟨_, List.mem_append_right _ (List.mem_singleton.2 rfl), rfl⟩
    · rcases I.dn y hy with h | ⟨p, hp, e⟩
      · exact .inl h
      · exact .inr ⟨p, List.mem_append_left _ hp, e⟩
  · intro q hq
    rcases List.mem_append.1 hq with hq | hq
    · obtain ⟨q1, q2, q3, q4, q5⟩ := I.pin q hq
      refine ⟨List.mem_cons_of_mem _ q1, q2, q3, q4, q5.imp id fun ⟨z1, z2⟩ => ⟨z1, z2.imp id fun z3 => z3.imp (fun ⟨y1, y2⟩ => ⟨y1, h1 _ y2⟩) ?_⟩⟩
      rintro ⟨hc, hh, h', b, hev, hb, hal, hsn, k1, k2⟩
      exact ⟨hc, hh, h', b, hev, hb, h2 _ hal, hsn, k1, by omega⟩
    · rw [List.mem_singleton] at hq; subst hq
      exact ⟨List.mem_cons_self, hx, hXx, hnew⟩
  · rw [List.pairwise_append]
    refine ⟨I.pw, by simp, fun p hp q hq => ?_⟩
    rw [List.mem_singleton] at hq; subst hq
    obtain ⟨q1, _, _, _⟩ := I.pin p hp
    refine ⟨hind _ q1, fun e => ?_⟩
    have := I.dd _ q1
    rw [e, hD] at this; cases this

include hit in
/-- a loud one has been done -/
theorem Inv.loud (I : Inv E ops ms all s0 h0 w0 N X done D pool f d s w fr.tmps) {x : It} (hx : x ∈ all) (hD : D.testBit x.i = false) (hbits : ∀ b, x.m.testBit b = true → X b) (hind : ∀ q ∈ pool, Ind q.x x)
    {v : AV} {f' : Fr} (hp : f.put x.o.dst v = some f') {h' : AH} {s' : Sg} {w' : World} {v' : Value} (hR : R s' v v') (st : St s' h' w') (tr : Tra s d.h w s' h' w')
    (ho : ops[x.i]? = some x.o) (F : FrOk s fn ⟨.leaf, N⟩ (.inRegion ops (x.i :: rest) :: tl) ds r kind fr) :
    Inv E ops ms all s0 h0 w0 N (fun j => X j ∨ j = x.i) (x :: done) (D ||| 2 ^ x.i) pool f' (d.loud x.m h') s' w' (fr.finish v').tmps ∧
      FrOk s' fn ⟨.leaf, N⟩ (.inRegion ops rest :: tl) ds r kind (fr.finish v') := by
  obtain ⟨F', htm⟩ := (F.mono tr.le).fin ho v'
  obtain ⟨g, hch, hg⟩ := I.g
  obtain ⟨k1, k2⟩ := hch.loud hind hp
  obtain ⟨hn1, hn2⟩ := Fr.put_n hp
  obtain ⟨-, hns, hmi, -, -⟩ := hit x hx
  have hnb : ∀ q ∈ pool, x.m.testBit q.x.i = false := by
    intro q hq
    cases hb : x.m.testBit q.x.i with
    | false => rfl
    | true => exact absurd (hbits _ hb) (I.pin q hq).2.2.1
  refine ⟨⟨?_, ?_, ?_, ?_, ?_, I.pw, ⟨put1 g x.o.dst v, k2, ?_⟩, ?_, by rw [hn1]; exact I.fn, st, I.tr.trans tr, ?_, ?_, ?_⟩, F'⟩
  · rintro i (h | rfl)
    · exact bit_or (.inl (I.xd i h))
    · exact bit_or (.inr rfl)
  · intro y hy
    rcases List.mem_cons.1 hy with rfl | hy
    · exact bit_or (.inr rfl)
    · exact bit_or (.inl (I.dd y hy))
  · rintro j (h | rfl) k b hk hb
    · exact .inl (I.closed j h k b hk hb)
    · rw [hmi] at hk; cases hk; exact .inl (hbits b hb)
  · intro y hy
    rcases List.mem_cons.1 hy with rfl | hy
    · exact .inl (.inr rfl)
    · exact (I.dn y hy).imp .inl id
  · intro q hq
    obtain ⟨q1, q2, q3, q4, q5⟩ := I.pin q hq
    refine ⟨List.mem_cons_of_mem _ q1, q2, ?_, q4, q5.imp id fun ⟨z1, z2⟩ => ⟨z1, z2.imp id fun z3 => z3.imp ?_ ?_⟩⟩
    · rintro (h | h)
      · exact q3 h
      · have := I.dd _ q1; rw [h, hD] at this; cases this
    · rintro ⟨y1, y2⟩
      refine ⟨y1, .inr ?_⟩
      simp only [Dr.loud, List.mem_filter, List.mem_append, hnb q hq, Bool.not_false, and_true]
      exact y2
    · rintro ⟨hc, hh, h1, b, hev, hb, hal, hsn, m1, m2⟩
      refine ⟨hc, hh, h1, b, hev, hb, ?_, ?_, m1, ?_⟩
      · simp only [Dr.loud, List.mem_filter, hnb q hq, Bool.not_false, and_true]; exact hal
      · cases hq : s' hh.next with
        | none => rfl
        | some pl =>
          rcases tr.hi hh.next (by rw [hq]; simp) with z | ⟨z1, z2⟩
          · exact absurd hsn z
          · omega
      · have := tr.nx; simp only [Dr.loud]; omega
  · rw [htm]
    exact tmps_put (fun t a e => let ⟨u, h1, h2⟩ := hg t a e; ⟨u, h1, R.mono tr.le _ _ h2⟩) (fun t ht => by rw [I.sz, ← I.fn]; exact hn2 t ht) hR
  · rw [htm]; have := I.sz; cases x.o.dst <;> simpa using this
  · intro fl hfl; simp [Dr.loud] at hfl
  · intro a ha
    simp only [Dr.loud, List.mem_filter] at ha
    have := I.ali a ha.1
    have := tr.nx; simp only [Dr.loud]; omega
  · intro a ha b hb
    simp only [Dr.loud, List.mem_filter] at ha hb
    exact I.ald a ha.1 b hb.1

theorem goOn_ok {f : Fr} {dst : Option Tmp} {v : AV} {k : Fr → Ans} {outs : List Out} (e : goOn f dst v k = .ok outs) : ∃ f', f.put dst v = some f' ∧ k f' = .ok outs := by
  unfold goOn at e
  split at e
  · rename_i f' hf; exact ⟨f', hf, e⟩
  · cases e

include H S hit in
theorem loud_one (I : Inv E ops ms all s0 h0 w0 N X done D pool f d s w fr.tmps) {x : It} (hx : x ∈ all) (hD : D.testBit x.i = false) (hind : ∀ y ∈ done, x.m.testBit y.i = true ∨ Ind y x)
    (hs : Sched ops X (x.i :: rest)) (hw : wantedA x.o ops f = some true) (F : FrOk s fn ⟨.leaf, N⟩ (.inRegion ops (x.i :: rest) :: tl) ds r kind fr) {k : Fr → Dr → Ans} {pos : String} {outs : List Out}
    (e : drawnLoud run x.m f x.o.dst d k pos (evalOp E (rho f) x.o.op d.h) = .ok outs) :
    ∃ f' d' s' w' fr', k f' d' = .ok outs ∧ Steps P (lone fr cs w) (lone fr' cs w') ∧ Inv E ops ms all s0 h0 w0 N (fun j => X j ∨ j = x.i) (x :: done) (D ||| 2 ^ x.i) pool f' d' s' w' fr'.tmps ∧
      FrOk s' fn ⟨.leaf, N⟩ (.inRegion ops rest :: tl) ds r kind fr' := by
  have hbits := bits_done hit I hx hs
  obtain ⟨ho, hns, -, -, -⟩ := hit x hx
  have hindp : ∀ q ∈ pool, Ind q.x x := by
    intro q hq
    obtain ⟨q1, _, q3, _⟩ := I.pin q hq
    rcases hind _ q1 with k | k
    · exact absurd (hbits _ k) q3
    · exact k
  have hk : ∀ t ∈ opTmps ops x.o, ∀ a, f.tmps.get t = some a → ∃ v, fr.tmps[t]? = some v ∧ R s a v := by
    obtain ⟨g, hch, hg⟩ := I.g
    have key : ∀ (l : List Pe) (g : Nat → Option AV), Chain g l f → (∀ q ∈ l, Ind q.x x) → ∀ t ∈ x.ns, ∀ a, f.tmps.get t = some a → g t = some a := by
      intro l
      induction l with
      | nil => intro g c _ t _ a e; exact c t a e
      | cons q l ih =>
        intro g c hi t ht a e
        have := ih _ c.2 (fun q hq => hi q (List.mem_cons_of_mem _ hq)) t ht a e
        rw [put1_ne (fun e => (hi q List.mem_cons_self).1 t e ht)] at this; exact this
    intro t ht a e
    exact hg t a (key pool g hch hindp t (by rw [hns]; exact ht) a e)
  have hwt := wanted_ok' hk hw
  have Hρ := operands_ok hk
  cases hres : evalOp E (rho f) x.o.op d.h with
  | none => rw [hres] at e; simp [drawnLoud] at e
  | some res =>
    rw [hres] at e
    have hop := op_ok' (P := P) H I.st Hρ hres
    cases res with
    | val v h' =>
      have hd : fr.roundOf = none ∨ ∀ c, x.o.op ≠ .defer c := .inr (not_defer hres (by intro _ _ h; cases h))
      simp only [drawnLoud] at e
      obtain ⟨f', hp, e⟩ := goOn_ok e
      obtain ⟨s', w', v', hr, hR, st', tr⟩ := hop
      obtain ⟨I', F'⟩ := I.loud hit hx hD hbits hindp hp hR st' tr ho F
      exact ⟨f', _, s', w', _, e, .one (st_op_value F.mode F.todo ho hwt hd hr), I', F'⟩
    | skip h' =>
      have hd : fr.roundOf = none ∨ ∀ c, x.o.op ≠ .defer c := .inr (not_defer hres (by intro _ _ h; cases h))
      simp only [drawnLoud] at e
      obtain ⟨f', hp, e⟩ := goOn_ok e
      obtain ⟨s', w', hr, st', tr⟩ := hop
      obtain ⟨I', F'⟩ := I.loud hit hx hD hbits hindp hp (nothing_R s') st' tr ho F
      exact ⟨f', _, s', w', _, e, .one (st_op_void F.mode F.todo ho hwt hd hr), I', F'⟩
    | enter g args h' =>
      have hd : fr.roundOf = none ∨ ∀ c, x.o.op ≠ .defer c := .inr (not_defer hres (by intro _ _ h; cases h))
      simp only [drawnLoud] at e
      obtain ⟨rfl, xs, hxs, hr⟩ := hop
      unfold drOne at e
      split at e
      · rename_i v h2 h1
        obtain ⟨v1, h3, s', w', v', fr', k1, k2, k3, k4, k5, k6, k7, k8⟩ := S.call false g args _ _ h1 s w xs (fr :: cs) I.st hxs (by simp)
        simp only [List.mem_singleton] at k1
        cases k1
        simp only [Bool.false_eq_true, if_false] at k2 k5
        have hleave : fr'.leaving P w' (.returned v') := ⟨k4.1, k4.2.1, k5, k4.2.2⟩
        obtain ⟨f', hp, e⟩ := goOn_ok e
        obtain ⟨I', F'⟩ := I.loud hit hx hD hbits hindp hp k3 k7 k8 ho F
        exact ⟨f', _, s', w', _, e, .head (st_op_enter F.mode F.todo ho hwt hd hr) (k2.trans (.one (step_leave_returned hleave))), I', F'⟩
      · cases e
      · cases e
    | _ => simp [drawnLoud] at e

include hit hall in
/-- what comes next is pending, or it is the next loud one -/
theorem next_is (I : Inv E ops ms all s0 h0 w0 N X done D pool f d s w fr.tmps) {i : Nat} (hs : Sched ops X (i :: rest)) (hno : ∀ p ∈ pool, p.x.i ≠ i) : ∃ x ∈ all, x.i = i ∧ x ∉ done := by
  obtain ⟨h1, ⟨o, h2, _⟩, _⟩ := hs
  obtain ⟨x, hx, rfl⟩ := hall i (Array.getElem?_eq_some_iff.1 h2).1
  refine ⟨x, hx, rfl, fun hd => ?_⟩
  rcases I.dn x hd with h | ⟨p, hp, e⟩
  · exact h1 h
  · exact hno p hp (by rw [e])

include H S hit hall in
theorem drawn_main : ∀ (L : List It) (done : List It) (D Lm : Nat) (f : Fr) (d : Dr) (outs : List Out), chk L done D Lm = true → (∀ x ∈ all, x ∈ done ∨ x ∈ L) → (∀ x ∈ L, x ∈ all) → runDrawn run E ops L f d = .ok outs →
    ∀ (X : Nat → Prop) (pool : List Pe) (s : Sg) (w : World) (fr : Frame) (rest : List Nat), Inv E ops ms all s0 h0 w0 N X done D pool f d s w fr.tmps → Sched ops X rest →
      FrOk s fn ⟨.leaf, N⟩ (.inRegion ops rest :: tl) ds r kind fr →
      ∃ f' h' s' w' fr', Out.ops f' [] h' ∈ outs ∧ Steps P (lone fr cs w) (lone fr' cs w') ∧ FrOk s' fn f' (.inRegion ops [] :: tl) ds r kind fr' ∧ St s' h' w' ∧ Tra s0 h0 w0 s' h' w'
  | [], done, D, Lm, f, d, outs, hchk, hcov, hsub, e, X, pool, s, w, fr, rest, I, hs, F => by
    simp only [runDrawn] at e
    cases hst : stageOk E d with
    | false => rw [hst] at e; simp at e
    | true =>
      rw [hst] at e; simp only [cond_true] at e; cases e
      obtain ⟨X', pool', s', w', fr', rest', k1, I', hs', F', hor⟩ := exec_pool (cs := cs) H hit hst rest X pool s w fr I hs F
      rcases hor with rfl | ⟨i, l, rfl, hno⟩
      · have hpool : pool' = [] := by
          cases pool' with
          | nil => rfl
          | cons p l =>
            obtain ⟨_, q2, q3, _⟩ := I'.pin p List.mem_cons_self
            exact absurd (hs' _ (Array.getElem?_eq_some_iff.1 (hit _ q2).1).1) q3
        subst hpool
        obtain ⟨g, hch, hg⟩ := I'.g
        refine ⟨f, d.h, s', w', fr', List.mem_singleton.2 rfl, k1, ⟨F'.fn, ⟨by rw [I'.sz, I'.fn], fun t a e => hg t a (hch t a e)⟩, F'.todo, F'.defers, F'.mode, F'.kind, F'.round⟩, I'.st, I'.tr⟩
      · obtain ⟨x, hx, rfl, hnd⟩ := next_is hit hall I' hs' hno
        rcases hcov x hx with h | h
        · exact absurd h hnd
        · simp at h
  | x :: L, done, D, Lm, f, d, outs, hchk, hcov, hsub, e, X, pool, s, w, fr, rest, I, hs, F => by
    obtain ⟨c1, c2, c3, c4⟩ := chk_cons hchk
    have hx : x ∈ all := hsub x List.mem_cons_self
    have hcov' : ∀ y ∈ all, y ∈ x :: done ∨ y ∈ L := by
      intro y hy
      rcases hcov y hy with h | h
      · exact .inl (List.mem_cons_of_mem _ h)
      · rcases List.mem_cons.1 h with rfl | h
        · exact .inl List.mem_cons_self
        · exact .inr h
    have hsub' : ∀ y ∈ L, y ∈ all := fun y hy => hsub y (List.mem_cons_of_mem _ hy)
    simp only [runDrawn] at e
    split at e
    · rename_i hw
      unfold drawnOp at e
      split at e
      · rename_i hc
        split at e
        · rename_i v h' hev
          obtain ⟨f', hp, e⟩ := goOn_ok e
          have hN := Fr.put_n hp
          obtain ⟨v1, ev1, hB⟩ := pure_ok E (rho f) hc hev
          cases ev1
          exact drawn_main L _ _ _ _ _ outs c4 hcov' hsub' e X _ s w fr rest
            (I.push hx c2 c3 hp (fun _ h => h) (fun _ h => h) (Nat.le_refl _) I.st I.tr I.fresh I.ali I.ald ⟨fun t ht => by rw [← I.fn]; exact hN.2 t ht, .inr ⟨hw, .inl ⟨hc, d.h, hev⟩⟩⟩) hs F
        · cases e
      · rename_i hc
        split at e
        · rename_i v h' hev
          cases hn : Nat.beq h'.next d.h.next with
          | false => rw [hn] at e; simp at e
          | true =>
            rw [hn] at e; simp only [cond_true] at e
            have hh := mem_ok E (rho f) hc hev (Nat.eq_of_beq_eq_true hn)
            subst hh
            obtain ⟨f', hp, e⟩ := goOn_ok e
            have hN := Fr.put_n hp
            refine drawn_main L _ _ _ _ _ outs c4 hcov' hsub' e X _ s w fr rest
              (I.push hx c2 c3 hp (d' := d.mem ⟨x.i, x.o, f, v⟩) (fun fl h => h.imp (List.mem_cons_of_mem _) id) (fun _ h => h) (Nat.le_refl _) I.st I.tr ?_ I.ali I.ald
                ⟨fun t ht => by rw [← I.fn]; exact hN.2 t ht, .inr ⟨hw, .inr (.inl ⟨hc, .inl List.mem_cons_self⟩)⟩⟩) hs F
            intro fl hfl
            rcases List.mem_cons.1 hfl with rfl | hfl
            · exact hev
            · exact I.fresh fl hfl
        · cases e
      · rename_i hc
        split at e
        · rename_i v h' hev
          split at e
          · rename_i b hb
            obtain ⟨f', hp, e⟩ := goOn_ok e
            have hN := Fr.put_n hp
            obtain ⟨v1, blk, ev1⟩ := alloc_shape hc hev
            cases ev1
            obtain ⟨st', tr'⟩ := Tra.ahead I.st blk
            have hnx : (d.h.new blk).next = d.h.next + 1 := AH.next_new _ _
            refine drawn_main L _ _ _ _ _ outs c4 hcov' hsub' e X _ s w fr rest
              (I.push hx c2 c3 hp (d' := d.alloc x.i b (d.h.new blk)) (fun fl h => .inr (List.mem_append.2 h)) (fun _ h => List.mem_cons_of_mem _ h) (by simp only [Dr.alloc]; omega) st' (I.tr.trans tr')
                (fun fl h => by simp [Dr.alloc] at h) ?_ ?_
                ⟨fun t ht => by rw [← I.fn]; exact hN.2 t ht, .inr ⟨hw, .inr (.inr ⟨hc, d.h, d.h.new blk, b, hev, hb, List.mem_cons_self, I.st.fresh _ (Nat.le_refl _), I.tr.nx, by simp only [Dr.alloc]; omega⟩)⟩⟩) hs F
            · intro a ha
              simp only [Dr.alloc] at ha ⊢
              rcases List.mem_cons.1 ha with rfl | ha
              · simp only; omega
              · have := I.ali a ha; omega
            · intro a ha c hc' hne
              simp only [Dr.alloc] at ha hc'
              rcases List.mem_cons.1 ha with rfl | ha
              · rcases List.mem_cons.1 hc' with rfl | hc'
                · exact absurd rfl hne
                · have := I.ali c hc'; simp only; omega
              · rcases List.mem_cons.1 hc' with rfl | hc'
                · have := I.ali a ha; simp only; omega
                · exact I.ald a ha c hc' hne
          · cases e
        · cases e
      · rename_i hc
        cases hst : stageOk E d with
        | false => rw [hst] at e; simp at e
        | true =>
          rw [hst] at e; simp only [cond_true] at e
          have hloud : isLoud x = true := by simp [isLoud, hc]
          obtain ⟨X', pool', s', w', fr', rest', k1, I', hs', F', hor⟩ := exec_pool (cs := cs) H hit hst rest X pool s w fr I hs F
          have hXx : ¬ X' x.i := fun h => by rw [I'.xd _ h] at c2; cases c2
          rcases hor with rfl | ⟨i, l, rfl, hno⟩
          · exact absurd (hs' _ (Array.getElem?_eq_some_iff.1 (hit _ hx).1).1) hXx
          · obtain ⟨y, hy, rfl, hnd⟩ := next_is hit hall I' hs' hno
            have hyx : y = x := by
              rcases hcov' y hy with h | h
              · rcases List.mem_cons.1 h with rfl | h
                · rfl
                · exact absurd h hnd
              · have hb := chk_loud _ _ _ _ c4 y h x.i (by rw [hloud]; exact bit_or (.inr rfl))
                exact absurd (bits_done hit I' hy hs' _ hb) hXx
            subst hyx
            obtain ⟨f', d', s2, w2, fr2, e2, k2, I2, F2⟩ := loud_one (cs := cs) H S hit I' hx c2 c3 hs' hw F' e
            obtain ⟨f3, h3, s3, w3, fr3, q1, q2, q3, q4, q5⟩ := drawn_main L _ _ _ _ _ outs c4 hcov' hsub' e2 _ pool' s2 w2 fr2 l I2 hs'.2.2 F2
            exact ⟨f3, h3, s3, w3, fr3, q1, k1.trans (k2.trans q2), q3, q4, q5⟩
    · rename_i hw
      obtain ⟨f', hp, e⟩ := goOn_ok e
      have hN := Fr.put_n hp
      exact drawn_main L _ _ _ _ _ outs c4 hcov' hsub' e X _ s w fr rest
        (I.push hx c2 c3 hp (fun _ h => h) (fun _ h => h) (Nat.le_refl _) I.st I.tr I.fresh I.ali I.ald ⟨fun t ht => by rw [← I.fn]; exact hN.2 t ht, .inl ⟨hw, rfl⟩⟩) hs F
    · cases e
end

theorem drawn_sound {E : Env} {P : Program} (H : EnvOk E P) {run : Rec} (S : Sound P run) : DrawnSound P E run := by
  intro ops l f h outs hp e t s w fn tl ds r kind fr cs st F
  obtain ⟨ms, hit, hall, hchk⟩ := plan_ok hp
  rw [H.mixed] at F
  simp only [Region.schedule, Bool.true_or, if_true] at F
  have hs := sched ops (fun i o ho e he hb => by
    obtain ⟨x, hx, rfl⟩ := hall i (Array.getElem?_eq_some_iff.1 ho).1
    obtain ⟨h1, _, _, h4, _⟩ := hit x hx
    rw [ho] at h1; cases h1
    exact h4 e he hb) t
  refine drawn_main (N := f.n) H S hit hall l [] 0 0 f ⟨h, [], [], []⟩ outs hchk (fun x hx => .inr hx) (fun x hx => hx) e (fun _ => False) [] s w fr _ ?_ hs
    ⟨F.fn, ⟨F.tmps.1, fun i a e => by rw [Tr.get_leaf] at e; cases e⟩, F.todo, F.defers, F.mode, F.kind, F.round⟩
  exact ⟨by simp, by simp, by simp, by simp, by simp, by simp, ⟨f.tmps.get, fun t a e => e, F.tmps.2⟩, F.tmps.1, rfl, st, Tra.refl s h w, by simp, by simp, by simp⟩

/-- ████ whatever the evaluator finds is so -/
theorem sound_all {E : Env} {P : Program} (H : EnvOk E P) (HP : PrimOk P E) (HM : MemoOk P E) (n : Nat) : Sound P (Ev.run E n) := sound H HP HM (fun _ S => drawn_sound H S) n

def AH.empty : AH := ⟨.leaf, 0⟩

/-- ████ a function that the evaluator ran to its end -/
theorem calls_ok {E : Env} {P : Program} (H : EnvOk E P) (HP : PrimOk P E) (HM : MemoOk P E) {n : Nat} {g : FuncId} {args : List AV} {outs : List Out} (e : Ev.run E n (.call false g args AH.empty) = .ok outs) (w : World) (hw : Good w)
    {xs : List Value} (hx : ∀ s : Sg, Rs s args xs) : Calls P g xs.toArray w fun en w' => ∃ v h, ∃ s : Sg, ∃ v', Out.val v h ∈ outs ∧ en = .returned v' ∧ R s v v' ∧ Garb w w' := by
  intro cs
  let s : Sg := ⟨fun _ => none, w, hw⟩
  have st : St s AH.empty w := by
    exact ⟨fun i b p _ h => (nomatch h), fun i j bi bj p q _ _ h => (nomatch h), fun i p h => (nomatch h), fun i _ => rfl, fun i p h => (nomatch h), fun b _ => rfl, Nat.le_refl _⟩
  obtain ⟨v, h', s', w', v', fr', k1, k2, k3, k4, k5, k6, k7, k8⟩ := (sound_all H HP HM n).call false g args AH.empty outs e s w xs cs st (hx s) (by simp)
  refine ⟨.returned v', w', fr', ⟨v, h', s', v', k1, rfl, k3, k8.sz, fun b hb => k8.fr b hb ?_, ⟨k8.os, k8.out, k8.tape⟩⟩, k2, k6, ⟨k4.1, k4.2.1, k5, k4.2.2⟩⟩
  rintro ⟨i, bb, p, _, h, _⟩
  exact nomatch h
end Go.Ev
namespace Go.Ev
open Go

noncomputable section
def findP (args : List AV) : List (List AV × AV) → Option AV
  | [] => none
  | (a, v) :: l => bif AV.beqs a args then some v else findP args l

def primBy (t : Tr (List (List AV × AV))) (g : Nat) (args : List AV) : Option AV :=
  match t.get g with
  | none => none
  | some l => findP args l

def memoBy (t : List (Nat × List Memo)) (g : Nat) : List Memo :=
  match t with
  | [] => []
  | (i, l) :: t => bif Nat.beq i g then l else memoBy t g

def envOf (p : Program) (mg : List Nat) (t : Tr (List (List AV × AV))) (ml : List (Nat × List Memo)) (ext : Nat → List AV → Option AV) (mkz : Nat → Option TypeId) : Env :=
  { tt := Tr.ofList 0 p.types.toList .leaf, ft := Tr.ofList 0 p.funcs.toList .leaf, mg, prim := primBy t, memo := memoBy ml, lies := fun t n o u => liesAt p p.depth t (n / p.cellsOf t) o u 1, ext, mkz }
end

/-- no memory in it -/
def AV.free : AV → Bool
  | .bool _ | .int .. | .str _ => true
  | _ => false

theorem AV.free_R {s t : Sg} {a : AV} (h : a.free = true) {v : Value} (hr : R s a v) : R t a v := by
  cases a <;> first | (simp only [R] at hr ⊢; exact hr) | cases h

theorem free_Rs {s t : Sg} : ∀ {l : List AV} {vs : List Value}, l.all AV.free = true → Rs s l vs → Rs t l vs
  | [], vs, _, h => by simpa only [Rs] using h
  | a :: l, vs, hf, h => by
    simp only [List.all_cons, Bool.and_eq_true] at hf
    simp only [Rs] at h ⊢
    obtain ⟨x, xs, e, h1, h2⟩ := h
    exact ⟨x, xs, e, AV.free_R hf.1 h1, free_Rs hf.2 h2⟩

/-- a call whose end the evaluator found, with no memory before or after -/
def Prim1 (P : Program) (g : Nat) (args : List AV) (v : AV) : Prop :=
  args.all AV.free = true ∧ v.free = true ∧ ∀ (s : Sg) w xs, Good w → Rs s args xs → Calls P g xs.toArray w fun e w' => ∃ v', e = .returned v' ∧ R s v v' ∧ Garb w w'

theorem prim1_ok {E : Env} {P : Program} (H : EnvOk E P) (HP : PrimOk P E) (HM : MemoOk P E) {n : Nat} {g : FuncId} {args : List AV} {v : AV} (hf : args.all AV.free = true) (hv : v.free = true)
    (e : (match Ev.run E n (.call false g args AH.empty) with | .ok l => l.all (fun | .val u _ => AV.beq u v | _ => false) | .error _ => false) = true) : Prim1 P g args v := by
  refine ⟨hf, hv, fun s w xs hw hx => ?_⟩
  split at e
  · rename_i l hl
    refine Calls.mono (calls_ok H HP HM hl w hw (fun t => free_Rs hf hx)) ?_
    rintro en w' ⟨u, h, t, v', k1, k2, k3, k4⟩
    have := List.all_eq_true.1 e _ k1
    have := AV.beq_eq _ _ (show AV.beq u v = true from this)
    subst this
    exact ⟨v', k2, AV.free_R hv k3, k4⟩
  · cases e

theorem findP_ok {args : List AV} : ∀ {l : List (List AV × AV)} {v : AV}, findP args l = some v → (args, v) ∈ l
  | [], v, h => by simp [findP] at h
  | (a, u) :: l, v, h => by
    simp only [findP] at h
    cases hb : AV.beqs a args with
    | true => rw [hb] at h; simp only [cond_true] at h; cases h; rw [AV.beqs_eq _ _ hb]; exact List.mem_cons_self
    | false => rw [hb] at h; simp only [cond_false] at h; exact List.mem_cons_of_mem _ (findP_ok h)

/-- a table of functions' ends -/
noncomputable def tab (l : List (Nat × List (List AV × AV))) : Tr (List (List AV × AV)) := l.foldl (fun t x => Tr.set t x.1 (some x.2)) .leaf

theorem tab_ok : ∀ (l : List (Nat × List (List AV × AV))) (t : Tr (List (List AV × AV))) (g : Nat) (r : List (List AV × AV)), (l.foldl (fun t x => Tr.set t x.1 (some x.2)) t).get g = some r → (g, r) ∈ l ∨ t.get g = some r
  | [], t, g, r, h => .inr h
  | x :: l, t, g, r, h => by
    rcases tab_ok l _ g r h with k | k
    · exact .inl (List.mem_cons_of_mem _ k)
    · rcases Tr.get_set t x.1 g (some x.2) r k with ⟨rfl, e⟩ | ⟨_, e⟩
      · cases e; exact .inl List.mem_cons_self
      · exact .inr e

theorem primBy_ok {ext : Nat → List AV → Option AV} {mkz : Nat → Option TypeId} {P : Program} {p : Program} {mg : List Nat} {ml : List (Nat × List Memo)} {l : List (Nat × List (List AV × AV))} (h : ∀ x ∈ l, ∀ y ∈ x.2, Prim1 P x.1 y.1 y.2) : PrimOk P (envOf p mg (tab l) ml ext mkz) := by
  intro g args v e s w xs hx
  change primBy (tab l) g args = some v at e
  unfold primBy at e
  split at e
  · cases e
  · rename_i r hr
    rcases tab_ok l .leaf g r hr with k | k
    · exact (h _ k _ (findP_ok e)).2.2 s w xs hx
    · cases k

/-- a call whose end the evaluator found -/
def Memo1 (P : Program) (g : Nat) (m : Memo) : Prop := ∀ (s : Sg) w xs cs, St s (blocks m.pre m.n) w → Rs s m.args xs →
    ValOk P s (blocks m.pre m.n) w g .normal (Frame.enter P g xs.toArray .normal) cs [.val m.v (blocks m.post m.n2)]

noncomputable def memoRun (E : Env) (n g : Nat) (m : Memo) : Bool :=
  match Ev.run E n (.call false g m.args (blocks m.pre m.n)) with
  | .ok l => l.all fun | .val u h => AV.beq u m.v && holds h m.post && Nat.ble h.next m.n2 | _ => false
  | .error _ => false

theorem memo1_ok {E : Env} {P : Program} (H : EnvOk E P) (HP : PrimOk P E) (HM : MemoOk P E) {n : Nat} {g : FuncId} {m : Memo} (e : memoRun E n g m = true) : Memo1 P g m := by
  intro s w xs cs st hx
  unfold memoRun at e
  split at e
  · rename_i l hl
    obtain ⟨v, h', s', w', v', fr', k1, k2, k3, k4, k5, k6, k7, k8⟩ := (sound_all H HP HM n).call false g m.args _ l hl s w xs cs st hx (by simp)
    have := List.all_eq_true.1 e _ k1
    simp only [Bool.and_eq_true] at this
    obtain ⟨⟨e1, e2⟩, e3⟩ := this
    have e1 := AV.beq_eq _ _ e1
    subst e1
    have hpart := holds_ok e2 (Nat.le_of_ble_eq_true e3)
    obtain ⟨st2, tr2⟩ := Tra.less k7 hpart.1 hpart.2
    exact ⟨m.v, _, s', w', v', fr', List.mem_singleton.2 rfl, k2, k3, k4, k5, k6, st2, k8.trans tr2⟩
  · cases e

theorem memoBy_ok {ext : Nat → List AV → Option AV} {mkz : Nat → Option TypeId} {P : Program} {p : Program} {mg : List Nat} {t : Tr (List (List AV × AV))} : ∀ {ml : List (Nat × List Memo)}, (∀ x ∈ ml, ∀ m ∈ x.2, Memo1 P x.1 m) → MemoOk P (envOf p mg t ml ext mkz) := by
  have key : ∀ (ml : List (Nat × List Memo)), (∀ x ∈ ml, ∀ m ∈ x.2, Memo1 P x.1 m) → ∀ g, ∀ m ∈ memoBy ml g, Memo1 P g m := by
    intro ml
    induction ml with
    | nil => intro _ g m hm; simp [memoBy] at hm
    | cons x l ih =>
      intro h g m hm
      obtain ⟨i, r⟩ := x
      simp only [memoBy] at hm
      cases hb : Nat.beq i g with
      | true =>
        rw [hb] at hm
        have := Nat.eq_of_beq_eq_true hb
        subst this
        exact h _ List.mem_cons_self m hm
      | false => rw [hb] at hm; exact ih (fun x hx => h x (List.mem_cons_of_mem _ hx)) g m hm
  intro ml h g m hm s w xs cs st hx
  exact key ml h g m hm s w xs cs st hx
end Go.Ev
