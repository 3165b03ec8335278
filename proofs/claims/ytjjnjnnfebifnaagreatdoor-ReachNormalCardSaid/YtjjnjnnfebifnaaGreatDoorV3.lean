import Derived.Laws.Externs
import Derived.Test.YtjjnjnnfebifnaaGreatDoorV1
set_option linter.all false
namespace Go.Ev
open Go

theorem envOk {p : Program} {mg : List Nat} {t : Tr (List (List AV × AV))} {ml : List (Nat × List Memo)} {K : Nat}
    (hn : (p.funcs.toList.all fun f => !(f.name == "runtime.NumGoroutine")) = true) (hm : p.follows .mixedOrders = true)
    (hc : (p.funcs.toList.zipIdx.all fun x => !(x.1.name == "maps.clone") || Nat.beq x.2 K) = true)
    (hk : ∀ fn, p.funcs[K]? = some fn → fn.name = "maps.clone" → Extern.findNext fn = none ∧ Extern.find fn = some Extern.MapsClone.clone) : EnvOk (envOf p mg t ml) p where
  tt := fun i d e => by
    rcases Tr.get_ofList _ 0 _ i d e with ⟨_, h⟩ | h
    · have hi : p.types[i]? = some d := by simpa using h
      have hlt := (Array.getElem?_eq_some_iff.1 hi).1
      simp [Tables.info?, hi]
      intro hge; omega
    · cases h
  ft := fun g fn e => by
    rcases Tr.get_ofList _ 0 _ g fn e with ⟨_, h⟩ | h
    · simpa using h
    · cases h
  nm := fun g fn e => by
    rcases Tr.get_ofList _ 0 _ g fn e with ⟨_, h⟩ | h
    · have := List.all_eq_true.1 hn fn (List.mem_of_getElem? h)
      simpa using this
    · cases h
  cl := fun g fn args w e hb hname => by
    rcases Tr.get_ofList _ 0 _ g fn e with ⟨_, h⟩ | h
    · have hf : p.funcs[g]? = some fn := by simpa using h
      have hg : (fn, g) ∈ p.funcs.toList.zipIdx := by
        rw [List.mem_zipIdx_iff_getElem?]; simpa using h
      have := List.all_eq_true.1 hc _ hg
      simp only [hname] at this
      have hgk : g = K := by
        rw [Bool.or_eq_true] at this
        rcases this with k | k
        · simp at k
        · exact Nat.eq_of_beq_eq_true k
      subst hgk
      obtain ⟨h1, h2⟩ := hk fn hf hname
      exact run_callFunc_extern hf (by rw [hname]; rfl) (by rw [hb]; rfl) h1 h2 args w
    · cases h
  mixed := hm

theorem f309_at : Go.Proofs.Tryz.prog.funcs[309]? = some Go.Proofs.Tryz.f309 := by kernel_rfl
theorem f309_next : Extern.findNext Go.Proofs.Tryz.f309 = none := by kernel_rfl
theorem f309_find : Extern.find Go.Proofs.Tryz.f309 = some Extern.MapsClone.clone := by kernel_rfl
theorem names_ok : (Go.Proofs.Tryz.prog.funcs.toList.all fun f => !(f.name == "runtime.NumGoroutine")) = true := by kernel_rfl
theorem clone_at : (Go.Proofs.Tryz.prog.funcs.toList.zipIdx.all fun x => !(x.1.name == "maps.clone") || Nat.beq x.2 309) = true := by kernel_rfl
theorem mixed_ok : Go.Proofs.Tryz.prog.follows .mixedOrders = true := by kernel_rfl

theorem env13 {mg : List Nat} {t : Tr (List (List AV × AV))} {ml : List (Nat × List Memo)} : EnvOk (envOf Go.Proofs.Tryz.prog mg t ml) Go.Proofs.Tryz.prog :=
  envOk names_ok mixed_ok clone_at (fun fn h _ => by rw [f309_at] at h; cases h; exact ⟨f309_next, f309_find⟩)
end Go.Ev
