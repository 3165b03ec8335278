import Derived.KernelRfl
import Derived.Test.YtkcaanbphpcgaaaGreatDoorVd
import Derived.Test.YtkcaanbphpcgaaaGreatDoorVe
set_option linter.all false
namespace Go.Ev
open Go Go.Proofs

theorem index142 (l1 l2 : List UInt8) (n : Int) (h : Lib.index l1 l2 = n) (hs : l1.length < 4294967281) : Prim1 Tryz.prog 142 [.str l1, .str l2] (.int .i64 n) := by
  refine ⟨rfl, rfl, fun s w xs hw hx => ?_⟩
  obtain ⟨m, T, fr, hg⟩ := hw
  rw [cv_Rs (l := [.str l1, .str l2]) rfl hx]
  have hm : w.cell? ⟨1, 0, none⟩ = some (.int .i64 m) := (cell_of_row w 1 0 _ T fr hg).trans rfl
  have := Go.Proofs.Any.stringslite_Index Tryz.lays219 ⟨l1.toArray⟩ ⟨l2.toArray⟩ m w (by simpa [ByteArray.size] using hs) hm
  refine Calls.mono this ?_
  rintro e w' ⟨rfl, rfl⟩
  refine ⟨_, rfl, ?_, ⟨Nat.le_refl _, fun _ _ => rfl, ⟨rfl, rfl, rfl⟩⟩⟩
  simp only [R]
  simp [h]

theorem prim24 {ml : List (Nat × List Memo)} : PrimOk Tryz.prog (envOf Tryz.prog [98, 182] (tab tb24) ml ext24 mkz24) := by
  refine primBy_ok (fun x hx y hy => ?_)
  simp only [tb24, List.mem_cons, List.not_mem_nil, or_false] at hx
  subst hx
  simp only [List.mem_cons, List.not_mem_nil, or_false] at hy
  rcases hy with rfl | rfl
  · exact index142 _ _ _ (by decide) (by decide)
  · exact index142 _ _ _ (by decide) (by decide)
theorem memo24 {t : Tr (List (List AV × AV))} : MemoOk Tryz.prog (envOf Tryz.prog [98, 182] t [] ext24 mkz24) := memoBy_ok (fun x hx => by simp at hx)
set_option maxRecDepth 100000 in
/-- the closed call of the folder 24 is true in every world in which MaxLen holds an int -/
theorem alive24 : Prim1 Tryz.prog 4 [] (.bool true) := prim1_ok (E := E24) (n := 100000) env24 prim24 memo24 rfl rfl (by kernel_rfl)
end Go.Ev
