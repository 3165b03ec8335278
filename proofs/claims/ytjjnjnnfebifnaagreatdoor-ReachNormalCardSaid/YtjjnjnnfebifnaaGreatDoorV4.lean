import Derived.KernelRfl
import Derived.Test.YtjjnjnnfebifnaaGreatDoorV3
import Derived.Test.YtjjnjnnfebifnaaGreatDoorV2m0
import Derived.Test.YtjjnjnnfebifnaaGreatDoorV2m1
import Derived.Test.YtjjnjnnfebifnaaGreatDoorV2m3
import Derived.Test.YtjjnjnnfebifnaaGreatDoorV2m4
import Derived.Test.YtjjnjnnfebifnaaGreatDoorV2m5
import Derived.Test.YtjjnjnnfebifnaaGreatDoorV2m6
set_option linter.all false
namespace Go.Ev
open Go
theorem prim0 : PrimOk Go.Proofs.Tryz.prog E0 := primBy_ok (l := []) (fun x hx => by simp at hx)
theorem memo0 {t : Tr (List (List AV × AV))} : MemoOk Go.Proofs.Tryz.prog (envOf Go.Proofs.Tryz.prog [144, 205] t []) := memoBy_ok (fun x hx => by simp at hx)
theorem pr_0 : Prim1 Go.Proofs.Tryz.prog 166 [.int .i64 0] (.str [48]) := prim1_ok (E := E0) (n := 100000) env13 prim0 memo0 rfl rfl (by kernel_rfl)
theorem pr_1 : Prim1 Go.Proofs.Tryz.prog 166 [.int .i64 1] (.str [49]) := prim1_ok (E := E0) (n := 100000) env13 prim0 memo0 rfl rfl (by kernel_rfl)
theorem pr_2 : Prim1 Go.Proofs.Tryz.prog 166 [.int .i64 2] (.str [50]) := prim1_ok (E := E0) (n := 100000) env13 prim0 memo0 rfl rfl (by kernel_rfl)
theorem pr_3 : Prim1 Go.Proofs.Tryz.prog 166 [.int .i64 3] (.str [51]) := prim1_ok (E := E0) (n := 100000) env13 prim0 memo0 rfl rfl (by kernel_rfl)
theorem pr_4 : Prim1 Go.Proofs.Tryz.prog 166 [.int .i64 4] (.str [52]) := prim1_ok (E := E0) (n := 100000) env13 prim0 memo0 rfl rfl (by kernel_rfl)
theorem pr_5 : Prim1 Go.Proofs.Tryz.prog 166 [.int .i64 5] (.str [53]) := prim1_ok (E := E0) (n := 100000) env13 prim0 memo0 rfl rfl (by kernel_rfl)
theorem pr_6 : Prim1 Go.Proofs.Tryz.prog 166 [.int .i64 6] (.str [54]) := prim1_ok (E := E0) (n := 100000) env13 prim0 memo0 rfl rfl (by kernel_rfl)
theorem pr_7 : Prim1 Go.Proofs.Tryz.prog 166 [.int .i64 7] (.str [55]) := prim1_ok (E := E0) (n := 100000) env13 prim0 memo0 rfl rfl (by kernel_rfl)
theorem pr_8 : Prim1 Go.Proofs.Tryz.prog 166 [.int .i64 8] (.str [56]) := prim1_ok (E := E0) (n := 100000) env13 prim0 memo0 rfl rfl (by kernel_rfl)
theorem pr_9 : Prim1 Go.Proofs.Tryz.prog 172 [.str [97]] (.bool true) := prim1_ok (E := E0) (n := 100000) env13 prim0 memo0 rfl rfl (by kernel_rfl)
theorem pr_10 : Prim1 Go.Proofs.Tryz.prog 172 [.str [98]] (.bool true) := prim1_ok (E := E0) (n := 100000) env13 prim0 memo0 rfl rfl (by kernel_rfl)
theorem pr_11 : Prim1 Go.Proofs.Tryz.prog 172 [.str [120]] (.bool true) := prim1_ok (E := E0) (n := 100000) env13 prim0 memo0 rfl rfl (by kernel_rfl)
theorem pr_12 : Prim1 Go.Proofs.Tryz.prog 172 [.str [121]] (.bool true) := prim1_ok (E := E0) (n := 100000) env13 prim0 memo0 rfl rfl (by kernel_rfl)
theorem pr_13 : Prim1 Go.Proofs.Tryz.prog 172 [.str [80]] (.bool true) := prim1_ok (E := E0) (n := 100000) env13 prim0 memo0 rfl rfl (by kernel_rfl)
theorem pr_14 : Prim1 Go.Proofs.Tryz.prog 172 [.str [81]] (.bool true) := prim1_ok (E := E0) (n := 100000) env13 prim0 memo0 rfl rfl (by kernel_rfl)
theorem pr_15 : Prim1 Go.Proofs.Tryz.prog 172 [.str [69]] (.bool true) := prim1_ok (E := E0) (n := 100000) env13 prim0 memo0 rfl rfl (by kernel_rfl)
theorem prim1 {ml : List (Nat × List Memo)} : PrimOk Go.Proofs.Tryz.prog (envOf Go.Proofs.Tryz.prog [144, 205] (tab tb) ml) := by
  refine primBy_ok (fun x hx y hy => ?_)
  simp only [tb, List.mem_cons, List.not_mem_nil, or_false] at hx
  rcases hx with rfl | rfl
  · simp only [List.mem_cons, List.not_mem_nil, or_false] at hy
    rcases hy with rfl | rfl | rfl | rfl | rfl | rfl | rfl | rfl | rfl
    · exact pr_0
    · exact pr_2
    · exact pr_1
    · exact pr_7
    · exact pr_4
    · exact pr_6
    · exact pr_3
    · exact pr_5
    · exact pr_8
  · simp only [List.mem_cons, List.not_mem_nil, or_false] at hy
    rcases hy with rfl | rfl | rfl | rfl | rfl | rfl | rfl
    · exact pr_9
    · exact pr_10
    · exact pr_11
    · exact pr_12
    · exact pr_13
    · exact pr_14
    · exact pr_15
noncomputable def ml13 : List (Nat × List Memo) := [(73, [m0]), (35, [m1]), (74, [m3]), (75, [m4]), (76, [m5]), (78, [m6])]
theorem memo13 {t : Tr (List (List AV × AV))} : MemoOk Go.Proofs.Tryz.prog (envOf Go.Proofs.Tryz.prog [144, 205] t ml13) := by
  refine memoBy_ok (fun x hx m hm => ?_)
  simp only [ml13, List.mem_cons, List.not_mem_nil, or_false] at hx
  rcases hx with rfl | rfl | rfl | rfl | rfl | rfl
  · rw [List.mem_singleton] at hm; subst hm; exact memo1_ok (E := E1) env13 prim1 memo0 run_m0
  · rw [List.mem_singleton] at hm; subst hm; exact memo1_ok (E := E1) env13 prim1 memo0 run_m1
  · rw [List.mem_singleton] at hm; subst hm; exact memo1_ok (E := E1) env13 prim1 memo0 run_m3
  · rw [List.mem_singleton] at hm; subst hm; exact memo1_ok (E := E1) env13 prim1 memo0 run_m4
  · rw [List.mem_singleton] at hm; subst hm; exact memo1_ok (E := E1) env13 prim1 memo0 run_m5
  · rw [List.mem_singleton] at hm; subst hm; exact memo1_ok (E := E1) env13 prim1 memo0 run_m6

noncomputable def E2 : Env := envOf Go.Proofs.Tryz.prog [144, 205] (tab tb) ml13
/-- the closed call of the folder 13 is true in every world, which it leaves as it was -/
theorem awake13 : Prim1 Go.Proofs.Tryz.prog 34 [] (.bool true) := prim1_ok (E := E2) (n := 100000) env13 prim1 memo13 rfl rfl (by kernel_rfl)
end Go.Ev
