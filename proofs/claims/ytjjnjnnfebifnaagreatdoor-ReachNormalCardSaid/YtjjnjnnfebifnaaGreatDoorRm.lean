import Derived.Shelf.SlIter.Nil
import Derived.Shelf.SortM.Plain
import Derived.Shelf.SortM.SortNone
import Derived.Ground.GgzProg
import Derived.Ground.SlgmProg
import Derived.Test.YtjjnjnnfebifnaaGreatDoorProg
set_option linter.all false
namespace Go.Proofs
open Go.RowKit Go.Maps Go.Sort Go.Shelf
def Tryz.keys145_ren : Go.Shelf.Ren := ⟨fun | 7 => 145 | 10 => 214 | n => n, fun | 23 => 93 | 26 => 9 | 3 => 4 | 28 => 223 | 0 => 0 | 27 => 222 | 33 => 253 | 4 => 4 | n => n, fun | n => n⟩
theorem Tryz.keys145 : Go.Proofs.SlLaysZ.n7 Tryz.prog Tryz.keys145_ren := {
  mixed := by kernel_rfl
  f7 := ⟨Tryz.f145.name, by decide, Tryz.func145.trans (congrArg some (by kernel_rfl))⟩
  f10 := ⟨Tryz.f214.name, by decide, Tryz.func214.trans (congrArg some (by kernel_rfl))⟩
  t0 := Tryz.underlying0
  a0 := Tryz.isAgg0
  z0 := Tryz.sizeOf0
  v0 := Tryz.zeroValue0
  t4 := Tryz.underlying4
  a4 := Tryz.isAgg4
  z4 := Tryz.sizeOf4
  v4 := Tryz.zeroValue4
  t23 := Tryz.underlying93
  a23 := Tryz.isAgg93
  z23 := Tryz.sizeOf93
  v23 := Tryz.zeroValue93
  t26 := Tryz.underlying9
  a26 := Tryz.isAgg9
  z26 := Tryz.sizeOf9
  v26 := Tryz.zeroValue9
  t27 := Tryz.underlying222
  a27 := Tryz.isAgg222
  z27 := Tryz.sizeOf222
  v27 := Tryz.zeroValue222
  t28 := Tryz.underlying223
  a28 := Tryz.isAgg223
  z28 := Tryz.sizeOf223
  v28 := Tryz.zeroValue223
  t33 := Tryz.underlying253
  a33 := Tryz.isAgg253
  z33 := Tryz.sizeOf253
  v33 := Tryz.zeroValue253 }
def Tryz.sorted144_ren : Go.Shelf.Ren := ⟨fun | 6 => 144 | 8 => 213 | 9 => 169 | 11 => 267 | 13 => 235 | 12 => 234 | 23 => 299 | 24 => 300 | 14 => 290 | 15 => 291 | 16 => 292 | 17 => 293 | 18 => 294 | 19 => 295 | 20 => 296 | 21 => 297 | 22 => 298 | 25 => 334 | 26 => 335 | 27 => 336 | 28 => 337 | 29 => 338 | 30 => 314 | 31 => 367 | n => n, fun | 26 => 9 | 28 => 223 | 24 => 22 | 0 => 0 | 3 => 3 | 37 => 235 | 48 => 362 | 50 => 364 | 4 => 4 | 40 => 355 | 39 => 354 | 45 => 149 | 5 => 5 | 9 => 9 | 51 => 386 | 55 => 129 | 57 => 410 | 58 => 100 | 33 => 253 | n => n, fun | n => n⟩
theorem Tryz.sorted144 : Go.Proofs.SlLaysZ.n6 Tryz.prog Tryz.sorted144_ren := {
  mixed := by kernel_rfl
  f6 := ⟨Tryz.f144.name, by decide, Tryz.func144.trans (congrArg some (by kernel_rfl))⟩
  f8 := ⟨Tryz.f213.name, by decide, Tryz.func213.trans (congrArg some (by kernel_rfl))⟩
  f11 := ⟨Tryz.f267.name, by decide, Tryz.func267.trans (congrArg some (by kernel_rfl))⟩
  t0 := Tryz.underlying0
  a0 := Tryz.isAgg0
  z0 := Tryz.sizeOf0
  v0 := Tryz.zeroValue0
  t24 := Tryz.underlying22
  a24 := Tryz.isAgg22
  z24 := Tryz.sizeOf22
  v24 := Tryz.zeroValue22
  t26 := Tryz.underlying9
  a26 := Tryz.isAgg9
  z26 := Tryz.sizeOf9
  v26 := Tryz.zeroValue9
  t28 := Tryz.underlying223
  a28 := Tryz.isAgg223
  z28 := Tryz.sizeOf223
  v28 := Tryz.zeroValue223
  i26 := by kernel_rfl }
def Tryz.sort169_ren : Go.Shelf.Ren := ⟨fun | 6 => 169 | 8 => 235 | 9 => 234 | 19 => 299 | 20 => 300 | 21 => 290 | 22 => 291 | 23 => 292 | 24 => 293 | 25 => 294 | 26 => 295 | 27 => 296 | 28 => 297 | 29 => 298 | 36 => 334 | 31 => 335 | 32 => 336 | 37 => 337 | 38 => 338 | 39 => 314 | 41 => 367 | n => n, fun | 27 => 22 | 29 => 9 | 3 => 3 | 32 => 235 | 26 => 22 | 0 => 0 | 44 => 362 | 46 => 364 | 4 => 4 | 36 => 355 | 35 => 354 | 41 => 149 | 5 => 5 | 9 => 9 | 53 => 386 | 57 => 129 | 63 => 410 | 64 => 100 | n => n, fun | n => n⟩
theorem Tryz.sort169 : Go.Proofs.SlLaysM.n6 Tryz.prog Tryz.sort169_ren := {
  mixed := by kernel_rfl
  f6 := ⟨Tryz.f169.name, by decide, Tryz.func169.trans (congrArg some (by kernel_rfl))⟩
  f8 := Tryz.func235.trans (congrArg some (by kernel_rfl))
  f9 := ⟨Tryz.f234.name, by decide, Tryz.func234.trans (congrArg some (by kernel_rfl))⟩
  f19 := Tryz.func299.trans (congrArg some (by kernel_rfl))
  f20 := Tryz.func300.trans (congrArg some (by kernel_rfl))
  f21 := ⟨Tryz.f290.name, by decide, Tryz.func290.trans (congrArg some (by kernel_rfl))⟩
  f22 := ⟨Tryz.f291.name, by decide, Tryz.func291.trans (congrArg some (by kernel_rfl))⟩
  f23 := ⟨Tryz.f292.name, by decide, Tryz.func292.trans (congrArg some (by kernel_rfl))⟩
  f24 := ⟨Tryz.f293.name, by decide, Tryz.func293.trans (congrArg some (by kernel_rfl))⟩
  f25 := ⟨Tryz.f294.name, by decide, Tryz.func294.trans (congrArg some (by kernel_rfl))⟩
  f26 := ⟨Tryz.f295.name, by decide, Tryz.func295.trans (congrArg some (by kernel_rfl))⟩
  f27 := ⟨Tryz.f296.name, by decide, Tryz.func296.trans (congrArg some (by kernel_rfl))⟩
  f28 := ⟨Tryz.f297.name, by decide, Tryz.func297.trans (congrArg some (by kernel_rfl))⟩
  f29 := ⟨Tryz.f298.name, by decide, Tryz.func298.trans (congrArg some (by kernel_rfl))⟩
  f31 := Tryz.func335.trans (congrArg some (by kernel_rfl))
  f32 := Tryz.func336.trans (congrArg some (by kernel_rfl))
  f36 := ⟨Tryz.f334.name, by decide, Tryz.func334.trans (congrArg some (by kernel_rfl))⟩
  f37 := ⟨Tryz.f337.name, by decide, Tryz.func337.trans (congrArg some (by kernel_rfl))⟩
  f38 := ⟨Tryz.f338.name, by decide, Tryz.func338.trans (congrArg some (by kernel_rfl))⟩
  f39 := ⟨Tryz.f314.name, by decide, Tryz.func314.trans (congrArg some (by kernel_rfl))⟩
  f41 := ⟨Tryz.f367.name, by decide, Tryz.func367.trans (congrArg some (by kernel_rfl))⟩
  t0 := Tryz.underlying0
  a0 := Tryz.isAgg0
  z0 := Tryz.sizeOf0
  v0 := Tryz.zeroValue0
  t3 := Tryz.underlying3
  a3 := Tryz.isAgg3
  z3 := Tryz.sizeOf3
  v3 := Tryz.zeroValue3
  t4 := Tryz.underlying4
  a4 := Tryz.isAgg4
  z4 := Tryz.sizeOf4
  v4 := Tryz.zeroValue4
  t5 := Tryz.underlying5
  a5 := Tryz.isAgg5
  z5 := Tryz.sizeOf5
  v5 := Tryz.zeroValue5
  t9 := Tryz.underlying9
  a9 := Tryz.isAgg9
  z9 := Tryz.sizeOf9
  v9 := Tryz.zeroValue9
  t26 := Tryz.underlying22
  a26 := Tryz.isAgg22
  z26 := Tryz.sizeOf22
  v26 := Tryz.zeroValue22
  t27 := Tryz.underlying22
  a27 := Tryz.isAgg22
  z27 := Tryz.sizeOf22
  v27 := Tryz.zeroValue22
  t29 := Tryz.underlying9
  a29 := Tryz.isAgg9
  z29 := Tryz.sizeOf9
  v29 := Tryz.zeroValue9
  t32 := Tryz.underlying235
  a32 := Tryz.isAgg235
  z32 := Tryz.sizeOf235
  v32 := Tryz.zeroValue235
  t35 := Tryz.underlying354
  a35 := Tryz.isAgg354
  z35 := Tryz.sizeOf354
  v35 := Tryz.zeroValue354
  t36 := Tryz.underlying355
  a36 := Tryz.isAgg355
  z36 := Tryz.sizeOf355
  v36 := Tryz.zeroValue355
  t41 := Tryz.underlying149
  a41 := Tryz.isAgg149
  z41 := Tryz.sizeOf149
  v41 := Tryz.zeroValue149
  t44 := Tryz.underlying362
  a44 := Tryz.isAgg362
  z44 := Tryz.sizeOf362
  v44 := Tryz.zeroValue362
  t46 := Tryz.underlying364
  a46 := Tryz.isAgg364
  z46 := Tryz.sizeOf364
  v46 := Tryz.zeroValue364
  t53 := Tryz.underlying386
  a53 := Tryz.isAgg386
  z53 := Tryz.sizeOf386
  v53 := Tryz.zeroValue386
  t57 := Tryz.underlying129
  a57 := Tryz.isAgg129
  z57 := Tryz.sizeOf129
  v57 := Tryz.zeroValue129
  t63 := Tryz.underlying410
  a63 := Tryz.isAgg410
  z63 := Tryz.sizeOf410
  v63 := Tryz.zeroValue410
  t64 := Tryz.underlying100
  a64 := Tryz.isAgg100
  z64 := Tryz.sizeOf100
  v64 := Tryz.zeroValue100 }
/-- slices.Sort's two contracts at this dump, at the fence that asks nothing. -/
theorem Tryz.sorts144 (m : Nat) : AnyZ.SortsIn Tryz.prog Tryz.sorted144_ren Fence.wide m :=
  ⟨fun blk off cap ss W hH hblk hsz => callsIn_wide.2 (AnyM.slices_Sort_string Tryz.sort169 blk off cap ss W hH hblk hsz),
   fun p cap W => callsIn_wide.2 (AnyM.slices_Sort_string_none Tryz.sort169 p cap W)⟩

/-- **maps.Keys[map[string]bool,string,bool], at whatever map, the nil one too:** a function value over ONE NEW BLOCK, which holds the map. -/
theorem Tryz.maps_Keys_145 (mb : Option Nat) (W : World) : CallsIn Fence.wide 5 Tryz.prog 145 #[.map mb] W fun e w' => e = .returned (.func (.func 214) #[] #[.pointer (some ⟨W.heap.size, 0, none⟩)]) ∧ w' = W.alloc (.cells #[.map mb] 93) :=
  AnyZ.keys_in Tryz.keys145 Fence.wide 5 trivial rfl mb W

set_option maxHeartbeats 1000000 in
/-- **slices.Sorted[string] AT WHAT maps.Keys[map[string]bool,string,bool] HANDED BACK FOR A MAP THAT IS NOT nil** ('w': the world AHEAD of maps.Keys' call): A NEW SLICE THAT HOLDS THE MAP's KEYS, SORTED; nil just where it has none; nothing that lay before has turned. -/
theorem Tryz.slices_Sorted_keys_144_145 {H : Type} (b nn : Nat) (D0 : DataW H) (R : Value → Option (DataW H × List MemPlace)) (w : World) (hown : w.ownsMap Tryz.prog 9 R b nn D0) (hmax : Maps.size D0 ≤ maxLen) (hbytes : Maps.size D0 * 16 ≤ 140737488355328) :
    CallsIn Fence.wide 5 Tryz.prog 144 #[.func (.func 214) #[] #[.pointer (some ⟨w.heap.size, 0, none⟩)]] (w.alloc (.cells #[.map (some b)] 93)) fun e w' => ∃ (v : Value) (ss : List (List UInt8)), e = .returned v ∧ ss.Perm (strKeys D0) ∧
      w'.ownsRow (w.alloc (.cells #[.map (some b)] 93)).heap.size 9 1 v ss.length ((ss.mergeSort (fun x y => decide (x ≤ y))).map encStr) ∧ (v = .slice none 0 0 ↔ ss = []) ∧ Below (w.alloc (.cells #[.map (some b)] 93)).heap.size (w.alloc (.cells #[.map (some b)] 93)) w' := by
  have hbl := hown.lt
  have hseq : SeqGives Fence.wide 2 Tryz.prog 214 #[.pointer (some ⟨w.heap.size, 0, none⟩)] encStr (fun ss => ss.Perm (strKeys D0)) (Maps.size D0) (w.alloc (.cells #[.map (some b)] 93)) :=
    AnyZ.keys_gives (ρ := Tryz.keys145_ren) { Tryz.keys145 with } Fence.wide _ trivial rfl (by omega) w.heap.size b nn D0 _ (by simp) (by simp) (by
      obtain ⟨es, clock, hb, Ft, hs, hD⟩ := hown
      exact ⟨es, clock, (Below.heap_alloc _ _ b hbl).trans hb, Ft, hs, hD⟩)
  exact AnyZ.sorted_in Tryz.sorted144 Fence.wide 5 trivial trivial trivial trivial rfl (by omega) (Tryz.sorts144 _) (enters_of Tryz.func169 (by kernel_rfl) rfl) 214 #[.pointer (some ⟨w.heap.size, 0, none⟩)] trivial (enters_of Tryz.func214 (by kernel_rfl) rfl) _ _ hmax hbytes _ hseq

end Go.Proofs
