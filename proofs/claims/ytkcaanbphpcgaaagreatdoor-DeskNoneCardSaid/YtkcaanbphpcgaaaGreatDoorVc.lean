import Derived.Test.YtkcaanbphpcgaaaGreatDoorProg
import Derived.KernelRfl
import Derived.Test.YtkcaanbphpcgaaaGreatDoorVb
set_option linter.all false
namespace Go.Ev
open Go
noncomputable section
def tb24 : List (Nat × List (List AV × AV)) := [(142, [([.str [50, 59, 32, 69, 47, 50, 32, 48, 44, 49], .str [59, 32]], .int .i64 1), ([.str [69, 47, 50, 32, 48, 44, 49], .str [59, 32]], .int .i64 (-1))])]
def tc24 : List (List AV × AV) := [([.str [102, 111, 114, 109, 117, 108, 97, 32, 102, 32, 115, 111, 109, 101, 40, 120, 32, 121, 58, 32, 69, 40, 120, 32, 121, 41, 41], .int .u8 32], .int .i64 5),
  ([.str [104, 111, 108, 100, 115, 32, 102, 32, 103], .int .u8 32], .int .i64 2),
  ([.str [108, 105, 115, 116], .int .u8 32], .int .i64 0),
  ([.str [115, 116, 114, 117, 99, 116, 117, 114, 101, 32, 103, 32, 50, 59, 32, 69, 47, 50, 32, 48, 44, 49], .int .u8 32], .int .i64 4),
  ([.str [48, 44, 49], .int .u8 44], .int .i64 1),
  ([.str [69, 47, 50, 32, 48, 44, 49], .int .u8 32], .int .i64 1)]
def ti24 : List (List AV × AV) := [([.str [102, 111, 114, 109, 117, 108, 97, 32, 102, 32, 115, 111, 109, 101, 40, 120, 32, 121, 58, 32, 69, 40, 120, 32, 121, 41, 41], .int .u8 32], .int .i64 7),
  ([.str [102, 32, 103], .int .u8 32], .int .i64 1),
  ([.str [102, 32, 115, 111, 109, 101, 40, 120, 32, 121, 58, 32, 69, 40, 120, 32, 121, 41, 41], .int .u8 32], .int .i64 1),
  ([.str [103, 32, 50, 59, 32, 69, 47, 50, 32, 48, 44, 49], .int .u8 32], .int .i64 1),
  ([.str [104, 111, 108, 100, 115, 32, 102, 32, 103], .int .u8 32], .int .i64 5),
  ([.str [115, 111, 109, 101, 40, 120, 32, 121, 58, 32, 69, 40, 120, 32, 121, 41, 41], .int .u8 32], .int .i64 6),
  ([.str [115, 116, 114, 117, 99, 116, 117, 114, 101, 32, 103, 32, 50, 59, 32, 69, 47, 50, 32, 48, 44, 49], .int .u8 32], .int .i64 9),
  ([.str [121, 58, 32, 69, 40, 120, 32, 121, 41, 41], .int .u8 32], .int .i64 2),
  ([.str [48, 44, 49], .int .u8 44], .int .i64 1),
  ([.str [50, 59, 32, 69, 47, 50, 32, 48, 44, 49], .int .u8 32], .int .i64 2),
  ([.str [69, 40, 120, 32, 121, 41, 41], .int .u8 32], .int .i64 3),
  ([.str [69, 47, 50, 32, 48, 44, 49], .int .u8 32], .int .i64 3),
  ([.str [69, 47, 50], .int .u8 47], .int .i64 1)]
def ext24 (g : Nat) (args : List AV) : Option AV :=
  bif Nat.beq g 141 then findP args tc24
  else bif Nat.beq g 541 then findP args ti24
  else bif Nat.beq g 200 then (match args with | [x] => some x | _ => none)
  else none
def mkz24 (g : Nat) : Option TypeId := bif Nat.beq g 201 then some 5 else none
def E24 : Env := envOf Go.Proofs.Tryz.prog [98, 182] (tab tb24) [] ext24 mkz24
end
end Go.Ev
