/-
  DERIVED. GIVEN WITH THE SEED: THE CARDS: each row of YtjjnjnnfebifnaaGreatDoorRows.lean that lists a variable, with what it lists TIED to the program's text (the seventh form; the later family's looks); each row that meets fmt, with fmt's text TOLD by the authors' own Lean function (tested against real Go, not proved from fmt's source: count such statements apart). THE CARD IS WHAT COUNTS. Prove the row's statement (the work); the ties are given (YtjjnjnnfebifnaaGreatDoorTie.lean); close each card by the builder's one call (the guide's Derived/Test/ToyasCard.lean, 'card_holds'). Laid BY PROGRAM, IN A SANDBOX (cutbox-door.mjs). By AI agents, Wed Nov 11 2026. No macro, syntax, notation, axiom, sorry.
-/
import Derived.Test.YtjjnjnnfebifnaaGreatDoorRows
import GoSem.ClaimSeven
namespace Go.Proofs.YtjjnjnnfebifnaaGreatDoor
namespace Rows

/-- THE TIED CARD OF 'paraphrastlaw06.FixFlat'. -/
def fixFlatCard : Claim7 := { stood := { row := fixFlatRow, standIns := [], harness := (true, "01c2ddbdeea9ed653584e4d19a59d0f0c64126a11f291d5a3f0cd17a3186afd9"), looks := true }, kinds := [], alts := [], laidByText := true, laidKinds := [.data, .data, .data], laidTests := true, laidLooks := .later }
def FixFlatCardSaid : Prop := Claim7.holds Tryz.pinned (.plain (OpenSpec.ofChange fixFlatSpec)) fixFlatCard

/-- THE TIED CARD OF 'paraphrastlaw13.ReachNormal'. -/
def reachNormalCard : Claim7 := { stood := { row := reachNormalRow, standIns := [], harness := (true, "01c2ddbdeea9ed653584e4d19a59d0f0c64126a11f291d5a3f0cd17a3186afd9"), looks := true }, kinds := [], alts := [], laidByText := true, laidKinds := [.data, .data, .data, .sentinel, .sentinel], laidTests := true, laidLooks := .later }
def ReachNormalCardSaid : Prop := Claim7.holds Tryz.pinned (.plain (OpenSpec.ofChange reachNormalSpec)) reachNormalCard

/-- THE SECOND FORM's CARD OF 'paraphrastlaw06.FixFlat'. -/
def fixFlatUptoCard : Claim7 := { stood := { row := fixFlatUptoRow, standIns := [], harness := (true, "01c2ddbdeea9ed653584e4d19a59d0f0c64126a11f291d5a3f0cd17a3186afd9"), looks := true }, kinds := [], alts := [], laidByText := true, laidKinds := [.data, .data, .data], laidTests := true, laidLooks := .later }
def FixFlatUptoCardSaid : Prop := Claim7.holds Tryz.pinned (.plain (OpenSpec.upto fixFlatSpec)) fixFlatUptoCard

/-- THE SECOND FORM's CARD OF 'paraphrastlaw13.ReachNormal'. -/
def reachNormalUptoCard : Claim7 := { stood := { row := reachNormalUptoRow, standIns := [], harness := (true, "01c2ddbdeea9ed653584e4d19a59d0f0c64126a11f291d5a3f0cd17a3186afd9"), looks := true }, kinds := [], alts := [], laidByText := true, laidKinds := [.data, .data, .data, .sentinel, .sentinel], laidTests := true, laidLooks := .later }
def ReachNormalUptoCardSaid : Prop := Claim7.holds Tryz.pinned (.plain (OpenSpec.upto reachNormalSpec)) reachNormalUptoCard
end Rows
end Go.Proofs.YtjjnjnnfebifnaaGreatDoor
