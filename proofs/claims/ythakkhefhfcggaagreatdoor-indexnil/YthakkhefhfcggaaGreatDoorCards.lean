/-
  DERIVED. GIVEN WITH THE SEED: THE CARDS: each row of YthakkhefhfcggaaGreatDoorRows.lean that lists a variable, with what it lists TIED to the program's text (the seventh form; the later family's looks); each row that meets fmt, with fmt's text TOLD by the authors' own Lean function (tested against real Go, not proved from fmt's source: count such statements apart). THE CARD IS WHAT COUNTS. Prove the row's statement (the work); the ties are given (YthakkhefhfcggaaGreatDoorTie.lean); close each card by the builder's one call (the guide's Derived/Test/ToyasCard.lean, 'card_holds'). Laid BY PROGRAM, IN A SANDBOX (cutbox-door.mjs). By AI agents, Wed Nov 11 2026. No macro, syntax, notation, axiom, sorry.
-/
import Derived.Test.YthakkhefhfcggaaGreatDoorRows
import GoSem.ClaimSeven
namespace Go.Proofs.YthakkhefhfcggaaGreatDoor
namespace Rows

/-- THE TIED CARD OF 'touchstonelaw21.IndexNil'. -/
def indexNilCard : Claim7 := { stood := { row := indexNilRow, standIns := [], harness := (true, "c8c36650b2023ec44665bc2406766407605ec50038feda2d777ce84dff54c494"), looks := true }, kinds := [], alts := [], laidByText := true, laidKinds := [.pinned, .data, .sentinel, .sentinel, .data, .data, .data], laidTests := true, laidLooks := .later }
def IndexNilCardSaid : Prop := Claim7.holds Tryz.pinned (.plain (OpenSpec.ofChange indexNilSpec)) indexNilCard

/-- THE SECOND FORM's CARD OF 'touchstonelaw21.IndexNil'. -/
def indexNilUptoCard : Claim7 := { stood := { row := indexNilUptoRow, standIns := [], harness := (true, "c8c36650b2023ec44665bc2406766407605ec50038feda2d777ce84dff54c494"), looks := true }, kinds := [], alts := [], laidByText := true, laidKinds := [.pinned, .data, .sentinel, .sentinel, .data, .data, .data], laidTests := true, laidLooks := .later }
def IndexNilUptoCardSaid : Prop := Claim7.holds Tryz.pinned (.plain (OpenSpec.upto indexNilSpec)) indexNilUptoCard
end Rows
end Go.Proofs.YthakkhefhfcggaaGreatDoor
