/-
  DERIVED. GIVEN WITH THE SEED: THE CARDS: each row of YtfbppbelcbbhlaaGreatDoorRows.lean that lists a variable, with what it lists TIED to the program's text (the seventh form; the later family's looks); each row that meets fmt, with fmt's text TOLD by the authors' own Lean function (tested against real Go, not proved from fmt's source: count such statements apart). THE CARD IS WHAT COUNTS. Prove the row's statement (the work); the ties are given (YtfbppbelcbbhlaaGreatDoorTie.lean); close each card by the builder's one call (the guide's Derived/Test/ToyasCard.lean, 'card_holds'). Laid BY PROGRAM, IN A SANDBOX (cutbox-door.mjs). By AI agents, Wed Nov 11 2026. No macro, syntax, notation, axiom, sorry.
-/
import Derived.Test.YtfbppbelcbbhlaaGreatDoorRows
import GoSem.ClaimSeven
namespace Go.Proofs.YtfbppbelcbbhlaaGreatDoor
namespace Rows

/-- THE TIED CARD OF 'calamuslaw05.SfntKnown'. -/
def sfntKnownCard : Claim7 := { stood := { row := sfntKnownRow, standIns := [], harness := (true, "d05f8ef9c2a24792fa08a415627bd4222bb289e7b48416f89d0fdaea3a586396"), looks := true }, kinds := [], alts := [], laidByText := true, laidKinds := [.data], laidTests := true, laidLooks := .later }
def SfntKnownCardSaid : Prop := Claim7.holds Tryz.pinned (.plain (OpenSpec.ofChange sfntKnownSpec)) sfntKnownCard

/-- THE SECOND FORM's CARD OF 'calamuslaw05.SfntKnown'. -/
def sfntKnownUptoCard : Claim7 := { stood := { row := sfntKnownUptoRow, standIns := [], harness := (true, "d05f8ef9c2a24792fa08a415627bd4222bb289e7b48416f89d0fdaea3a586396"), looks := true }, kinds := [], alts := [], laidByText := true, laidKinds := [.data], laidTests := true, laidLooks := .later }
def SfntKnownUptoCardSaid : Prop := Claim7.holds Tryz.pinned (.plain (OpenSpec.upto sfntKnownSpec)) sfntKnownUptoCard
end Rows
end Go.Proofs.YtfbppbelcbbhlaaGreatDoor
