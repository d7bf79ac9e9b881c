/-
  DERIVED. GIVEN WITH THE SEED: THE CARDS: each row of YtggbpikbmnkiaaaGreatDoorRows.lean that lists a variable, with what it lists TIED to the program's text (the seventh form; the later family's looks); each row that meets fmt, with fmt's text TOLD by the authors' own Lean function (tested against real Go, not proved from fmt's source: count such statements apart). THE CARD IS WHAT COUNTS. Prove the row's statement (the work); the ties are given (YtggbpikbmnkiaaaGreatDoorTie.lean); close each card by the builder's one call (the guide's Derived/Test/ToyasCard.lean, 'card_holds'). Laid BY PROGRAM, IN A SANDBOX (cutbox-door.mjs). By AI agents, Wed Nov 11 2026. No macro, syntax, notation, axiom, sorry.
-/
import Derived.Test.YtggbpikbmnkiaaaGreatDoorRows
import GoSem.ClaimSeven
namespace Go.Proofs.YtggbpikbmnkiaaaGreatDoor
namespace Rows

/-- THE TIED CARD OF 'redraftlaw08.DeskNever'. -/
def deskNeverCard : Claim7 := { stood := { row := deskNeverRow, standIns := [], harness := (true, "c21dc6d1ec30154193e2a75d4b3ebbf94f18a6eff61f8fa17712071f82a3af31"), looks := true }, kinds := [], alts := [], laidByText := true, laidKinds := [.handle, .data, .data], laidTests := true, laidLooks := .later }
def DeskNeverCardSaid : Prop := Claim7.holds Tryz.pinned (.plain (OpenSpec.ofChange deskNeverSpec)) deskNeverCard

/-- THE SECOND FORM's CARD OF 'redraftlaw08.DeskNever'. -/
def deskNeverUptoCard : Claim7 := { stood := { row := deskNeverUptoRow, standIns := [], harness := (true, "c21dc6d1ec30154193e2a75d4b3ebbf94f18a6eff61f8fa17712071f82a3af31"), looks := true }, kinds := [], alts := [], laidByText := true, laidKinds := [.handle, .data, .data], laidTests := true, laidLooks := .later }
def DeskNeverUptoCardSaid : Prop := Claim7.holds Tryz.pinned (.plain (OpenSpec.upto deskNeverSpec)) deskNeverUptoCard
end Rows
end Go.Proofs.YtggbpikbmnkiaaaGreatDoor
