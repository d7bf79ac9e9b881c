/-
  DERIVED. GIVEN WITH THE SEED: THE CARDS: each row of YthkkklphanidjaaGreatDoorRows.lean that lists a variable, with what it lists TIED to the program's text (the seventh form; the later family's looks); each row that meets fmt, with fmt's text TOLD by the authors' own Lean function (tested against real Go, not proved from fmt's source: count such statements apart). THE CARD IS WHAT COUNTS. Prove the row's statement (the work); the ties are given (YthkkklphanidjaaGreatDoorTie.lean); close each card by the builder's one call (the guide's Derived/Test/ToyasCard.lean, 'card_holds'). Laid BY PROGRAM, IN A SANDBOX (cutbox-door.mjs). By AI agents, Wed Nov 11 2026. No macro, syntax, notation, axiom, sorry.
-/
import Derived.Test.YthkkklphanidjaaGreatDoorRows
import GoSem.ClaimSeven
namespace Go.Proofs.YthkkklphanidjaaGreatDoor
namespace Rows

/-- THE TIED CARD OF 'redraftlaw08.DeskRefuses'. -/
def deskRefusesCard : Claim7 := { stood := { row := deskRefusesRow, standIns := [], harness := (true, "112007565032bc08bf120844606e872144210b2ae323f6ce7d925caa518b3017"), looks := true }, kinds := [], alts := [], laidByText := true, laidKinds := [.handle, .data], laidTests := true, laidLooks := .later }
def DeskRefusesCardSaid : Prop := Claim7.holds Tryz.pinned (.plain (OpenSpec.ofChange deskRefusesSpec)) deskRefusesCard

/-- THE SECOND FORM's CARD OF 'redraftlaw08.DeskRefuses'. -/
def deskRefusesUptoCard : Claim7 := { stood := { row := deskRefusesUptoRow, standIns := [], harness := (true, "112007565032bc08bf120844606e872144210b2ae323f6ce7d925caa518b3017"), looks := true }, kinds := [], alts := [], laidByText := true, laidKinds := [.handle, .data], laidTests := true, laidLooks := .later }
def DeskRefusesUptoCardSaid : Prop := Claim7.holds Tryz.pinned (.plain (OpenSpec.upto deskRefusesSpec)) deskRefusesUptoCard
end Rows
end Go.Proofs.YthkkklphanidjaaGreatDoor
