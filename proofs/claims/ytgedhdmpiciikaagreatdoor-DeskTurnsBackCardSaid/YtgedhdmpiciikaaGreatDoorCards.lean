/-
  DERIVED. GIVEN WITH THE SEED: THE CARDS: each row of YtgedhdmpiciikaaGreatDoorRows.lean that lists a variable, with what it lists TIED to the program's text (the seventh form; the later family's looks); each row that meets fmt, with fmt's text TOLD by the authors' own Lean function (tested against real Go, not proved from fmt's source: count such statements apart). THE CARD IS WHAT COUNTS. Prove the row's statement (the work); the ties are given (YtgedhdmpiciikaaGreatDoorTie.lean); close each card by the builder's one call (the guide's Derived/Test/ToyasCard.lean, 'card_holds'). Laid BY PROGRAM, IN A SANDBOX (cutbox-door.mjs). By AI agents, Wed Nov 11 2026. No macro, syntax, notation, axiom, sorry.
-/
import Derived.Test.YtgedhdmpiciikaaGreatDoorRows
import GoSem.ClaimSeven
namespace Go.Proofs.YtgedhdmpiciikaaGreatDoor
namespace Rows

/-- THE TIED CARD OF 'redraftlaw08.DeskEdits'. -/
def deskEditsCard : Claim7 := { stood := { row := deskEditsRow, standIns := [], harness := (true, "2fddaa253de1b16833a4c067ae802ee2906abbb46c29921ec743fd60b9692ef9"), looks := true }, kinds := [], alts := [], laidByText := true, laidKinds := [.handle, .data, .data], laidTests := true, laidLooks := .later }
def DeskEditsCardSaid : Prop := Claim7.holds Tryz.pinned (.plain (OpenSpec.ofChange deskEditsSpec)) deskEditsCard

/-- THE TIED CARD OF 'redraftlaw08.DeskTurnsBack'. -/
def deskTurnsBackCard : Claim7 := { stood := { row := deskTurnsBackRow, standIns := [], harness := (true, "2fddaa253de1b16833a4c067ae802ee2906abbb46c29921ec743fd60b9692ef9"), looks := true }, kinds := [], alts := [], laidByText := true, laidKinds := [.handle, .data, .data], laidTests := true, laidLooks := .later }
def DeskTurnsBackCardSaid : Prop := Claim7.holds Tryz.pinned (.plain (OpenSpec.ofChange deskTurnsBackSpec)) deskTurnsBackCard

/-- THE TIED CARD OF 'redraftlaw08.DeskOneText'. -/
def deskOneTextCard : Claim7 := { stood := { row := deskOneTextRow, standIns := [], harness := (true, "2fddaa253de1b16833a4c067ae802ee2906abbb46c29921ec743fd60b9692ef9"), looks := true }, kinds := [], alts := [], laidByText := true, laidKinds := [.handle, .data, .data], laidTests := true, laidLooks := .later }
def DeskOneTextCardSaid : Prop := Claim7.holds Tryz.pinned (.plain (OpenSpec.ofChange deskOneTextSpec)) deskOneTextCard

/-- THE TIED CARD OF 'redraftlaw08.DeskOrderIsAll'. -/
def deskOrderIsAllCard : Claim7 := { stood := { row := deskOrderIsAllRow, standIns := [], harness := (true, "2fddaa253de1b16833a4c067ae802ee2906abbb46c29921ec743fd60b9692ef9"), looks := true }, kinds := [], alts := [], laidByText := true, laidKinds := [.handle, .data, .data], laidTests := true, laidLooks := .later }
def DeskOrderIsAllCardSaid : Prop := Claim7.holds Tryz.pinned (.plain (OpenSpec.ofChange deskOrderIsAllSpec)) deskOrderIsAllCard

/-- THE SECOND FORM's CARD OF 'redraftlaw08.DeskEdits'. -/
def deskEditsUptoCard : Claim7 := { stood := { row := deskEditsUptoRow, standIns := [], harness := (true, "2fddaa253de1b16833a4c067ae802ee2906abbb46c29921ec743fd60b9692ef9"), looks := true }, kinds := [], alts := [], laidByText := true, laidKinds := [.handle, .data, .data], laidTests := true, laidLooks := .later }
def DeskEditsUptoCardSaid : Prop := Claim7.holds Tryz.pinned (.plain (OpenSpec.upto deskEditsSpec)) deskEditsUptoCard

/-- THE SECOND FORM's CARD OF 'redraftlaw08.DeskTurnsBack'. -/
def deskTurnsBackUptoCard : Claim7 := { stood := { row := deskTurnsBackUptoRow, standIns := [], harness := (true, "2fddaa253de1b16833a4c067ae802ee2906abbb46c29921ec743fd60b9692ef9"), looks := true }, kinds := [], alts := [], laidByText := true, laidKinds := [.handle, .data, .data], laidTests := true, laidLooks := .later }
def DeskTurnsBackUptoCardSaid : Prop := Claim7.holds Tryz.pinned (.plain (OpenSpec.upto deskTurnsBackSpec)) deskTurnsBackUptoCard

/-- THE SECOND FORM's CARD OF 'redraftlaw08.DeskOneText'. -/
def deskOneTextUptoCard : Claim7 := { stood := { row := deskOneTextUptoRow, standIns := [], harness := (true, "2fddaa253de1b16833a4c067ae802ee2906abbb46c29921ec743fd60b9692ef9"), looks := true }, kinds := [], alts := [], laidByText := true, laidKinds := [.handle, .data, .data], laidTests := true, laidLooks := .later }
def DeskOneTextUptoCardSaid : Prop := Claim7.holds Tryz.pinned (.plain (OpenSpec.upto deskOneTextSpec)) deskOneTextUptoCard

/-- THE SECOND FORM's CARD OF 'redraftlaw08.DeskOrderIsAll'. -/
def deskOrderIsAllUptoCard : Claim7 := { stood := { row := deskOrderIsAllUptoRow, standIns := [], harness := (true, "2fddaa253de1b16833a4c067ae802ee2906abbb46c29921ec743fd60b9692ef9"), looks := true }, kinds := [], alts := [], laidByText := true, laidKinds := [.handle, .data, .data], laidTests := true, laidLooks := .later }
def DeskOrderIsAllUptoCardSaid : Prop := Claim7.holds Tryz.pinned (.plain (OpenSpec.upto deskOrderIsAllSpec)) deskOrderIsAllUptoCard
end Rows
end Go.Proofs.YtgedhdmpiciikaaGreatDoor
