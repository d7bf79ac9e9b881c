/-
  DERIVED. GIVEN WITH THE SEED: THE CARDS: each row of YtggdddkbhigjoaaDoorRows.lean that lists a variable, with what it lists TIED to the program's text (the seventh form; the later family's looks); each row that meets fmt, with fmt's text TOLD by the authors' own Lean function (tested against real Go, not proved from fmt's source: count such statements apart). THE CARD IS WHAT COUNTS. Prove the row's statement (the work); the ties are given (YtggdddkbhigjoaaDoorTie.lean); close each card by the builder's one call (the guide's Derived/Test/ToyasCard.lean, 'card_holds'). Laid BY PROGRAM, IN A SANDBOX (cutbox-door.mjs). By AI agents, Wed Nov 11 2026. No macro, syntax, notation, axiom, sorry.
-/
import Derived.Test.YtggdddkbhigjoaaDoorRows
import GoSem.ClaimSeven
namespace Go.Proofs.YtggdddkbhigjoaaDoor
namespace Rows

/-- THE TIED CARD OF 'redraftlaw06.HistoryMany'. -/
def historyManyCard : Claim7 := { stood := { row := historyManyRow, standIns := [], harness := (true, "f64dabb120541552194f81c04b2eadfb4b37c8520614b1b0a6ce6975218137b9"), looks := false }, kinds := [], alts := [], laidByText := true, laidKinds := [.data], laidTests := true, laidLooks := .later }
def HistoryManyCardSaid : Prop := Claim7.holds Tryd.pinned (.plain (OpenSpec.ofChange historyManySpec)) historyManyCard

/-- THE TIED CARD OF 'redraftlaw06.HistoryCarries'. -/
def historyCarriesCard : Claim7 := { stood := { row := historyCarriesRow, standIns := [], harness := (true, "f64dabb120541552194f81c04b2eadfb4b37c8520614b1b0a6ce6975218137b9"), looks := false }, kinds := [], alts := [], laidByText := true, laidKinds := [.data], laidTests := true, laidLooks := .later }
def HistoryCarriesCardSaid : Prop := Claim7.holds Tryd.pinned (.plain (OpenSpec.ofChange historyCarriesSpec)) historyCarriesCard

/-- THE TIED CARD OF 'redraftlaw06.HistoryCounts'. -/
def historyCountsCard : Claim7 := { stood := { row := historyCountsRow, standIns := [], harness := (true, "f64dabb120541552194f81c04b2eadfb4b37c8520614b1b0a6ce6975218137b9"), looks := false }, kinds := [], alts := [], laidByText := true, laidKinds := [.data], laidTests := true, laidLooks := .later }
def HistoryCountsCardSaid : Prop := Claim7.holds Tryd.pinned (.plain (OpenSpec.ofChange historyCountsSpec)) historyCountsCard

/-- THE TIED CARD OF 'redraftlaw06.HistoryTurns'. -/
def historyTurnsCard : Claim7 := { stood := { row := historyTurnsRow, standIns := [], harness := (true, "f64dabb120541552194f81c04b2eadfb4b37c8520614b1b0a6ce6975218137b9"), looks := false }, kinds := [], alts := [], laidByText := true, laidKinds := [.data], laidTests := true, laidLooks := .later }
def HistoryTurnsCardSaid : Prop := Claim7.holds Tryd.pinned (.plain (OpenSpec.ofChange historyTurnsSpec)) historyTurnsCard

/-- THE TIED CARD OF 'redraftlaw06.HistoryIsFold'. -/
def historyIsFoldCard : Claim7 := { stood := { row := historyIsFoldRow, standIns := [], harness := (true, "f64dabb120541552194f81c04b2eadfb4b37c8520614b1b0a6ce6975218137b9"), looks := false }, kinds := [], alts := [], laidByText := true, laidKinds := [.data], laidTests := true, laidLooks := .later }
def HistoryIsFoldCardSaid : Prop := Claim7.holds Tryd.pinned (.plain (OpenSpec.ofChange historyIsFoldSpec)) historyIsFoldCard

/-- THE TIED CARD OF 'redraftlaw06.HistoryMeets'. -/
def historyMeetsCard : Claim7 := { stood := { row := historyMeetsRow, standIns := [], harness := (true, "f64dabb120541552194f81c04b2eadfb4b37c8520614b1b0a6ce6975218137b9"), looks := false }, kinds := [], alts := [], laidByText := true, laidKinds := [.data], laidTests := true, laidLooks := .later }
def HistoryMeetsCardSaid : Prop := Claim7.holds Tryd.pinned (.plain (OpenSpec.ofChange historyMeetsSpec)) historyMeetsCard

/-- THE SECOND FORM's CARD OF 'redraftlaw06.HistoryMany'. -/
def historyManyUptoCard : Claim7 := { stood := { row := historyManyUptoRow, standIns := [], harness := (true, "f64dabb120541552194f81c04b2eadfb4b37c8520614b1b0a6ce6975218137b9"), looks := false }, kinds := [], alts := [], laidByText := true, laidKinds := [.data], laidTests := true, laidLooks := .later }
def HistoryManyUptoCardSaid : Prop := Claim7.holds Tryd.pinned (.plain (OpenSpec.upto historyManySpec)) historyManyUptoCard

/-- THE SECOND FORM's CARD OF 'redraftlaw06.HistoryCarries'. -/
def historyCarriesUptoCard : Claim7 := { stood := { row := historyCarriesUptoRow, standIns := [], harness := (true, "f64dabb120541552194f81c04b2eadfb4b37c8520614b1b0a6ce6975218137b9"), looks := false }, kinds := [], alts := [], laidByText := true, laidKinds := [.data], laidTests := true, laidLooks := .later }
def HistoryCarriesUptoCardSaid : Prop := Claim7.holds Tryd.pinned (.plain (OpenSpec.upto historyCarriesSpec)) historyCarriesUptoCard

/-- THE SECOND FORM's CARD OF 'redraftlaw06.HistoryCounts'. -/
def historyCountsUptoCard : Claim7 := { stood := { row := historyCountsUptoRow, standIns := [], harness := (true, "f64dabb120541552194f81c04b2eadfb4b37c8520614b1b0a6ce6975218137b9"), looks := false }, kinds := [], alts := [], laidByText := true, laidKinds := [.data], laidTests := true, laidLooks := .later }
def HistoryCountsUptoCardSaid : Prop := Claim7.holds Tryd.pinned (.plain (OpenSpec.upto historyCountsSpec)) historyCountsUptoCard

/-- THE SECOND FORM's CARD OF 'redraftlaw06.HistoryTurns'. -/
def historyTurnsUptoCard : Claim7 := { stood := { row := historyTurnsUptoRow, standIns := [], harness := (true, "f64dabb120541552194f81c04b2eadfb4b37c8520614b1b0a6ce6975218137b9"), looks := false }, kinds := [], alts := [], laidByText := true, laidKinds := [.data], laidTests := true, laidLooks := .later }
def HistoryTurnsUptoCardSaid : Prop := Claim7.holds Tryd.pinned (.plain (OpenSpec.upto historyTurnsSpec)) historyTurnsUptoCard

/-- THE SECOND FORM's CARD OF 'redraftlaw06.HistoryIsFold'. -/
def historyIsFoldUptoCard : Claim7 := { stood := { row := historyIsFoldUptoRow, standIns := [], harness := (true, "f64dabb120541552194f81c04b2eadfb4b37c8520614b1b0a6ce6975218137b9"), looks := false }, kinds := [], alts := [], laidByText := true, laidKinds := [.data], laidTests := true, laidLooks := .later }
def HistoryIsFoldUptoCardSaid : Prop := Claim7.holds Tryd.pinned (.plain (OpenSpec.upto historyIsFoldSpec)) historyIsFoldUptoCard

/-- THE SECOND FORM's CARD OF 'redraftlaw06.HistoryMeets'. -/
def historyMeetsUptoCard : Claim7 := { stood := { row := historyMeetsUptoRow, standIns := [], harness := (true, "f64dabb120541552194f81c04b2eadfb4b37c8520614b1b0a6ce6975218137b9"), looks := false }, kinds := [], alts := [], laidByText := true, laidKinds := [.data], laidTests := true, laidLooks := .later }
def HistoryMeetsUptoCardSaid : Prop := Claim7.holds Tryd.pinned (.plain (OpenSpec.upto historyMeetsSpec)) historyMeetsUptoCard
end Rows
end Go.Proofs.YtggdddkbhigjoaaDoor
