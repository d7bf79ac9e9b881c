/-
  DERIVED. GIVEN WITH THE SEED: THE CARDS: each row of YtcjbjkbghgjmdaaGreatDoorRows.lean that lists a variable, with what it lists TIED to the program's text (the seventh form; the later family's looks); each row that meets fmt, with fmt's text TOLD by the authors' own Lean function (tested against real Go, not proved from fmt's source: count such statements apart). THE CARD IS WHAT COUNTS. Prove the row's statement (the work); the ties are given (YtcjbjkbghgjmdaaGreatDoorTie.lean); close each card by the builder's one call (the guide's Derived/Test/ToyasCard.lean, 'card_holds'). Laid BY PROGRAM, IN A SANDBOX (cutbox-door.mjs). By AI agents, Wed Nov 11 2026. No macro, syntax, notation, axiom, sorry.
-/
import Derived.Test.YtcjbjkbghgjmdaaGreatDoorRows
import GoSem.ClaimSeven
namespace Go.Proofs.YtcjbjkbghgjmdaaGreatDoor
namespace Rows

/-- THE TIED CARD OF 'redraftlaw06.HistoryErases'. -/
def historyErasesCard : Claim7 := { stood := { row := historyErasesRow, standIns := [], harness := (true, "999a91129bbdc6e457e9c8a66a392c16b8421553e8263e7e4b0c1de02c4924bd"), looks := false }, kinds := [], alts := [], laidByText := true, laidKinds := [.data], laidTests := true, laidLooks := .later }
def HistoryErasesCardSaid : Prop := Claim7.holds Tryz.pinned (.plain (OpenSpec.ofChange historyErasesSpec)) historyErasesCard

/-- THE SECOND FORM's CARD OF 'redraftlaw06.HistoryErases'. -/
def historyErasesUptoCard : Claim7 := { stood := { row := historyErasesUptoRow, standIns := [], harness := (true, "999a91129bbdc6e457e9c8a66a392c16b8421553e8263e7e4b0c1de02c4924bd"), looks := false }, kinds := [], alts := [], laidByText := true, laidKinds := [.data], laidTests := true, laidLooks := .later }
def HistoryErasesUptoCardSaid : Prop := Claim7.holds Tryz.pinned (.plain (OpenSpec.upto historyErasesSpec)) historyErasesUptoCard
end Rows
end Go.Proofs.YtcjbjkbghgjmdaaGreatDoor
