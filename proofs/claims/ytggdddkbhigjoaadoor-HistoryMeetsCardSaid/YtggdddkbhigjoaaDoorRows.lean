/-
  NARROWER THAN 'FOR EVERY INPUT', by the rows' own cells (each row's printed sentence says how): HistoryMany: laid · HistoryCarries: laid · HistoryCounts: laid · HistoryTurns: laid · HistoryIsFold: laid · HistoryMeets: laid.
  DERIVED. THE GIVEN ROWS OF THIS SEAT. 6 by the template 'for every input the law returns true; each argument reads behind the call as it read before'; 0 by the template 'total and deterministic' (their statements: YtggdddkbhigjoaaDoorTotals.lean).
  GIVEN WITH THE SEED: the statements are not yours to turn. If you find one false, say at which input.
  Laid BY PROGRAM, IN A SANDBOX (cutbox-rows.mjs): the forced cells as the released guide's own fill.sh prints them over the translation 1efd52bfb8746dcf… (all of the seat's roots in one cut). By AI agents, Wed Nov 11 2026. No macro, syntax, notation, axiom, sorry.
-/
import Derived.Test.YtggdddkbhigjoaaDoorChecked
import GoSem.Claim
import GoSem.ClaimJoined
import GoSem.ClaimMapViews
import Derived.JoinedTies
import Derived.KernelRfl
namespace Go.Proofs.YtggdddkbhigjoaaDoor
/- THE CELL 'sum', in the pinned program and in every row, IS THE sha256 OF THE DUMP (.gsa) THAT YtggdddkbhigjoaaDoorProg.lean LOADS. Nothing in Lean hashes anything: it is a label: what it is worth is what the hold of that sum in a sandbox is worth. -/
noncomputable def Tryd.pinned : Pinned := { name := "ytggdddkbhigjoaadoor", sum := "1efd52bfb8746dcfe275f4fc373688bd745dcb38671f60879da84e5eff6b0e98", checked := Tryd.checked }
namespace Rows
def none {H : Type} : Left H := { results := [], args := [] }

/- WHAT THE LISTED PACKAGE-LEVEL VARIABLES READ AS WHEN THE CALL BEGINS. Each datum BY PROGRAM (the guide's laid-datum.mjs) off the statement by which the dump's own 'gosem.cut.vars' lays the variable. In a bare row this is a premise. The card (YtggdddkbhigjoaaDoorCards.lean) ties it to the program's text. -/
def laid_redraft_utext_bars {H : Type} : DataW H := .agg [.agg [.lit (.int .i32 0), .lit (.int .i32 8)], .agg [.lit (.int .i32 11), .lit (.int .i32 31)], .agg [.lit (.int .i32 127), .lit (.int .i32 159)], .agg [.lit (.int .i32 64976), .lit (.int .i32 65007)], .agg [.lit (.int .i32 65279), .lit (.int .i32 65279)]]

/-- 'redraftlaw06.HistoryMany': WHATEVER THE INPUT: true; the input reads as it did. -/
def historyManySpec : ChangeSpec := { name := "historyMany", fn := fun _ => fun
  | [] => { results := [.lit (.bool true)], args := [] }
  | _ => none }
def historyManyRow : OpenClaim := { program := "ytggdddkbhigjoaadoor", sum := "1efd52bfb8746dcfe275f4fc373688bd745dcb38671f60879da84e5eff6b0e98", func := "redraft/redraftlaw06.HistoryMany", spec := "historyMany", named := ["redraft/utext.bars"], plainKeys := false, apart := false, laid := [("redraft/utext.bars", laid_redraft_utext_bars)] }
def HistoryManySaid : Prop := historyManyRow.holds Tryd.pinned (OpenSpec.ofChange historyManySpec)

/-- ITS FALSE NEIGHBOUR: 'it returns false'. Refute it at one input. -/
def historyManyWrong : ChangeSpec := { name := "historyMany", fn := fun _ => fun
  | [] => { results := [.lit (.bool false)], args := [] }
  | _ => none }
def HistoryManyWrongFalsely : Prop := historyManyRow.holds Tryd.pinned (OpenSpec.ofChange historyManyWrong)

/-- 'redraftlaw06.HistoryCarries': WHATEVER THE INPUT: true; the input reads as it did. -/
def historyCarriesSpec : ChangeSpec := { name := "historyCarries", fn := fun _ => fun
  | [d1, d2] => { results := [.lit (.bool true)], args := [d1, d2] }
  | _ => none }
def historyCarriesRow : OpenClaim := { program := "ytggdddkbhigjoaadoor", sum := "1efd52bfb8746dcfe275f4fc373688bd745dcb38671f60879da84e5eff6b0e98", func := "redraft/redraftlaw06.HistoryCarries", spec := "historyCarries", recurses := true, named := ["redraft/utext.bars"], plainKeys := false, apart := false, laid := [("redraft/utext.bars", laid_redraft_utext_bars)] }
def HistoryCarriesSaid : Prop := historyCarriesRow.holds Tryd.pinned (OpenSpec.ofChange historyCarriesSpec)

/-- ITS FALSE NEIGHBOUR: 'it returns false'. Refute it at one input. -/
def historyCarriesWrong : ChangeSpec := { name := "historyCarries", fn := fun _ => fun
  | [d1, d2] => { results := [.lit (.bool false)], args := [d1, d2] }
  | _ => none }
def HistoryCarriesWrongFalsely : Prop := historyCarriesRow.holds Tryd.pinned (OpenSpec.ofChange historyCarriesWrong)

/-- 'redraftlaw06.HistoryCounts': WHATEVER THE INPUT: true; the input reads as it did. -/
def historyCountsSpec : ChangeSpec := { name := "historyCounts", fn := fun _ => fun
  | [d] => { results := [.lit (.bool true)], args := [d] }
  | _ => none }
def historyCountsRow : OpenClaim := { program := "ytggdddkbhigjoaadoor", sum := "1efd52bfb8746dcfe275f4fc373688bd745dcb38671f60879da84e5eff6b0e98", func := "redraft/redraftlaw06.HistoryCounts", spec := "historyCounts", recurses := true, named := ["redraft/utext.bars"], plainKeys := false, apart := false, laid := [("redraft/utext.bars", laid_redraft_utext_bars)] }
def HistoryCountsSaid : Prop := historyCountsRow.holds Tryd.pinned (OpenSpec.ofChange historyCountsSpec)

/-- ITS FALSE NEIGHBOUR: 'it returns false'. Refute it at one input. -/
def historyCountsWrong : ChangeSpec := { name := "historyCounts", fn := fun _ => fun
  | [d] => { results := [.lit (.bool false)], args := [d] }
  | _ => none }
def HistoryCountsWrongFalsely : Prop := historyCountsRow.holds Tryd.pinned (OpenSpec.ofChange historyCountsWrong)

/-- 'redraftlaw06.HistoryTurns': WHATEVER THE INPUT: true; the input reads as it did. -/
def historyTurnsSpec : ChangeSpec := { name := "historyTurns", fn := fun _ => fun
  | [d1, d2] => { results := [.lit (.bool true)], args := [d1, d2] }
  | _ => none }
def historyTurnsRow : OpenClaim := { program := "ytggdddkbhigjoaadoor", sum := "1efd52bfb8746dcfe275f4fc373688bd745dcb38671f60879da84e5eff6b0e98", func := "redraft/redraftlaw06.HistoryTurns", spec := "historyTurns", inPlace := ["internal/abi.NoEscape"], unfollowed := true, recurses := true, named := ["redraft/utext.bars"], plainKeys := false, apart := false, laid := [("redraft/utext.bars", laid_redraft_utext_bars)] }
def HistoryTurnsSaid : Prop := historyTurnsRow.holds Tryd.pinned (OpenSpec.ofChange historyTurnsSpec)

/-- ITS FALSE NEIGHBOUR: 'it returns false'. Refute it at one input. -/
def historyTurnsWrong : ChangeSpec := { name := "historyTurns", fn := fun _ => fun
  | [d1, d2] => { results := [.lit (.bool false)], args := [d1, d2] }
  | _ => none }
def HistoryTurnsWrongFalsely : Prop := historyTurnsRow.holds Tryd.pinned (OpenSpec.ofChange historyTurnsWrong)

/-- 'redraftlaw06.HistoryIsFold': WHATEVER THE INPUT: true; the input reads as it did. -/
def historyIsFoldSpec : ChangeSpec := { name := "historyIsFold", fn := fun _ => fun
  | [d] => { results := [.lit (.bool true)], args := [d] }
  | _ => none }
def historyIsFoldRow : OpenClaim := { program := "ytggdddkbhigjoaadoor", sum := "1efd52bfb8746dcfe275f4fc373688bd745dcb38671f60879da84e5eff6b0e98", func := "redraft/redraftlaw06.HistoryIsFold", spec := "historyIsFold", inPlace := ["internal/abi.NoEscape"], unfollowed := true, recurses := true, named := ["redraft/utext.bars"], plainKeys := false, apart := false, laid := [("redraft/utext.bars", laid_redraft_utext_bars)] }
def HistoryIsFoldSaid : Prop := historyIsFoldRow.holds Tryd.pinned (OpenSpec.ofChange historyIsFoldSpec)

/-- ITS FALSE NEIGHBOUR: 'it returns false'. Refute it at one input. -/
def historyIsFoldWrong : ChangeSpec := { name := "historyIsFold", fn := fun _ => fun
  | [d] => { results := [.lit (.bool false)], args := [d] }
  | _ => none }
def HistoryIsFoldWrongFalsely : Prop := historyIsFoldRow.holds Tryd.pinned (OpenSpec.ofChange historyIsFoldWrong)

/-- 'redraftlaw06.HistoryMeets': WHATEVER THE INPUT: true; the input reads as it did. -/
def historyMeetsSpec : ChangeSpec := { name := "historyMeets", fn := fun _ => fun
  | [d1, d2, d3] => { results := [.lit (.bool true)], args := [d1, d2, d3] }
  | _ => none }
def historyMeetsRow : OpenClaim := { program := "ytggdddkbhigjoaadoor", sum := "1efd52bfb8746dcfe275f4fc373688bd745dcb38671f60879da84e5eff6b0e98", func := "redraft/redraftlaw06.HistoryMeets", spec := "historyMeets", inPlace := ["internal/abi.NoEscape"], unfollowed := true, recurses := true, named := ["redraft/utext.bars"], plainKeys := false, apart := false, laid := [("redraft/utext.bars", laid_redraft_utext_bars)] }
def HistoryMeetsSaid : Prop := historyMeetsRow.holds Tryd.pinned (OpenSpec.ofChange historyMeetsSpec)

/-- ITS FALSE NEIGHBOUR: 'it returns false'. Refute it at one input. -/
def historyMeetsWrong : ChangeSpec := { name := "historyMeets", fn := fun _ => fun
  | [d1, d2, d3] => { results := [.lit (.bool false)], args := [d1, d2, d3] }
  | _ => none }
def HistoryMeetsWrongFalsely : Prop := historyMeetsRow.holds Tryd.pinned (OpenSpec.ofChange historyMeetsWrong)

/- THE SECOND FORM. 'bulk': how many values and letters a reading holds, each counted each time it is reached (what is shared counts as often as it is met; a slice's spare places count too). A statement '..UptoSaid' is the law's where the arguments, and the package variables that the reading takes, are together of bulk at most 1048576: NARROWER than '..Said'. Prove '..Said' where nothing that the law and all that it calls make is longer than what came in: it says more and counts as full. Else prove '..UptoSaid'. A law counts once. -/
mutual
def uptoBulk {H : Type} : DataW H → Nat
  | .lit (.string bytes) => bytes.length + 1
  | .lit _ => 1
  | .nil => 1
  | .ptr d => uptoBulk d + 1
  | .slice elems spare => uptoBulkAll elems + uptoBulkAll spare + 1
  | .agg parts => uptoBulkAll parts + 1
  | .iface _ d => uptoBulk d + 1
  | .map entries => uptoBulkEntries entries + 1
  | .held _ => 1
def uptoBulkAll {H : Type} : List (DataW H) → Nat
  | [] => 0
  | d :: r => uptoBulk d + uptoBulkAll r
def uptoBulkEntries {H : Type} : List (Lit × DataW H) → Nat
  | [] => 0
  | x :: r => uptoBulkEntry x + uptoBulkEntries r
def uptoBulkEntry {H : Type} : Lit × DataW H → Nat
  | (.string bytes, d) => bytes.length + uptoBulk d + 1
  | (_, d) => uptoBulk d + 1
 end
def uptoSmall : (H : Type) → List (DataW H) → Bool := fun _ ds => decide (uptoBulkAll ds ≤ 1048576)
def OpenSpec.upto (s : _root_.Go.ChangeSpec) : _root_.Go.OpenSpec := { _root_.Go.OpenSpec.ofChange s with cond := some uptoSmall }

/-- 'redraftlaw06.HistoryMany', WHERE WHAT IT READS IS OF BULK AT MOST 1048576: true; the input reads as it did. -/
def historyManyUptoRow : OpenClaim := { program := "ytggdddkbhigjoaadoor", sum := "1efd52bfb8746dcfe275f4fc373688bd745dcb38671f60879da84e5eff6b0e98", func := "redraft/redraftlaw06.HistoryMany", spec := "historyMany", named := ["redraft/utext.bars"], plainKeys := false, apart := false, laid := [("redraft/utext.bars", laid_redraft_utext_bars)], narrowed := true }
def HistoryManyUptoSaid : Prop := historyManyUptoRow.holds Tryd.pinned (OpenSpec.upto historyManySpec)

/-- 'redraftlaw06.HistoryCarries', WHERE WHAT IT READS IS OF BULK AT MOST 1048576: true; the input reads as it did. -/
def historyCarriesUptoRow : OpenClaim := { program := "ytggdddkbhigjoaadoor", sum := "1efd52bfb8746dcfe275f4fc373688bd745dcb38671f60879da84e5eff6b0e98", func := "redraft/redraftlaw06.HistoryCarries", spec := "historyCarries", recurses := true, named := ["redraft/utext.bars"], plainKeys := false, apart := false, laid := [("redraft/utext.bars", laid_redraft_utext_bars)], narrowed := true }
def HistoryCarriesUptoSaid : Prop := historyCarriesUptoRow.holds Tryd.pinned (OpenSpec.upto historyCarriesSpec)

/-- 'redraftlaw06.HistoryCounts', WHERE WHAT IT READS IS OF BULK AT MOST 1048576: true; the input reads as it did. -/
def historyCountsUptoRow : OpenClaim := { program := "ytggdddkbhigjoaadoor", sum := "1efd52bfb8746dcfe275f4fc373688bd745dcb38671f60879da84e5eff6b0e98", func := "redraft/redraftlaw06.HistoryCounts", spec := "historyCounts", recurses := true, named := ["redraft/utext.bars"], plainKeys := false, apart := false, laid := [("redraft/utext.bars", laid_redraft_utext_bars)], narrowed := true }
def HistoryCountsUptoSaid : Prop := historyCountsUptoRow.holds Tryd.pinned (OpenSpec.upto historyCountsSpec)

/-- 'redraftlaw06.HistoryTurns', WHERE WHAT IT READS IS OF BULK AT MOST 1048576: true; the input reads as it did. -/
def historyTurnsUptoRow : OpenClaim := { program := "ytggdddkbhigjoaadoor", sum := "1efd52bfb8746dcfe275f4fc373688bd745dcb38671f60879da84e5eff6b0e98", func := "redraft/redraftlaw06.HistoryTurns", spec := "historyTurns", inPlace := ["internal/abi.NoEscape"], unfollowed := true, recurses := true, named := ["redraft/utext.bars"], plainKeys := false, apart := false, laid := [("redraft/utext.bars", laid_redraft_utext_bars)], narrowed := true }
def HistoryTurnsUptoSaid : Prop := historyTurnsUptoRow.holds Tryd.pinned (OpenSpec.upto historyTurnsSpec)

/-- 'redraftlaw06.HistoryIsFold', WHERE WHAT IT READS IS OF BULK AT MOST 1048576: true; the input reads as it did. -/
def historyIsFoldUptoRow : OpenClaim := { program := "ytggdddkbhigjoaadoor", sum := "1efd52bfb8746dcfe275f4fc373688bd745dcb38671f60879da84e5eff6b0e98", func := "redraft/redraftlaw06.HistoryIsFold", spec := "historyIsFold", inPlace := ["internal/abi.NoEscape"], unfollowed := true, recurses := true, named := ["redraft/utext.bars"], plainKeys := false, apart := false, laid := [("redraft/utext.bars", laid_redraft_utext_bars)], narrowed := true }
def HistoryIsFoldUptoSaid : Prop := historyIsFoldUptoRow.holds Tryd.pinned (OpenSpec.upto historyIsFoldSpec)

/-- 'redraftlaw06.HistoryMeets', WHERE WHAT IT READS IS OF BULK AT MOST 1048576: true; the input reads as it did. -/
def historyMeetsUptoRow : OpenClaim := { program := "ytggdddkbhigjoaadoor", sum := "1efd52bfb8746dcfe275f4fc373688bd745dcb38671f60879da84e5eff6b0e98", func := "redraft/redraftlaw06.HistoryMeets", spec := "historyMeets", inPlace := ["internal/abi.NoEscape"], unfollowed := true, recurses := true, named := ["redraft/utext.bars"], plainKeys := false, apart := false, laid := [("redraft/utext.bars", laid_redraft_utext_bars)], narrowed := true }
def HistoryMeetsUptoSaid : Prop := historyMeetsUptoRow.holds Tryd.pinned (OpenSpec.upto historyMeetsSpec)

end Rows
end Go.Proofs.YtggdddkbhigjoaaDoor
