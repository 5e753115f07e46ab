/-
  DERIVED. GIVEN WITH THE SEED: THE CARDS: each row of YtpckhpkbdanjoaaDoorRows.lean that lists a variable, with what it lists TIED to the program's text (the seventh form; the later family's looks); each row that meets fmt, with fmt's text TOLD by the authors' own Lean function (tested against real Go, not proved from fmt's source: count such statements apart). THE CARD IS WHAT COUNTS. Prove the row's statement (the work); the ties are given (YtpckhpkbdanjoaaDoorTie.lean); close each card by the builder's one call (the guide's Derived/Test/ToyasCard.lean, 'card_holds'). Laid BY PROGRAM, IN A SANDBOX (cutbox-door.mjs). By AI agents, Wed Nov 11 2026. No macro, syntax, notation, axiom, sorry.
-/
import Derived.Test.YtpckhpkbdanjoaaDoorRows
import GoSem.ClaimSeven
namespace Go.Proofs.YtpckhpkbdanjoaaDoor
namespace Rows

/-- THE TIED CARD OF 'laws.FnExactSearchedCells'. -/
def fnExactSearchedCellsCard : Claim7 := { stood := { row := fnExactSearchedCellsRow, standIns := [], harness := (true, "9bc3415960b78502ef8bbbaf3fc61dd07d7d66dca491c55dd25d91170ccba87f"), looks := false }, kinds := [], alts := [], laidByText := true, laidKinds := [.data, .pinned], laidTests := true, laidLooks := .later }
def FnExactSearchedCellsCardSaid : Prop := Claim7.holds Tryd.pinned (.plain (OpenSpec.ofChange fnExactSearchedCellsSpec)) fnExactSearchedCellsCard

/-- THE TIED CARD OF 'laws.FnExactHandWay'. -/
def fnExactHandWayCard : Claim7 := { stood := { row := fnExactHandWayRow, standIns := [], harness := (true, "9bc3415960b78502ef8bbbaf3fc61dd07d7d66dca491c55dd25d91170ccba87f"), looks := false }, kinds := [], alts := [], laidByText := true, laidKinds := [.data, .pinned], laidTests := true, laidLooks := .later }
def FnExactHandWayCardSaid : Prop := Claim7.holds Tryd.pinned (.plain (OpenSpec.ofChange fnExactHandWaySpec)) fnExactHandWayCard

/-- THE TIED CARD OF 'laws.FnExactShareOut'. -/
def fnExactShareOutCard : Claim7 := { stood := { row := fnExactShareOutRow, standIns := [], harness := (true, "9bc3415960b78502ef8bbbaf3fc61dd07d7d66dca491c55dd25d91170ccba87f"), looks := false }, kinds := [], alts := [], laidByText := true, laidKinds := [.data, .pinned], laidTests := true, laidLooks := .later }
def FnExactShareOutCardSaid : Prop := Claim7.holds Tryd.pinned (.plain (OpenSpec.ofChange fnExactShareOutSpec)) fnExactShareOutCard

/-- THE TIED CARD OF 'laws.FnExactUnsearchedCells'. -/
def fnExactUnsearchedCellsCard : Claim7 := { stood := { row := fnExactUnsearchedCellsRow, standIns := [], harness := (true, "9bc3415960b78502ef8bbbaf3fc61dd07d7d66dca491c55dd25d91170ccba87f"), looks := false }, kinds := [], alts := [], laidByText := true, laidKinds := [.data, .pinned], laidTests := true, laidLooks := .later }
def FnExactUnsearchedCellsCardSaid : Prop := Claim7.holds Tryd.pinned (.plain (OpenSpec.ofChange fnExactUnsearchedCellsSpec)) fnExactUnsearchedCellsCard

/-- THE TIED CARD OF 'laws.FnWays'. -/
def fnWaysCard : Claim7 := { stood := { row := fnWaysRow, standIns := [], harness := (true, "9bc3415960b78502ef8bbbaf3fc61dd07d7d66dca491c55dd25d91170ccba87f"), looks := false }, kinds := [], alts := [], laidByText := true, laidKinds := [.data, .pinned], laidTests := true, laidLooks := .later }
def FnWaysCardSaid : Prop := Claim7.holds Tryd.pinned (.plain (OpenSpec.ofChange fnWaysSpec)) fnWaysCard

/-- THE TIED CARD OF 'laws.FnSearches'. -/
def fnSearchesCard : Claim7 := { stood := { row := fnSearchesRow, standIns := [], harness := (true, "9bc3415960b78502ef8bbbaf3fc61dd07d7d66dca491c55dd25d91170ccba87f"), looks := false }, kinds := [], alts := [], laidByText := true, laidKinds := [.data, .pinned], laidTests := true, laidLooks := .later }
def FnSearchesCardSaid : Prop := Claim7.holds Tryd.pinned (.plain (OpenSpec.ofChange fnSearchesSpec)) fnSearchesCard

/-- THE SECOND FORM's CARD OF 'laws.FnExactSearchedCells'. -/
def fnExactSearchedCellsUptoCard : Claim7 := { stood := { row := fnExactSearchedCellsUptoRow, standIns := [], harness := (true, "9bc3415960b78502ef8bbbaf3fc61dd07d7d66dca491c55dd25d91170ccba87f"), looks := false }, kinds := [], alts := [], laidByText := true, laidKinds := [.data, .pinned], laidTests := true, laidLooks := .later }
def FnExactSearchedCellsUptoCardSaid : Prop := Claim7.holds Tryd.pinned (.plain (OpenSpec.upto fnExactSearchedCellsSpec)) fnExactSearchedCellsUptoCard

/-- THE SECOND FORM's CARD OF 'laws.FnExactHandWay'. -/
def fnExactHandWayUptoCard : Claim7 := { stood := { row := fnExactHandWayUptoRow, standIns := [], harness := (true, "9bc3415960b78502ef8bbbaf3fc61dd07d7d66dca491c55dd25d91170ccba87f"), looks := false }, kinds := [], alts := [], laidByText := true, laidKinds := [.data, .pinned], laidTests := true, laidLooks := .later }
def FnExactHandWayUptoCardSaid : Prop := Claim7.holds Tryd.pinned (.plain (OpenSpec.upto fnExactHandWaySpec)) fnExactHandWayUptoCard

/-- THE SECOND FORM's CARD OF 'laws.FnExactShareOut'. -/
def fnExactShareOutUptoCard : Claim7 := { stood := { row := fnExactShareOutUptoRow, standIns := [], harness := (true, "9bc3415960b78502ef8bbbaf3fc61dd07d7d66dca491c55dd25d91170ccba87f"), looks := false }, kinds := [], alts := [], laidByText := true, laidKinds := [.data, .pinned], laidTests := true, laidLooks := .later }
def FnExactShareOutUptoCardSaid : Prop := Claim7.holds Tryd.pinned (.plain (OpenSpec.upto fnExactShareOutSpec)) fnExactShareOutUptoCard

/-- THE SECOND FORM's CARD OF 'laws.FnExactUnsearchedCells'. -/
def fnExactUnsearchedCellsUptoCard : Claim7 := { stood := { row := fnExactUnsearchedCellsUptoRow, standIns := [], harness := (true, "9bc3415960b78502ef8bbbaf3fc61dd07d7d66dca491c55dd25d91170ccba87f"), looks := false }, kinds := [], alts := [], laidByText := true, laidKinds := [.data, .pinned], laidTests := true, laidLooks := .later }
def FnExactUnsearchedCellsUptoCardSaid : Prop := Claim7.holds Tryd.pinned (.plain (OpenSpec.upto fnExactUnsearchedCellsSpec)) fnExactUnsearchedCellsUptoCard

/-- THE SECOND FORM's CARD OF 'laws.FnWays'. -/
def fnWaysUptoCard : Claim7 := { stood := { row := fnWaysUptoRow, standIns := [], harness := (true, "9bc3415960b78502ef8bbbaf3fc61dd07d7d66dca491c55dd25d91170ccba87f"), looks := false }, kinds := [], alts := [], laidByText := true, laidKinds := [.data, .pinned], laidTests := true, laidLooks := .later }
def FnWaysUptoCardSaid : Prop := Claim7.holds Tryd.pinned (.plain (OpenSpec.upto fnWaysSpec)) fnWaysUptoCard

/-- THE SECOND FORM's CARD OF 'laws.FnSearches'. -/
def fnSearchesUptoCard : Claim7 := { stood := { row := fnSearchesUptoRow, standIns := [], harness := (true, "9bc3415960b78502ef8bbbaf3fc61dd07d7d66dca491c55dd25d91170ccba87f"), looks := false }, kinds := [], alts := [], laidByText := true, laidKinds := [.data, .pinned], laidTests := true, laidLooks := .later }
def FnSearchesUptoCardSaid : Prop := Claim7.holds Tryd.pinned (.plain (OpenSpec.upto fnSearchesSpec)) fnSearchesUptoCard
end Rows
end Go.Proofs.YtpckhpkbdanjoaaDoor
