/-
  DERIVED. GIVEN WITH THE SEED: THE CARDS: each row of YtigdalaeopemiaaDoorRows.lean that lists a variable, with what it lists TIED to the program's text (the seventh form; the later family's looks); each row that meets fmt, with fmt's text TOLD by the authors' own Lean function (tested against real Go, not proved from fmt's source: count such statements apart). THE CARD IS WHAT COUNTS. Prove the row's statement (the work); the ties are given (YtigdalaeopemiaaDoorTie.lean); close each card by the builder's one call (the guide's Derived/Test/ToyasCard.lean, 'card_holds'). Laid BY PROGRAM, IN A SANDBOX (cutbox-door.mjs). By AI agents, Wed Nov 11 2026. No macro, syntax, notation, axiom, sorry.
-/
import Derived.Test.YtigdalaeopemiaaDoorRows
import GoSem.ClaimSeven
namespace Go.Proofs.YtigdalaeopemiaaDoor
namespace Rows

/-- THE TIED CARD OF 'laws.FnExactIsFloor'. -/
def fnExactIsFloorCard : Claim7 := { stood := { row := fnExactIsFloorRow, standIns := [], harness := (true, "fec49d8f61669c89eab47b26e3ad606c1755da3616938e0eb563ff8b18fed253"), looks := false }, kinds := [], alts := [], laidByText := true, laidKinds := [.data, .pinned], laidTests := true, laidLooks := .later }
def FnExactIsFloorCardSaid : Prop := Claim7.holds Tryd.pinned (.plain (OpenSpec.ofChange fnExactIsFloorSpec)) fnExactIsFloorCard

/-- THE TIED CARD OF 'laws.FnExactIsOpenCell'. -/
def fnExactIsOpenCellCard : Claim7 := { stood := { row := fnExactIsOpenCellRow, standIns := [], harness := (true, "fec49d8f61669c89eab47b26e3ad606c1755da3616938e0eb563ff8b18fed253"), looks := false }, kinds := [], alts := [], laidByText := true, laidKinds := [.data, .pinned], laidTests := true, laidLooks := .later }
def FnExactIsOpenCellCardSaid : Prop := Claim7.holds Tryd.pinned (.plain (OpenSpec.ofChange fnExactIsOpenCellSpec)) fnExactIsOpenCellCard

/-- THE TIED CARD OF 'laws.FnExactSearchedCells'. -/
def fnExactSearchedCellsCard : Claim7 := { stood := { row := fnExactSearchedCellsRow, standIns := [], harness := (true, "fec49d8f61669c89eab47b26e3ad606c1755da3616938e0eb563ff8b18fed253"), looks := false }, kinds := [], alts := [], laidByText := true, laidKinds := [.data, .pinned], laidTests := true, laidLooks := .later }
def FnExactSearchedCellsCardSaid : Prop := Claim7.holds Tryd.pinned (.plain (OpenSpec.ofChange fnExactSearchedCellsSpec)) fnExactSearchedCellsCard

/-- THE TIED CARD OF 'laws.FnExactHandWay'. -/
def fnExactHandWayCard : Claim7 := { stood := { row := fnExactHandWayRow, standIns := [], harness := (true, "fec49d8f61669c89eab47b26e3ad606c1755da3616938e0eb563ff8b18fed253"), looks := false }, kinds := [], alts := [], laidByText := true, laidKinds := [.data, .pinned], laidTests := true, laidLooks := .later }
def FnExactHandWayCardSaid : Prop := Claim7.holds Tryd.pinned (.plain (OpenSpec.ofChange fnExactHandWaySpec)) fnExactHandWayCard

/-- THE TIED CARD OF 'laws.FnExactWayBack'. -/
def fnExactWayBackCard : Claim7 := { stood := { row := fnExactWayBackRow, standIns := [], harness := (true, "fec49d8f61669c89eab47b26e3ad606c1755da3616938e0eb563ff8b18fed253"), looks := false }, kinds := [], alts := [], laidByText := true, laidKinds := [.data, .pinned], laidTests := true, laidLooks := .later }
def FnExactWayBackCardSaid : Prop := Claim7.holds Tryd.pinned (.plain (OpenSpec.ofChange fnExactWayBackSpec)) fnExactWayBackCard

/-- THE TIED CARD OF 'laws.FnExactFarthestCell'. -/
def fnExactFarthestCellCard : Claim7 := { stood := { row := fnExactFarthestCellRow, standIns := [], harness := (true, "fec49d8f61669c89eab47b26e3ad606c1755da3616938e0eb563ff8b18fed253"), looks := false }, kinds := [], alts := [], laidByText := true, laidKinds := [.data, .pinned], laidTests := true, laidLooks := .later }
def FnExactFarthestCellCardSaid : Prop := Claim7.holds Tryd.pinned (.plain (OpenSpec.ofChange fnExactFarthestCellSpec)) fnExactFarthestCellCard

/-- THE TIED CARD OF 'laws.FnExactFollowWay'. -/
def fnExactFollowWayCard : Claim7 := { stood := { row := fnExactFollowWayRow, standIns := [], harness := (true, "fec49d8f61669c89eab47b26e3ad606c1755da3616938e0eb563ff8b18fed253"), looks := false }, kinds := [], alts := [], laidByText := true, laidKinds := [.data, .pinned], laidTests := true, laidLooks := .later }
def FnExactFollowWayCardSaid : Prop := Claim7.holds Tryd.pinned (.plain (OpenSpec.ofChange fnExactFollowWaySpec)) fnExactFollowWayCard

/-- THE TIED CARD OF 'laws.FnExactStepsFrom'. -/
def fnExactStepsFromCard : Claim7 := { stood := { row := fnExactStepsFromRow, standIns := [], harness := (true, "fec49d8f61669c89eab47b26e3ad606c1755da3616938e0eb563ff8b18fed253"), looks := false }, kinds := [], alts := [], laidByText := true, laidKinds := [.data, .pinned], laidTests := true, laidLooks := .later }
def FnExactStepsFromCardSaid : Prop := Claim7.holds Tryd.pinned (.plain (OpenSpec.ofChange fnExactStepsFromSpec)) fnExactStepsFromCard

/-- THE TIED CARD OF 'laws.FnExactCountOpen'. -/
def fnExactCountOpenCard : Claim7 := { stood := { row := fnExactCountOpenRow, standIns := [], harness := (true, "fec49d8f61669c89eab47b26e3ad606c1755da3616938e0eb563ff8b18fed253"), looks := false }, kinds := [], alts := [], laidByText := true, laidKinds := [.data, .pinned], laidTests := true, laidLooks := .later }
def FnExactCountOpenCardSaid : Prop := Claim7.holds Tryd.pinned (.plain (OpenSpec.ofChange fnExactCountOpenSpec)) fnExactCountOpenCard

/-- THE TIED CARD OF 'laws.FnExactShareOut'. -/
def fnExactShareOutCard : Claim7 := { stood := { row := fnExactShareOutRow, standIns := [], harness := (true, "fec49d8f61669c89eab47b26e3ad606c1755da3616938e0eb563ff8b18fed253"), looks := false }, kinds := [], alts := [], laidByText := true, laidKinds := [.data, .pinned], laidTests := true, laidLooks := .later }
def FnExactShareOutCardSaid : Prop := Claim7.holds Tryd.pinned (.plain (OpenSpec.ofChange fnExactShareOutSpec)) fnExactShareOutCard

/-- THE TIED CARD OF 'laws.FnExactUnsearchedCells'. -/
def fnExactUnsearchedCellsCard : Claim7 := { stood := { row := fnExactUnsearchedCellsRow, standIns := [], harness := (true, "fec49d8f61669c89eab47b26e3ad606c1755da3616938e0eb563ff8b18fed253"), looks := false }, kinds := [], alts := [], laidByText := true, laidKinds := [.data, .pinned], laidTests := true, laidLooks := .later }
def FnExactUnsearchedCellsCardSaid : Prop := Claim7.holds Tryd.pinned (.plain (OpenSpec.ofChange fnExactUnsearchedCellsSpec)) fnExactUnsearchedCellsCard

/-- THE SECOND FORM's CARD OF 'laws.FnExactIsFloor'. -/
def fnExactIsFloorUptoCard : Claim7 := { stood := { row := fnExactIsFloorUptoRow, standIns := [], harness := (true, "fec49d8f61669c89eab47b26e3ad606c1755da3616938e0eb563ff8b18fed253"), looks := false }, kinds := [], alts := [], laidByText := true, laidKinds := [.data, .pinned], laidTests := true, laidLooks := .later }
def FnExactIsFloorUptoCardSaid : Prop := Claim7.holds Tryd.pinned (.plain (OpenSpec.upto fnExactIsFloorSpec)) fnExactIsFloorUptoCard

/-- THE SECOND FORM's CARD OF 'laws.FnExactIsOpenCell'. -/
def fnExactIsOpenCellUptoCard : Claim7 := { stood := { row := fnExactIsOpenCellUptoRow, standIns := [], harness := (true, "fec49d8f61669c89eab47b26e3ad606c1755da3616938e0eb563ff8b18fed253"), looks := false }, kinds := [], alts := [], laidByText := true, laidKinds := [.data, .pinned], laidTests := true, laidLooks := .later }
def FnExactIsOpenCellUptoCardSaid : Prop := Claim7.holds Tryd.pinned (.plain (OpenSpec.upto fnExactIsOpenCellSpec)) fnExactIsOpenCellUptoCard

/-- THE SECOND FORM's CARD OF 'laws.FnExactSearchedCells'. -/
def fnExactSearchedCellsUptoCard : Claim7 := { stood := { row := fnExactSearchedCellsUptoRow, standIns := [], harness := (true, "fec49d8f61669c89eab47b26e3ad606c1755da3616938e0eb563ff8b18fed253"), looks := false }, kinds := [], alts := [], laidByText := true, laidKinds := [.data, .pinned], laidTests := true, laidLooks := .later }
def FnExactSearchedCellsUptoCardSaid : Prop := Claim7.holds Tryd.pinned (.plain (OpenSpec.upto fnExactSearchedCellsSpec)) fnExactSearchedCellsUptoCard

/-- THE SECOND FORM's CARD OF 'laws.FnExactHandWay'. -/
def fnExactHandWayUptoCard : Claim7 := { stood := { row := fnExactHandWayUptoRow, standIns := [], harness := (true, "fec49d8f61669c89eab47b26e3ad606c1755da3616938e0eb563ff8b18fed253"), looks := false }, kinds := [], alts := [], laidByText := true, laidKinds := [.data, .pinned], laidTests := true, laidLooks := .later }
def FnExactHandWayUptoCardSaid : Prop := Claim7.holds Tryd.pinned (.plain (OpenSpec.upto fnExactHandWaySpec)) fnExactHandWayUptoCard

/-- THE SECOND FORM's CARD OF 'laws.FnExactWayBack'. -/
def fnExactWayBackUptoCard : Claim7 := { stood := { row := fnExactWayBackUptoRow, standIns := [], harness := (true, "fec49d8f61669c89eab47b26e3ad606c1755da3616938e0eb563ff8b18fed253"), looks := false }, kinds := [], alts := [], laidByText := true, laidKinds := [.data, .pinned], laidTests := true, laidLooks := .later }
def FnExactWayBackUptoCardSaid : Prop := Claim7.holds Tryd.pinned (.plain (OpenSpec.upto fnExactWayBackSpec)) fnExactWayBackUptoCard

/-- THE SECOND FORM's CARD OF 'laws.FnExactFarthestCell'. -/
def fnExactFarthestCellUptoCard : Claim7 := { stood := { row := fnExactFarthestCellUptoRow, standIns := [], harness := (true, "fec49d8f61669c89eab47b26e3ad606c1755da3616938e0eb563ff8b18fed253"), looks := false }, kinds := [], alts := [], laidByText := true, laidKinds := [.data, .pinned], laidTests := true, laidLooks := .later }
def FnExactFarthestCellUptoCardSaid : Prop := Claim7.holds Tryd.pinned (.plain (OpenSpec.upto fnExactFarthestCellSpec)) fnExactFarthestCellUptoCard

/-- THE SECOND FORM's CARD OF 'laws.FnExactFollowWay'. -/
def fnExactFollowWayUptoCard : Claim7 := { stood := { row := fnExactFollowWayUptoRow, standIns := [], harness := (true, "fec49d8f61669c89eab47b26e3ad606c1755da3616938e0eb563ff8b18fed253"), looks := false }, kinds := [], alts := [], laidByText := true, laidKinds := [.data, .pinned], laidTests := true, laidLooks := .later }
def FnExactFollowWayUptoCardSaid : Prop := Claim7.holds Tryd.pinned (.plain (OpenSpec.upto fnExactFollowWaySpec)) fnExactFollowWayUptoCard

/-- THE SECOND FORM's CARD OF 'laws.FnExactStepsFrom'. -/
def fnExactStepsFromUptoCard : Claim7 := { stood := { row := fnExactStepsFromUptoRow, standIns := [], harness := (true, "fec49d8f61669c89eab47b26e3ad606c1755da3616938e0eb563ff8b18fed253"), looks := false }, kinds := [], alts := [], laidByText := true, laidKinds := [.data, .pinned], laidTests := true, laidLooks := .later }
def FnExactStepsFromUptoCardSaid : Prop := Claim7.holds Tryd.pinned (.plain (OpenSpec.upto fnExactStepsFromSpec)) fnExactStepsFromUptoCard

/-- THE SECOND FORM's CARD OF 'laws.FnExactCountOpen'. -/
def fnExactCountOpenUptoCard : Claim7 := { stood := { row := fnExactCountOpenUptoRow, standIns := [], harness := (true, "fec49d8f61669c89eab47b26e3ad606c1755da3616938e0eb563ff8b18fed253"), looks := false }, kinds := [], alts := [], laidByText := true, laidKinds := [.data, .pinned], laidTests := true, laidLooks := .later }
def FnExactCountOpenUptoCardSaid : Prop := Claim7.holds Tryd.pinned (.plain (OpenSpec.upto fnExactCountOpenSpec)) fnExactCountOpenUptoCard

/-- THE SECOND FORM's CARD OF 'laws.FnExactShareOut'. -/
def fnExactShareOutUptoCard : Claim7 := { stood := { row := fnExactShareOutUptoRow, standIns := [], harness := (true, "fec49d8f61669c89eab47b26e3ad606c1755da3616938e0eb563ff8b18fed253"), looks := false }, kinds := [], alts := [], laidByText := true, laidKinds := [.data, .pinned], laidTests := true, laidLooks := .later }
def FnExactShareOutUptoCardSaid : Prop := Claim7.holds Tryd.pinned (.plain (OpenSpec.upto fnExactShareOutSpec)) fnExactShareOutUptoCard

/-- THE SECOND FORM's CARD OF 'laws.FnExactUnsearchedCells'. -/
def fnExactUnsearchedCellsUptoCard : Claim7 := { stood := { row := fnExactUnsearchedCellsUptoRow, standIns := [], harness := (true, "fec49d8f61669c89eab47b26e3ad606c1755da3616938e0eb563ff8b18fed253"), looks := false }, kinds := [], alts := [], laidByText := true, laidKinds := [.data, .pinned], laidTests := true, laidLooks := .later }
def FnExactUnsearchedCellsUptoCardSaid : Prop := Claim7.holds Tryd.pinned (.plain (OpenSpec.upto fnExactUnsearchedCellsSpec)) fnExactUnsearchedCellsUptoCard
end Rows
end Go.Proofs.YtigdalaeopemiaaDoor
