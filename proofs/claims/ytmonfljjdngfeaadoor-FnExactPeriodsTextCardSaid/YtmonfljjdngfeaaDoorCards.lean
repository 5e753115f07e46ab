/-
  DERIVED. GIVEN WITH THE SEED: THE CARDS: each row of YtmonfljjdngfeaaDoorRows.lean that lists a variable, with what it lists TIED to the program's text (the seventh form; the later family's looks); each row that meets fmt, with fmt's text TOLD by the authors' own Lean function (tested against real Go, not proved from fmt's source: count such statements apart). THE CARD IS WHAT COUNTS. Prove the row's statement (the work); the ties are given (YtmonfljjdngfeaaDoorTie.lean); close each card by the builder's one call (the guide's Derived/Test/ToyasCard.lean, 'card_holds'). Laid BY PROGRAM, IN A SANDBOX (cutbox-door.mjs). By AI agents, Wed Nov 11 2026. No macro, syntax, notation, axiom, sorry.
-/
import Derived.Test.YtmonfljjdngfeaaDoorRows
import GoSem.ClaimSeven
namespace Go.Proofs.YtmonfljjdngfeaaDoor
namespace Rows

/-- THE TIED CARD OF 'laws.FnExactPeriodsText'. -/
def fnExactPeriodsTextCard : Claim7 := { stood := { row := fnExactPeriodsTextRow, standIns := [], harness := (true, "000df1de1d94248bdcc1716e83cbf6843205007d52c97fcbb927c148e0021b93"), looks := false }, kinds := [], alts := [], laidByText := true, laidKinds := [.data, .data, .data], laidTests := true, laidLooks := .later }
def FnExactPeriodsTextCardSaid : Prop := Claim7.holds Tryd.pinned (.plain (OpenSpec.ofChange fnExactPeriodsTextSpec)) fnExactPeriodsTextCard

/-- THE SECOND FORM's CARD OF 'laws.FnExactPeriodsText'. -/
def fnExactPeriodsTextUptoCard : Claim7 := { stood := { row := fnExactPeriodsTextUptoRow, standIns := [], harness := (true, "000df1de1d94248bdcc1716e83cbf6843205007d52c97fcbb927c148e0021b93"), looks := false }, kinds := [], alts := [], laidByText := true, laidKinds := [.data, .data, .data], laidTests := true, laidLooks := .later }
def FnExactPeriodsTextUptoCardSaid : Prop := Claim7.holds Tryd.pinned (.plain (OpenSpec.upto fnExactPeriodsTextSpec)) fnExactPeriodsTextUptoCard
end Rows
end Go.Proofs.YtmonfljjdngfeaaDoor
