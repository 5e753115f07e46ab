/-
  DERIVED. GIVEN WITH THE SEED: THE CARDS: each row of YtkkaknagnhhgcaaDoorRows.lean that lists a variable, with what it lists TIED to the program's text (the seventh form; the later family's looks); each row that meets fmt, with fmt's text TOLD by the authors' own Lean function (tested against real Go, not proved from fmt's source: count such statements apart). THE CARD IS WHAT COUNTS. Prove the row's statement (the work); the ties are given (YtkkaknagnhhgcaaDoorTie.lean); close each card by the builder's one call (the guide's Derived/Test/ToyasCard.lean, 'card_holds'). Laid BY PROGRAM, IN A SANDBOX (cutbox-door.mjs). By AI agents, Wed Nov 11 2026. No macro, syntax, notation, axiom, sorry.
-/
import Derived.Test.YtkkaknagnhhgcaaDoorRows
import GoSem.ClaimSeven
namespace Go.Proofs.YtkkaknagnhhgcaaDoor
namespace Rows

/-- THE TIED CARD OF 'laws.FnExactMessageText'. -/
def fnExactMessageTextCard : Claim7 := { stood := { row := fnExactMessageTextRow, standIns := [], harness := (true, "aaca83532be8bbcf217e5a2bb4dd22f9fcaaa313b52bd61fd59f6db0315957bb"), looks := false }, kinds := [], alts := [], laidByText := true, laidKinds := [.data, .data, .data], laidTests := true, laidLooks := .later }
def FnExactMessageTextCardSaid : Prop := Claim7.holds Tryd.pinned (.plain (OpenSpec.ofChange fnExactMessageTextSpec)) fnExactMessageTextCard

/-- THE SECOND FORM's CARD OF 'laws.FnExactMessageText'. -/
def fnExactMessageTextUptoCard : Claim7 := { stood := { row := fnExactMessageTextUptoRow, standIns := [], harness := (true, "aaca83532be8bbcf217e5a2bb4dd22f9fcaaa313b52bd61fd59f6db0315957bb"), looks := false }, kinds := [], alts := [], laidByText := true, laidKinds := [.data, .data, .data], laidTests := true, laidLooks := .later }
def FnExactMessageTextUptoCardSaid : Prop := Claim7.holds Tryd.pinned (.plain (OpenSpec.upto fnExactMessageTextSpec)) fnExactMessageTextUptoCard
end Rows
end Go.Proofs.YtkkaknagnhhgcaaDoor
