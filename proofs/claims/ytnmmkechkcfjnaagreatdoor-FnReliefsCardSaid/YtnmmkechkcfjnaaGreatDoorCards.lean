/-
  DERIVED. GIVEN WITH THE SEED: THE CARDS: each row of YtnmmkechkcfjnaaGreatDoorRows.lean that lists a variable, with what it lists TIED to the program's text (the seventh form; the later family's looks); each row that meets fmt, with fmt's text TOLD by the authors' own Lean function (tested against real Go, not proved from fmt's source: count such statements apart). THE CARD IS WHAT COUNTS. Prove the row's statement (the work); the ties are given (YtnmmkechkcfjnaaGreatDoorTie.lean); close each card by the builder's one call (the guide's Derived/Test/ToyasCard.lean, 'card_holds'). Laid BY PROGRAM, IN A SANDBOX (cutbox-door.mjs). By AI agents, Wed Nov 11 2026. No macro, syntax, notation, axiom, sorry.
-/
import Derived.Test.YtnmmkechkcfjnaaGreatDoorRows
import GoSem.ClaimSeven
namespace Go.Proofs.YtnmmkechkcfjnaaGreatDoor
namespace Rows

/-- THE TIED CARD OF 'laws.FnReliefs'. -/
def fnReliefsCard : Claim7 := { stood := { row := fnReliefsRow, standIns := [], harness := (true, "726e088766344e0ef60f6d94815a75c5e7821cfa5ca2f4ee28aba11135bfb0fd"), looks := false }, kinds := [], alts := [], laidByText := true, laidKinds := [.data, .data, .data], laidTests := true, laidLooks := .later }
def FnReliefsCardSaid : Prop := Claim7.holds Tryz.pinned (.plain (OpenSpec.ofChange fnReliefsSpec)) fnReliefsCard

/-- THE SECOND FORM's CARD OF 'laws.FnReliefs'. -/
def fnReliefsUptoCard : Claim7 := { stood := { row := fnReliefsUptoRow, standIns := [], harness := (true, "726e088766344e0ef60f6d94815a75c5e7821cfa5ca2f4ee28aba11135bfb0fd"), looks := false }, kinds := [], alts := [], laidByText := true, laidKinds := [.data, .data, .data], laidTests := true, laidLooks := .later }
def FnReliefsUptoCardSaid : Prop := Claim7.holds Tryz.pinned (.plain (OpenSpec.upto fnReliefsSpec)) fnReliefsUptoCard
end Rows
end Go.Proofs.YtnmmkechkcfjnaaGreatDoor
