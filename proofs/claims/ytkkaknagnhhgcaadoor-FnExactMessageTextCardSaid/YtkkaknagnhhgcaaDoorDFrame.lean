/-
  Closed facts on the whole program that every card of this seat asks.
-/
import Derived.Test.YtkkaknagnhhgcaaDoorFrame
import Derived.Test.YtkkaknagnhhgcaaDoorCards
namespace Go.Proofs.YtkkaknagnhhgcaaDoor
set_option linter.unusedVariables false
set_option linter.unusedSimpArgs false
open Go

theorem Tryd.mainIs0 : Tryd.pinned.checked.prog.mainIs = some (((true, "aaca83532be8bbcf217e5a2bb4dd22f9fcaaa313b52bd61fd59f6db0315957bb") : Bool × String).1, ((true, "aaca83532be8bbcf217e5a2bb4dd22f9fcaaa313b52bd61fd59f6db0315957bb") : Bool × String).2.toList) := by kernel_rfl
theorem Tryd.looks0 : false = Tryd.pinned.checked.prog.looks [] := by kernel_rfl

end Go.Proofs.YtkkaknagnhhgcaaDoor
