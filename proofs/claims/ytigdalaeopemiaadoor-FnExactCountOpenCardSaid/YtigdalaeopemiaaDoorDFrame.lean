/-
  Closed facts on the whole program that every card of this seat asks.
-/
import Derived.Test.YtigdalaeopemiaaDoorFrame
import Derived.Test.YtigdalaeopemiaaDoorCards
namespace Go.Proofs.YtigdalaeopemiaaDoor
set_option linter.unusedVariables false
set_option linter.unusedSimpArgs false
open Go

theorem Tryd.mainIs0 : Tryd.pinned.checked.prog.mainIs = some (((true, "fec49d8f61669c89eab47b26e3ad606c1755da3616938e0eb563ff8b18fed253") : Bool × String).1, ((true, "fec49d8f61669c89eab47b26e3ad606c1755da3616938e0eb563ff8b18fed253") : Bool × String).2.toList) := by kernel_rfl
theorem Tryd.looks0 : false = Tryd.pinned.checked.prog.looks [] := by kernel_rfl

end Go.Proofs.YtigdalaeopemiaaDoor
