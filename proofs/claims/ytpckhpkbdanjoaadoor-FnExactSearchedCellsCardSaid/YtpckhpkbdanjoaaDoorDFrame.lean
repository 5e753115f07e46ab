/-
  Closed facts on the whole program that every card of this seat asks.
-/
import Derived.Test.YtpckhpkbdanjoaaDoorFrame
import Derived.Test.YtpckhpkbdanjoaaDoorCards
namespace Go.Proofs.YtpckhpkbdanjoaaDoor
set_option linter.unusedVariables false
set_option linter.unusedSimpArgs false
open Go

theorem Tryd.mainIs0 : Tryd.pinned.checked.prog.mainIs = some (((true, "9bc3415960b78502ef8bbbaf3fc61dd07d7d66dca491c55dd25d91170ccba87f") : Bool × String).1, ((true, "9bc3415960b78502ef8bbbaf3fc61dd07d7d66dca491c55dd25d91170ccba87f") : Bool × String).2.toList) := by kernel_rfl
theorem Tryd.looks0 : false = Tryd.pinned.checked.prog.looks [] := by kernel_rfl

end Go.Proofs.YtpckhpkbdanjoaaDoor
