/-
  Closed facts on the whole program that every card of this seat asks.
-/
import Derived.Test.YtmonfljjdngfeaaDoorFrame
import Derived.Test.YtmonfljjdngfeaaDoorCards
namespace Go.Proofs.YtmonfljjdngfeaaDoor
set_option linter.unusedVariables false
set_option linter.unusedSimpArgs false
open Go

theorem Tryd.mainIs0 : Tryd.pinned.checked.prog.mainIs = some (((true, "000df1de1d94248bdcc1716e83cbf6843205007d52c97fcbb927c148e0021b93") : Bool × String).1, ((true, "000df1de1d94248bdcc1716e83cbf6843205007d52c97fcbb927c148e0021b93") : Bool × String).2.toList) := by kernel_rfl
theorem Tryd.looks0 : false = Tryd.pinned.checked.prog.looks [] := by kernel_rfl

end Go.Proofs.YtmonfljjdngfeaaDoor
