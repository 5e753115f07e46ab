/-
  Walks: periods: one is valid; one comes before another; the least number of crews.
-/
import Derived.Test.YtmonfljjdngfeaaDoorWL1
import Derived.Test.YtmonfljjdngfeaaDoorPPer
namespace Go.Proofs.YtmonfljjdngfeaaDoor
set_option linter.unusedVariables false
set_option linter.unusedSimpArgs false
open Go.RowKit

def lcN (f t m r : Int) : Int := min (upF r m + 1) (upF (t - f) m)
def spanB (f t m r : Int) : Bool := inB f 0 9999 && inB t 0 9999 && decide (f < t) && inB m 1 720 && inB r 0 720
theorem lc_min (x y : Int) : (if x < y then x else y) = min x y := by split <;> omega
theorem isMinute_any (m : Int) (w : World) :
    Calls Tryd.prog 27 #[.int .i64 m] w fun e w' => e = .returned (.bool (inB m 0 9999)) ∧ w = w' := by
  go_enter Tryd.func27, Tryd.ntmps27
  go_wp2_with (go_at_call 28; refine (inside_any _ _ _ _).mono ?_; rintro e w' ⟨rfl, rfl⟩)
  go_ret
  exact ⟨rfl, rfl⟩
theorem rfMinute_any (m : Int) (w : World) :
    Calls Tryd.prog 24 #[.int .i64 m] w fun e w' => e = .returned (.bool (inB m 0 9999)) ∧ w = w' := by
  go_enter Tryd.func24, Tryd.ntmps24
  go_wp2_with (go_at_call 25; refine (l1In_any _ _ _ _).mono ?_; rintro e w' ⟨rfl, rfl⟩)
  go_ret
  exact ⟨rfl, rfl⟩

end Go.Proofs.YtmonfljjdngfeaaDoor
