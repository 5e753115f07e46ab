/-
  Walks: periods: one is valid; one comes before another; the least number of crews.
-/
import Derived.Test.YtmonfljjdngfeaaWL1
import Derived.Test.YtmonfljjdngfeaaPPer
namespace Go.Proofs.Ytmonfljjdngfeaa
set_option linter.unusedVariables false
set_option linter.unusedSimpArgs false
open Go.RowKit

def lcN (f t m r : Int) : Int := min (upF r m + 1) (upF (t - f) m)
def spanB (f t m r : Int) : Bool := inB f 0 9999 && inB t 0 9999 && decide (f < t) && inB m 1 720 && inB r 0 720
theorem lc_min (x y : Int) : (if x < y then x else y) = min x y := by split <;> omega
theorem isMinute_any (m : Int) (w : World) :
    Calls Try.prog 29 #[.int .i64 m] w fun e w' => e = .returned (.bool (inB m 0 9999)) ∧ w = w' := by
  go_enter Try.func29, Try.ntmps29
  go_wp2_with (go_at_call 30; refine (inside_any _ _ _ _).mono ?_; rintro e w' ⟨rfl, rfl⟩)
  go_ret
  exact ⟨rfl, rfl⟩
theorem rfMinute_any (m : Int) (w : World) :
    Calls Try.prog 25 #[.int .i64 m] w fun e w' => e = .returned (.bool (inB m 0 9999)) ∧ w = w' := by
  go_enter Try.func25, Try.ntmps25
  go_wp2_with (go_at_call 26; refine (l1In_any _ _ _ _).mono ?_; rintro e w' ⟨rfl, rfl⟩)
  go_ret
  exact ⟨rfl, rfl⟩

end Go.Proofs.Ytmonfljjdngfeaa
