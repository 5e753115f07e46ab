/-
  Walks: the smallest functions: bounds, the lesser, the greater, a quotient rounded up.
-/
import Derived.Test.YtaijbihjkbpoeaaBase
import Derived.Test.YtaijbihjkbpoeaaPCyl
namespace Go.Proofs.Ytaijbihjkbpoeaa
set_option linter.unusedVariables false
set_option linter.unusedSimpArgs false
open Go.RowKit

set_option maxHeartbeats 400000 in
theorem inside_any (n a b : Int) (w : World) :
    Calls Try.prog 33 #[.int .i64 n, .int .i64 a, .int .i64 b] w fun e w' => e = .returned (.bool (inB n a b)) ∧ w = w' := by
  go_enter Try.func33, Try.ntmps33
  go_wp2
  all_goals (go_ret; rename_i h)
  · exact ⟨ret_bool (by simp [inB, h]), rfl⟩
  · exact ⟨ret_bool (by simp [inB]; omega), rfl⟩
set_option maxHeartbeats 400000 in
theorem l1In_any (n a b : Int) (w : World) :
    Calls Try.prog 49 #[.int .i64 n, .int .i64 a, .int .i64 b] w fun e w' => e = .returned (.bool (inB n a b)) ∧ w = w' := by
  go_enter Try.func49, Try.ntmps49
  go_wp2
  all_goals (go_ret; rename_i h)
  · exact ⟨ret_bool (by simp [inB, h]), rfl⟩
  · exact ⟨ret_bool (by simp [inB]; omega), rfl⟩
set_option maxHeartbeats 400000 in
theorem l1Least_any (a b : Int) (w : World) :
    Calls Try.prog 31 #[.int .i64 a, .int .i64 b] w fun e w' => e = .returned (.int .i64 (min a b)) ∧ w = w' := by
  by_cases h : a < b
  · go_enter Try.func31, Try.ntmps31
    go_wp2
    go_ret
    exact ⟨ret_int (by omega), rfl⟩
  · go_enter Try.func31, Try.ntmps31
    go_wp2
    go_ret
    exact ⟨ret_int (by omega), rfl⟩
set_option maxHeartbeats 400000 in
theorem upTo_any (a d : Int) (w : World) (ha : 0 ≤ a) (ha' : a ≤ 100000) (hd : 1 ≤ d) (hd' : d ≤ 100000) :
    Calls Try.prog 36 #[.int .i64 a, .int .i64 d] w fun e w' => e = .returned (.int .i64 (upF a d)) ∧ w = w' := by
  have hd2 : (d == 0) = false := by simp; omega
  go_enter Try.func36, Try.ntmps36
  go_wp2_with fail
  go_ret
  exact ⟨ret_int rfl, rfl⟩

end Go.Proofs.Ytaijbihjkbpoeaa
