/-
  Walks: periods: one is valid; one comes before another; the least number of crews.
-/
import Derived.Test.YtaijbihjkbpoeaaWL1
import Derived.Test.YtaijbihjkbpoeaaPPer
namespace Go.Proofs.Ytaijbihjkbpoeaa
set_option linter.unusedVariables false
set_option linter.unusedSimpArgs false
open Go.RowKit

def lcN (f t m r : Int) : Int := min (upF r m + 1) (upF (t - f) m)
def spanB (f t m r : Int) : Bool := inB f 0 9999 && inB t 0 9999 && decide (f < t) && inB m 1 720 && inB r 0 720
theorem lc_min (x y : Int) : (if x < y then x else y) = min x y := by split <;> omega
theorem isMinute_any (m : Int) (w : World) :
    Calls Try.prog 32 #[.int .i64 m] w fun e w' => e = .returned (.bool (inB m 0 9999)) ∧ w = w' := by
  go_enter Try.func32, Try.ntmps32
  go_wp2_with (go_at_call 33; refine (inside_any _ _ _ _).mono ?_; rintro e w' ⟨rfl, rfl⟩)
  go_ret
  exact ⟨rfl, rfl⟩
theorem rfMinute_any (m : Int) (w : World) :
    Calls Try.prog 48 #[.int .i64 m] w fun e w' => e = .returned (.bool (inB m 0 9999)) ∧ w = w' := by
  go_enter Try.func48, Try.ntmps48
  go_wp2_with (go_at_call 49; refine (l1In_any _ _ _ _).mono ?_; rintro e w' ⟨rfl, rfl⟩)
  go_ret
  exact ⟨rfl, rfl⟩
theorem rfMost_any (m : Int) (w : World) :
    Calls Try.prog 53 #[.int .i64 m] w fun e w' => e = .returned (.bool (inB m 1 720)) ∧ w = w' := by
  go_enter Try.func53, Try.ntmps53
  go_wp2_with (go_at_call 49; refine (l1In_any _ _ _ _).mono ?_; rintro e w' ⟨rfl, rfl⟩)
  go_ret
  exact ⟨rfl, rfl⟩
theorem rfLeast_any (m : Int) (w : World) :
    Calls Try.prog 57 #[.int .i64 m] w fun e w' => e = .returned (.bool (inB m 0 720)) ∧ w = w' := by
  go_enter Try.func57, Try.ntmps57
  go_wp2_with (go_at_call 49; refine (l1In_any _ _ _ _).mono ?_; rintro e w' ⟨rfl, rfl⟩)
  go_ret
  exact ⟨rfl, rfl⟩
set_option maxHeartbeats 800000 in
theorem leastCrews_any (f t m r : Int) (w : World) (h : spanB f t m r = true) :
    Calls Try.prog 35 #[.int .i64 f, .int .i64 t, .int .i64 m, .int .i64 r] w fun e w' => e = .returned (.int .i64 (lcN f t m r)) ∧ w = w' := by
  simp only [spanB, Bool.and_eq_true, inB_iff, decide_eq_true_eq] at h
  obtain ⟨⟨⟨⟨h1, h2⟩, h3⟩, h4⟩, h5⟩ := h
  have u1 := upF_bd (a := r) (d := m) (by omega) (by omega) (by omega)
  go_enter Try.func35, Try.ntmps35
  go_wp2_with (go_at_call 36; refine (upTo_any _ _ _ (by omega) (by omega) (by omega) (by omega)).mono ?_; rintro e w' ⟨rfl, rfl⟩)
  all_goals go_ret
  all_goals exact ⟨ret_int (by unfold lcN; omega), rfl⟩
set_option maxHeartbeats 800000 in
theorem rfSpan_any (f t m r : Int) (w : World) :
    Calls Try.prog 27 #[.int .i64 f, .int .i64 t, .int .i64 m, .int .i64 r] w fun e w' => e = .returned (.bool (spanB f t m r)) ∧ w = w' := by
  cases hc2_0 : inB f 0 9999 with
  | false =>
    go_enter Try.func27, Try.ntmps27
    go_wp2_with (first | (go_at_call 48; refine (rfMinute_any _ _).mono ?_; rintro e w' ⟨rfl, rfl⟩) | (go_at_call 53; refine (rfMost_any _ _).mono ?_; rintro e w' ⟨rfl, rfl⟩) | (go_at_call 57; refine (rfLeast_any _ _).mono ?_; rintro e w' ⟨rfl, rfl⟩))
    go_ret
    exact ⟨ret_bool (by simp [spanB, *]), rfl⟩
  | true =>
    obtain ⟨hc2_0l, hc2_0r⟩ := inB_iff.1 hc2_0
    cases hc2_1 : inB t 0 9999 with
    | false =>
      go_enter Try.func27, Try.ntmps27
      go_wp2_with (first | (go_at_call 48; refine (rfMinute_any _ _).mono ?_; rintro e w' ⟨rfl, rfl⟩) | (go_at_call 53; refine (rfMost_any _ _).mono ?_; rintro e w' ⟨rfl, rfl⟩) | (go_at_call 57; refine (rfLeast_any _ _).mono ?_; rintro e w' ⟨rfl, rfl⟩))
      go_ret
      exact ⟨ret_bool (by simp [spanB, *]), rfl⟩
    | true =>
      obtain ⟨hc2_1l, hc2_1r⟩ := inB_iff.1 hc2_1
      cases hc2_2 : decide (f < t) with
      | false =>
        have hc2_2l := of_decide_eq_false hc2_2
        go_enter Try.func27, Try.ntmps27
        go_wp2_with (first | (go_at_call 48; refine (rfMinute_any _ _).mono ?_; rintro e w' ⟨rfl, rfl⟩) | (go_at_call 53; refine (rfMost_any _ _).mono ?_; rintro e w' ⟨rfl, rfl⟩) | (go_at_call 57; refine (rfLeast_any _ _).mono ?_; rintro e w' ⟨rfl, rfl⟩))
        go_ret
        exact ⟨ret_bool (by simp [spanB, *]), rfl⟩
      | true =>
        have hc2_2l := of_decide_eq_true hc2_2
        cases hc2_3 : inB m 1 720 with
        | false =>
          go_enter Try.func27, Try.ntmps27
          go_wp2_with (first | (go_at_call 48; refine (rfMinute_any _ _).mono ?_; rintro e w' ⟨rfl, rfl⟩) | (go_at_call 53; refine (rfMost_any _ _).mono ?_; rintro e w' ⟨rfl, rfl⟩) | (go_at_call 57; refine (rfLeast_any _ _).mono ?_; rintro e w' ⟨rfl, rfl⟩))
          go_ret
          exact ⟨ret_bool (by simp [spanB, *]), rfl⟩
        | true =>
          obtain ⟨hc2_3l, hc2_3r⟩ := inB_iff.1 hc2_3
          go_enter Try.func27, Try.ntmps27
          go_wp2_with (first | (go_at_call 48; refine (rfMinute_any _ _).mono ?_; rintro e w' ⟨rfl, rfl⟩) | (go_at_call 53; refine (rfMost_any _ _).mono ?_; rintro e w' ⟨rfl, rfl⟩) | (go_at_call 57; refine (rfLeast_any _ _).mono ?_; rintro e w' ⟨rfl, rfl⟩))
          go_ret
          exact ⟨ret_bool (by simp [spanB, *]), rfl⟩
set_option maxHeartbeats 800000 in
theorem rfNeeded_any (f t m r : Int) (w : World) (h : spanB f t m r = true) :
    Calls Try.prog 30 #[.int .i64 f, .int .i64 t, .int .i64 m, .int .i64 r] w fun e w' => e = .returned (.tuple #[.int .i64 (upF (t - f) m), .int .i64 (lcN f t m r)]) ∧ w = w' := by
  simp only [spanB, Bool.and_eq_true, inB_iff, decide_eq_true_eq] at h
  obtain ⟨⟨⟨⟨h1, h2⟩, h3⟩, h4⟩, h5⟩ := h
  have u1 := upF_bd (a := r) (d := m) (by omega) (by omega) (by omega)
  have hd2 : (m == 0) = false := by simp; omega
  unfold upF at u1
  go_enter Try.func30, Try.ntmps30
  go_wp2_with (go_at_call 31; refine (l1Least_any _ _ _).mono ?_; rintro e w' ⟨rfl, rfl⟩)
  go_ret2
  exact ⟨by rw [lcN, upF, upF, Int.min_comm]; rfl, rfl⟩

end Go.Proofs.Ytaijbihjkbpoeaa
