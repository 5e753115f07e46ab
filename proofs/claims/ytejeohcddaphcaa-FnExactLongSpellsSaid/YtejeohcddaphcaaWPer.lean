/-
  Walks: periods: one is valid; one comes before another; the least number of crews.
-/
import Derived.Test.YtejeohcddaphcaaWL1
import Derived.Test.YtejeohcddaphcaaPPer
namespace Go.Proofs.Ytejeohcddaphcaa
set_option linter.unusedVariables false
set_option linter.unusedSimpArgs false
open Go.RowKit

def lcN (f t m r : Int) : Int := min (upF r m + 1) (upF (t - f) m)
def spanB (f t m r : Int) : Bool := inB f 0 9999 && inB t 0 9999 && decide (f < t) && inB m 1 720 && inB r 0 720
theorem lc_min (x y : Int) : (if x < y then x else y) = min x y := by split <;> omega
theorem isMinute_any (m : Int) (w : World) :
    Calls Try.prog 36 #[.int .i64 m] w fun e w' => e = .returned (.bool (inB m 0 9999)) ∧ w = w' := by
  go_enter Try.func36, Try.ntmps36
  go_wp2_with (go_at_call 37; refine (inside_any _ _ _ _).mono ?_; rintro e w' ⟨rfl, rfl⟩)
  go_ret
  exact ⟨rfl, rfl⟩
theorem rfMinute_any (m : Int) (w : World) :
    Calls Try.prog 61 #[.int .i64 m] w fun e w' => e = .returned (.bool (inB m 0 9999)) ∧ w = w' := by
  go_enter Try.func61, Try.ntmps61
  go_wp2_with (go_at_call 57; refine (l1In_any _ _ _ _).mono ?_; rintro e w' ⟨rfl, rfl⟩)
  go_ret
  exact ⟨rfl, rfl⟩
theorem rfMost_any (m : Int) (w : World) :
    Calls Try.prog 48 #[.int .i64 m] w fun e w' => e = .returned (.bool (inB m 1 720)) ∧ w = w' := by
  go_enter Try.func48, Try.ntmps48
  go_wp2_with (go_at_call 57; refine (l1In_any _ _ _ _).mono ?_; rintro e w' ⟨rfl, rfl⟩)
  go_ret
  exact ⟨rfl, rfl⟩
theorem rfLeast_any (m : Int) (w : World) :
    Calls Try.prog 55 #[.int .i64 m] w fun e w' => e = .returned (.bool (inB m 0 720)) ∧ w = w' := by
  go_enter Try.func55, Try.ntmps55
  go_wp2_with (go_at_call 57; refine (l1In_any _ _ _ _).mono ?_; rintro e w' ⟨rfl, rfl⟩)
  go_ret
  exact ⟨rfl, rfl⟩
set_option maxHeartbeats 800000 in
theorem leastCrews_any (f t m r : Int) (w : World) (h : spanB f t m r = true) :
    Calls Try.prog 38 #[.int .i64 f, .int .i64 t, .int .i64 m, .int .i64 r] w fun e w' => e = .returned (.int .i64 (lcN f t m r)) ∧ w = w' := by
  simp only [spanB, Bool.and_eq_true, inB_iff, decide_eq_true_eq] at h
  obtain ⟨⟨⟨⟨h1, h2⟩, h3⟩, h4⟩, h5⟩ := h
  have u1 := upF_bd (a := r) (d := m) (by omega) (by omega) (by omega)
  go_enter Try.func38, Try.ntmps38
  go_wp2_with (go_at_call 62; refine (upTo_any _ _ _ (by omega) (by omega) (by omega) (by omega)).mono ?_; rintro e w' ⟨rfl, rfl⟩)
  all_goals go_ret
  all_goals exact ⟨ret_int (by unfold lcN; omega), rfl⟩
def lcNN (f t m r : Int) : Int := if spanB f t m r = true then lcN f t m r else 0
set_option maxHeartbeats 800000 in
theorem LeastCrews_impl (f t m r : Int) (w : World) :
    Calls Try.prog 12 #[.int .i64 f, .int .i64 t, .int .i64 m, .int .i64 r] w fun e w' => e = .returned (.tuple #[.int .i64 (lcNN f t m r), .bool (spanB f t m r)]) ∧ w = w' := by
  cases hc1_0 : inB f 0 9999 with
  | false =>
    have HA : Hid (spanB f t m r = false) := by show _ = _; simp [spanB, *]
    go_enter Try.func12, Try.ntmps12
    go_wp2_with (first | (go_at_call 36; refine (isMinute_any _ _).mono ?_; rintro e w' ⟨rfl, rfl⟩) | (go_at_call 37; refine (inside_any _ _ _ _).mono ?_; rintro e w' ⟨rfl, rfl⟩))
    go_ret2
    exact ⟨ret_ib (by rw [lcNN, HA.out]; rfl) HA.out.symm, rfl⟩
  | true =>
    obtain ⟨hc1_0l, hc1_0r⟩ := inB_iff.1 hc1_0
    cases hc1_1 : inB t 0 9999 with
    | false =>
      have HA : Hid (spanB f t m r = false) := by show _ = _; simp [spanB, *]
      go_enter Try.func12, Try.ntmps12
      go_wp2_with (first | (go_at_call 36; refine (isMinute_any _ _).mono ?_; rintro e w' ⟨rfl, rfl⟩) | (go_at_call 37; refine (inside_any _ _ _ _).mono ?_; rintro e w' ⟨rfl, rfl⟩))
      go_ret2
      exact ⟨ret_ib (by rw [lcNN, HA.out]; rfl) HA.out.symm, rfl⟩
    | true =>
      obtain ⟨hc1_1l, hc1_1r⟩ := inB_iff.1 hc1_1
      cases hc1_2 : decide (f < t) with
      | false =>
        have hc1_2l := of_decide_eq_false hc1_2
        have HA : Hid (spanB f t m r = false) := by show _ = _; simp [spanB, *]
        go_enter Try.func12, Try.ntmps12
        go_wp2_with (first | (go_at_call 36; refine (isMinute_any _ _).mono ?_; rintro e w' ⟨rfl, rfl⟩) | (go_at_call 37; refine (inside_any _ _ _ _).mono ?_; rintro e w' ⟨rfl, rfl⟩))
        go_ret2
        exact ⟨ret_ib (by rw [lcNN, HA.out]; rfl) HA.out.symm, rfl⟩
      | true =>
        have hc1_2l := of_decide_eq_true hc1_2
        cases hc1_3 : inB m 1 720 with
        | false =>
          have HA : Hid (spanB f t m r = false) := by show _ = _; simp [spanB, *]
          go_enter Try.func12, Try.ntmps12
          go_wp2_with (first | (go_at_call 36; refine (isMinute_any _ _).mono ?_; rintro e w' ⟨rfl, rfl⟩) | (go_at_call 37; refine (inside_any _ _ _ _).mono ?_; rintro e w' ⟨rfl, rfl⟩))
          go_ret2
          exact ⟨ret_ib (by rw [lcNN, HA.out]; rfl) HA.out.symm, rfl⟩
        | true =>
          obtain ⟨hc1_3l, hc1_3r⟩ := inB_iff.1 hc1_3
          cases hc1_4 : inB r 0 720 with
          | false =>
            have HA : Hid (spanB f t m r = false) := by show _ = _; simp [spanB, *]
            go_enter Try.func12, Try.ntmps12
            go_wp2_with (first | (go_at_call 36; refine (isMinute_any _ _).mono ?_; rintro e w' ⟨rfl, rfl⟩) | (go_at_call 37; refine (inside_any _ _ _ _).mono ?_; rintro e w' ⟨rfl, rfl⟩))
            go_ret2
            exact ⟨ret_ib (by rw [lcNN, HA.out]; rfl) HA.out.symm, rfl⟩
          | true =>
            obtain ⟨hc1_4l, hc1_4r⟩ := inB_iff.1 hc1_4
            have HA : Hid (spanB f t m r = true) := by show _ = _; simp [spanB, *]
            go_enter Try.func12, Try.ntmps12
            go_wp2_with (first | (go_at_call 36; refine (isMinute_any _ _).mono ?_; rintro e w' ⟨rfl, rfl⟩) | (go_at_call 37; refine (inside_any _ _ _ _).mono ?_; rintro e w' ⟨rfl, rfl⟩) | (go_at_call 38; refine (leastCrews_any _ _ _ _ _ HA.out).mono ?_; rintro e w' ⟨rfl, rfl⟩))
            go_ret2
            exact ⟨ret_ib (by rw [lcNN, HA.out]; rfl) HA.out.symm, rfl⟩
set_option maxHeartbeats 800000 in
theorem rfSpan_any (f t m r : Int) (w : World) :
    Calls Try.prog 34 #[.int .i64 f, .int .i64 t, .int .i64 m, .int .i64 r] w fun e w' => e = .returned (.bool (spanB f t m r)) ∧ w = w' := by
  cases hc2_0 : inB f 0 9999 with
  | false =>
    go_enter Try.func34, Try.ntmps34
    go_wp2_with (first | (go_at_call 61; refine (rfMinute_any _ _).mono ?_; rintro e w' ⟨rfl, rfl⟩) | (go_at_call 48; refine (rfMost_any _ _).mono ?_; rintro e w' ⟨rfl, rfl⟩) | (go_at_call 55; refine (rfLeast_any _ _).mono ?_; rintro e w' ⟨rfl, rfl⟩))
    go_ret
    exact ⟨ret_bool (by simp [spanB, *]), rfl⟩
  | true =>
    obtain ⟨hc2_0l, hc2_0r⟩ := inB_iff.1 hc2_0
    cases hc2_1 : inB t 0 9999 with
    | false =>
      go_enter Try.func34, Try.ntmps34
      go_wp2_with (first | (go_at_call 61; refine (rfMinute_any _ _).mono ?_; rintro e w' ⟨rfl, rfl⟩) | (go_at_call 48; refine (rfMost_any _ _).mono ?_; rintro e w' ⟨rfl, rfl⟩) | (go_at_call 55; refine (rfLeast_any _ _).mono ?_; rintro e w' ⟨rfl, rfl⟩))
      go_ret
      exact ⟨ret_bool (by simp [spanB, *]), rfl⟩
    | true =>
      obtain ⟨hc2_1l, hc2_1r⟩ := inB_iff.1 hc2_1
      cases hc2_2 : decide (f < t) with
      | false =>
        have hc2_2l := of_decide_eq_false hc2_2
        go_enter Try.func34, Try.ntmps34
        go_wp2_with (first | (go_at_call 61; refine (rfMinute_any _ _).mono ?_; rintro e w' ⟨rfl, rfl⟩) | (go_at_call 48; refine (rfMost_any _ _).mono ?_; rintro e w' ⟨rfl, rfl⟩) | (go_at_call 55; refine (rfLeast_any _ _).mono ?_; rintro e w' ⟨rfl, rfl⟩))
        go_ret
        exact ⟨ret_bool (by simp [spanB, *]), rfl⟩
      | true =>
        have hc2_2l := of_decide_eq_true hc2_2
        cases hc2_3 : inB m 1 720 with
        | false =>
          go_enter Try.func34, Try.ntmps34
          go_wp2_with (first | (go_at_call 61; refine (rfMinute_any _ _).mono ?_; rintro e w' ⟨rfl, rfl⟩) | (go_at_call 48; refine (rfMost_any _ _).mono ?_; rintro e w' ⟨rfl, rfl⟩) | (go_at_call 55; refine (rfLeast_any _ _).mono ?_; rintro e w' ⟨rfl, rfl⟩))
          go_ret
          exact ⟨ret_bool (by simp [spanB, *]), rfl⟩
        | true =>
          obtain ⟨hc2_3l, hc2_3r⟩ := inB_iff.1 hc2_3
          go_enter Try.func34, Try.ntmps34
          go_wp2_with (first | (go_at_call 61; refine (rfMinute_any _ _).mono ?_; rintro e w' ⟨rfl, rfl⟩) | (go_at_call 48; refine (rfMost_any _ _).mono ?_; rintro e w' ⟨rfl, rfl⟩) | (go_at_call 55; refine (rfLeast_any _ _).mono ?_; rintro e w' ⟨rfl, rfl⟩))
          go_ret
          exact ⟨ret_bool (by simp [spanB, *]), rfl⟩
set_option maxHeartbeats 800000 in
theorem rfNeeded_any (f t m r : Int) (w : World) (h : spanB f t m r = true) :
    Calls Try.prog 35 #[.int .i64 f, .int .i64 t, .int .i64 m, .int .i64 r] w fun e w' => e = .returned (.tuple #[.int .i64 (upF (t - f) m), .int .i64 (lcN f t m r)]) ∧ w = w' := by
  simp only [spanB, Bool.and_eq_true, inB_iff, decide_eq_true_eq] at h
  obtain ⟨⟨⟨⟨h1, h2⟩, h3⟩, h4⟩, h5⟩ := h
  have u1 := upF_bd (a := r) (d := m) (by omega) (by omega) (by omega)
  have hd2 : (m == 0) = false := by simp; omega
  unfold upF at u1
  go_enter Try.func35, Try.ntmps35
  go_wp2_with (go_at_call 45; refine (l1Least_any _ _ _).mono ?_; rintro e w' ⟨rfl, rfl⟩)
  go_ret2
  exact ⟨by rw [lcN, upF, upF, Int.min_comm]; rfl, rfl⟩
set_option maxHeartbeats 800000 in
theorem LeastCrews_spec (f t m r : Int) (w : World) :
    Calls Try.prog 11 #[.int .i64 f, .int .i64 t, .int .i64 m, .int .i64 r] w fun e w' => e = .returned (.tuple #[.int .i64 (lcNN f t m r), .bool (spanB f t m r)]) ∧ w = w' := by
  cases h : spanB f t m r with
  | false =>
    have HA := hide h
    go_enter Try.func11, Try.ntmps11
    go_wp2_with (go_at_call 34; refine (rfSpan_any _ _ _ _ _).mono ?_; rintro e w' ⟨rfl, rfl⟩)
    go_ret2
    exact ⟨ret_ib (by rw [lcNN, HA.out]; rfl) rfl, rfl⟩
  | true =>
    have HA := hide h
    go_enter Try.func11, Try.ntmps11
    go_wp2_with (first | (go_at_call 34; refine (rfSpan_any _ _ _ _ _).mono ?_; rintro e w' ⟨rfl, rfl⟩) | (go_at_call 35; refine (rfNeeded_any _ _ _ _ _ HA.out).mono ?_; rintro e w' ⟨rfl, rfl⟩))
    go_ret2
    exact ⟨ret_ib (by rw [lcNN, HA.out]; rfl) rfl, rfl⟩

end Go.Proofs.Ytejeohcddaphcaa
