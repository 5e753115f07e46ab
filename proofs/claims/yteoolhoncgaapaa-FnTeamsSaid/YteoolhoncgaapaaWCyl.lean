/-
  Walks: the functions on cylinders that take numbers and cylinders alone.
-/
import Derived.Test.YteoolhoncgaapaaWL1
namespace Go.Proofs.Yteoolhoncgaapaa
set_option linter.unusedVariables false
set_option linter.unusedSimpArgs false
open Go.RowKit

set_option maxHeartbeats 400000 in
theorem isCylinder_any (v b : Int) (w : World) :
    Calls Try.prog 43 #[.agg #[.int .i64 v, .int .i64 b]] w fun e w' => e = .returned (.bool (cylB v b)) ∧ Below w.heap.size w w' := by
  go_enter Try.func43, Try.ntmps43
  go_wp2_with (go_at_call 46; refine (inside_any _ _ _ _).mono ?_; rintro e w' ⟨rfl, rfl⟩)
  all_goals (go_ret; rename_i h; exact ⟨ret_bool (by simp [cylB, h]), (Below.refl _ _).alloc (Nat.le_refl _) _⟩)
set_option maxHeartbeats 400000 in
theorem cyBar_any (n : Int) (w : World) :
    Calls Try.prog 59 #[.int .i64 n] w fun e w' => e = .returned (.bool (inB n 0 330)) ∧ w = w' := by
  go_enter Try.func59, Try.ntmps59
  go_wp2_with (go_at_call 39; refine (l1In_any _ _ _ _).mono ?_; rintro e w' ⟨rfl, rfl⟩)
  go_ret
  exact ⟨rfl, rfl⟩
set_option maxHeartbeats 400000 in
theorem cyVolume_any (n : Int) (w : World) :
    Calls Try.prog 69 #[.int .i64 n] w fun e w' => e = .returned (.bool (inB n 10 3000)) ∧ w = w' := by
  go_enter Try.func69, Try.ntmps69
  go_wp2_with (go_at_call 39; refine (l1In_any _ _ _ _).mono ?_; rintro e w' ⟨rfl, rfl⟩)
  go_ret
  exact ⟨rfl, rfl⟩
set_option maxHeartbeats 400000 in
theorem cyGood_any (v b : Int) (w : World) :
    Calls Try.prog 38 #[.agg #[.int .i64 v, .int .i64 b]] w fun e w' => e = .returned (.bool (cylB v b)) ∧ Below w.heap.size w w' := by
  go_enter Try.func38, Try.ntmps38
  go_wp2_with (first | (go_at_call 69; refine (cyVolume_any _ _).mono ?_; rintro e w' ⟨rfl, rfl⟩) | (go_at_call 59; refine (cyBar_any _ _).mono ?_; rintro e w' ⟨rfl, rfl⟩))
  all_goals (go_ret; rename_i h; exact ⟨ret_bool (by simp [cylB, h]), (Below.refl _ _).alloc (Nat.le_refl _) _⟩)
set_option maxHeartbeats 400000 in
theorem cyRate_any (n : Int) (w : World) :
    Calls Try.prog 58 #[.int .i64 n] w fun e w' => e = .returned (.bool (inB n 1 200)) ∧ w = w' := by
  go_enter Try.func58, Try.ntmps58
  go_wp2_with (go_at_call 39; refine (l1In_any _ _ _ _).mono ?_; rintro e w' ⟨rfl, rfl⟩)
  go_ret
  exact ⟨rfl, rfl⟩
set_option maxHeartbeats 400000 in
theorem isRate_any (n : Int) (w : World) :
    Calls Try.prog 50 #[.int .i64 n] w fun e w' => e = .returned (.bool (inB n 1 200)) ∧ w = w' := by
  go_enter Try.func50, Try.ntmps50
  go_wp2_with (go_at_call 46; refine (inside_any _ _ _ _).mono ?_; rintro e w' ⟨rfl, rfl⟩)
  go_ret
  exact ⟨rfl, rfl⟩
set_option maxHeartbeats 400000 in
theorem cyMinutes_any (n : Int) (w : World) :
    Calls Try.prog 62 #[.int .i64 n] w fun e w' => e = .returned (.bool (inB n 0 600)) ∧ w = w' := by
  go_enter Try.func62, Try.ntmps62
  go_wp2_with (go_at_call 39; refine (l1In_any _ _ _ _).mono ?_; rintro e w' ⟨rfl, rfl⟩)
  go_ret
  exact ⟨rfl, rfl⟩
set_option maxHeartbeats 400000 in
theorem cyReserve_any (n : Int) (w : World) :
    Calls Try.prog 73 #[.int .i64 n] w fun e w' => e = .returned (.bool (inB n 0 100)) ∧ w = w' := by
  go_enter Try.func73, Try.ntmps73
  go_wp2_with (go_at_call 39; refine (l1In_any _ _ _ _).mono ?_; rintro e w' ⟨rfl, rfl⟩)
  go_ret
  exact ⟨rfl, rfl⟩

theorem lit_walk {v b : Int} (hv : 10 ≤ v) (hv' : v ≤ 3000) (h0 : 0 ≤ b) (h1 : b ≤ 330) : (200 < b → 0 ≤ v * (200 + 9 * (b - 200) / 10) ∧ v * (200 + 9 * (b - 200) / 10) ≤ 951000) ∧ (b ≤ 200 → 0 ≤ v * b ∧ v * b ≤ 951000) := by
  have he := eff_bd h0 h1
  have hm := mul_bd (by omega) hv' he.1 he.2
  unfold eff at hm
  split at hm
  · exact ⟨fun _ => hm, fun h => by omega⟩
  · exact ⟨fun h => by omega, fun _ => hm⟩

set_option maxHeartbeats 400000 in
theorem litresAt_any (v b : Int) (w : World) (hv : 10 ≤ v) (hv' : v ≤ 3000) (h0 : 0 ≤ b) (h1 : b ≤ 330) :
    Calls Try.prog 48 #[.int .i64 v, .int .i64 b] w fun e w' => e = .returned (.int .i64 (lit v b)) ∧ w = w' := by
  obtain ⟨m1, m2⟩ := lit_walk hv hv' h0 h1
  by_cases h : 200 < b
  · obtain ⟨m3, m4⟩ := m1 h
    clear m1 m2
    go_enter Try.func48, Try.ntmps48
    go_wp2
    go_ret
    exact ⟨ret_int (by simp [lit, eff, h]), rfl⟩
  · obtain ⟨m3, m4⟩ := m2 (by omega)
    clear m1 m2
    go_enter Try.func48, Try.ntmps48
    go_wp2
    go_ret
    exact ⟨ret_int (by simp [lit, eff]; rw [if_neg (by omega)]), rfl⟩
set_option maxHeartbeats 400000 in
theorem cyLitres_any (v b : Int) (w : World) (hv : 10 ≤ v) (hv' : v ≤ 3000) (h0 : 0 ≤ b) (h1 : b ≤ 330) :
    Calls Try.prog 40 #[.int .i64 v, .int .i64 b] w fun e w' => e = .returned (.int .i64 (lit v b)) ∧ w = w' := by
  obtain ⟨m1, m2⟩ := lit_walk hv hv' h0 h1
  by_cases h : 200 < b
  · obtain ⟨m3, m4⟩ := m1 h
    clear m1 m2
    go_enter Try.func40, Try.ntmps40
    go_wp2
    go_ret
    exact ⟨ret_int (by simp [lit, eff, h]), rfl⟩
  · obtain ⟨m3, m4⟩ := m2 (by omega)
    clear m1 m2
    go_enter Try.func40, Try.ntmps40
    go_wp2
    go_ret
    exact ⟨ret_int (by simp [lit, eff]; rw [if_neg (by omega)]), rfl⟩

/-! ### barAfter -/
set_option maxHeartbeats 400000 in
theorem barAfter_no (v b u : Int) (w : World) (hv : 10 ≤ v) (hv' : v ≤ 3000) (h0 : 0 ≤ b) (h1 : b ≤ 330) (hu' : u ≤ 100000000) (h : lit v b < u) :
    Calls Try.prog 47 #[.agg #[.int .i64 v, .int .i64 b], .int .i64 u] w fun e w' => e = .returned (.tuple #[.int .i64 0, .bool false]) ∧ Below w.heap.size w w' := by
  have hl := lit_bd (v := v) (by omega) hv' h0 h1
  have hd : decide (lit v b - u < 0) = true := by simp; omega
  go_enter Try.func47, Try.ntmps47
  go_wp2_with (go_at_call 48; refine (litresAt_any _ _ _ hv hv' (by omega) (by omega)).mono ?_; rintro e w' ⟨rfl, rfl⟩)
  go_ret2
  exact ⟨rfl, (Below.refl _ _).alloc (Nat.le_refl _) _⟩
set_option maxHeartbeats 400000 in
theorem barAfter_yes (v b u : Int) (w : World) (hv : 10 ≤ v) (hv' : v ≤ 3000) (h0 : 0 ≤ b) (h1 : b ≤ 330) (hu : 0 ≤ u) (h : u ≤ lit v b) :
    Calls Try.prog 47 #[.agg #[.int .i64 v, .int .i64 b], .int .i64 u] w fun e w' => e = .returned (.tuple #[.int .i64 (down v (lit v b - u) b.toNat : Nat), .bool true]) ∧ Below w.heap.size w w' := by
  have hl := lit_bd (v := v) (by omega) hv' h0 h1
  have hd : decide (lit v b - u < 0) = false := by simp; omega
  go_enter Try.func47, Try.ntmps47
  go_wp2_with (go_at_call 48; refine (litresAt_any _ _ _ hv hv' (by omega) (by omega)).mono ?_; rintro e w' ⟨rfl, rfl⟩)
  go_loop [7] (fun i => ∃ k : Nat, (k : Int) ≤ b ∧ i = .int .i64 k ∧ Hid (∀ j : Nat, k < j → j ≤ b.toNat → lit v b - u < lit v (j : Nat))) (fun i => (intOf i).toNat)
  case atStart => exact ⟨b.toNat, by omega, by rw [Int.toNat_of_nonneg h0], fun j a1 a2 => by omega⟩
  case round =>
    obtain ⟨k, hk, rfl, hj⟩ := hrel
    by_cases hc : lit v b - u < lit v (k : Int)
    · have hk0 : 0 < k := by
        rcases Nat.eq_zero_or_pos k with rfl | hp
        · have := lit_zero v; simp at hc; omega
        · exact hp
      have hc' : decide (lit v b - u < lit v (k : Int)) = true := by simpa using hc
      go_wp2_with (go_at_call 48; refine (litresAt_any _ _ _ hv hv' (by omega) (by omega)).mono ?_; rintro e w' ⟨rfl, rfl⟩)
      go_round
      case rel => exact ⟨k - 1, by omega, by go_num, fun j a1 a2 => by
        rcases Nat.lt_or_ge k j with h | h
        · exact hj.out j h a2
        · obtain rfl : j = k := by omega
          exact hc⟩
      case measure => simp [intOf]; omega
    · have hc' : decide (lit v b - u < lit v (k : Int)) = false := by simpa using hc
      go_wp2_with (go_at_call 48; refine (litresAt_any _ _ _ hv hv' (by omega) (by omega)).mono ?_; rintro e w' ⟨rfl, rfl⟩)
      go_ret2
      exact ⟨ret_ib (by rw [down_step (m := k) (by omega) hj.out (.inr (by omega))]) rfl, (Below.refl _ _).alloc (Nat.le_refl _) _⟩
theorem barAfter_any (v b u : Int) (w : World) (hv : 10 ≤ v) (hv' : v ≤ 3000) (h0 : 0 ≤ b) (h1 : b ≤ 330) (hu : 0 ≤ u) (hu' : u ≤ 100000000) :
    Calls Try.prog 47 #[.agg #[.int .i64 v, .int .i64 b], .int .i64 u] w fun e w' => e = .returned (.tuple #[.int .i64 (aftN v b u), .bool (aftOk v b u)]) ∧ Below w.heap.size w w' := by
  by_cases h : u ≤ lit v b
  · refine (barAfter_yes v b u w hv hv' h0 h1 hu h).mono fun e w' ⟨he, hb⟩ => ⟨?_, hb⟩
    rw [he, aftN, if_pos h, aftOk, decide_eq_true h]
  · refine (barAfter_no v b u w hv hv' h0 h1 hu' (by omega)).mono fun e w' ⟨he, hb⟩ => ⟨?_, hb⟩
    rw [he, aftN, if_neg h, aftOk, decide_eq_false h]

/-! ### cyFor, cyAfter -/
set_option maxHeartbeats 400000 in
theorem cyFor_any (v l : Int) (w : World) (hv : 10 ≤ v) (hv' : v ≤ 3000) (hl : 0 ≤ l) (hl' : l ≤ 100000000) :
    Calls Try.prog 42 #[.int .i64 v, .int .i64 l] w fun e w' => e = .returned (.int .i64 (down v l 330 : Nat)) ∧ w = w' := by
  go_enter Try.func42, Try.ntmps42
  go_wp2_with fail
  go_loop [5] (fun i => ∃ k : Nat, k ≤ 330 ∧ i = .int .i64 k ∧ Hid (∀ j : Nat, k < j → j ≤ 330 → l < lit v (j : Nat))) (fun i => (intOf i).toNat)
  case atStart => exact ⟨330, by omega, rfl, fun j a1 a2 => by omega⟩
  case round =>
    obtain ⟨k, hk, rfl, hj⟩ := hrel
    by_cases hc : l < lit v (k : Int)
    · have hk0 : 0 < k := by
        rcases Nat.eq_zero_or_pos k with rfl | hp
        · have := lit_zero v; simp at hc; omega
        · exact hp
      have hc' : decide (l < lit v (k : Int)) = true := by simpa using hc
      go_wp2_with (go_at_call 40; refine (cyLitres_any _ _ _ hv hv' (by omega) (by omega)).mono ?_; rintro e w' ⟨rfl, rfl⟩)
      go_round
      case rel => exact ⟨k - 1, by omega, by go_num, fun j a1 a2 => by
        rcases Nat.lt_or_ge k j with h | h
        · exact hj.out j h a2
        · obtain rfl : j = k := by omega
          exact hc⟩
      case measure => simp [intOf]; omega
    · have hc' : decide (l < lit v (k : Int)) = false := by simpa using hc
      go_wp2_with (go_at_call 40; refine (cyLitres_any _ _ _ hv hv' (by omega) (by omega)).mono ?_; rintro e w' ⟨rfl, rfl⟩)
      go_ret
      exact ⟨ret_int (by rw [down_step (m := k) (by omega) hj.out (.inr (by omega))]), rfl⟩
theorem down_min' {v b left : Int} (hv : 0 ≤ v) (h0 : 0 ≤ left) (hb : 0 ≤ b) (hb' : b ≤ 330) : min b ((down v left 330 : Nat) : Int) = (down v left b.toNat : Nat) := by
  have := down_min (v := v) hv h0 (n := b.toNat) (N := 330) (by omega)
  omega
set_option maxHeartbeats 400000 in
theorem cyAfter_any (v b r m : Int) (w : World) (hv : 10 ≤ v) (hv' : v ≤ 3000) (h0 : 0 ≤ b) (h1 : b ≤ 330) (hr : 0 ≤ r) (hr' : r ≤ 200) (hm : 0 ≤ m) (hm' : m ≤ 10000) :
    Calls Try.prog 54 #[.agg #[.int .i64 v, .int .i64 b], .int .i64 r, .int .i64 m] w fun e w' => e = .returned (.tuple #[.int .i64 (aftN v b (r * m)), .bool (aftOk v b (r * m))]) ∧ Below w.heap.size w w' := by
  have hl := lit_bd (v := v) (by omega) hv' h0 h1
  have hrm : 0 ≤ r * m ∧ r * m ≤ 2000000 := ⟨Int.mul_nonneg hr hm, by
    have h1 := Int.mul_le_mul_of_nonneg_left hm' hr
    have h2 := Int.mul_le_mul_of_nonneg_right hr' (show (0 : Int) ≤ 10000 by omega)
    omega⟩
  by_cases h : r * m ≤ lit v b
  · have hd : decide (lit v b - r * m < 0) = false := by simp; omega
    go_enter Try.func54, Try.ntmps54
    go_wp2_with (first | (go_at_call 40; refine (cyLitres_any _ _ _ hv hv' (by omega) (by omega)).mono ?_; rintro e w' ⟨rfl, rfl⟩))
    go_quiet ((first | (go_at_call 42; exact quiet_left (cyFor_any _ _ _ hv hv' (by omega) (by omega))) | (go_at_call 41; exact quiet_left (l1Least_any _ _ _))))
    go_wp2
    go_ret2
    exact ⟨ret_ib (by rw [aftN, if_pos h]; exact down_min' (by omega) (by omega) h0 h1) (by rw [aftOk, decide_eq_true h]), below_drewN ((Below.refl _ _).alloc (Nat.le_refl _) _) _⟩
  · have hd : decide (lit v b - r * m < 0) = true := by simp; omega
    go_enter Try.func54, Try.ntmps54
    go_wp2_with (first | (go_at_call 40; refine (cyLitres_any _ _ _ hv hv' (by omega) (by omega)).mono ?_; rintro e w' ⟨rfl, rfl⟩))
    go_ret2
    exact ⟨ret_ib (by rw [aftN, if_neg (by omega)]) (by rw [aftOk, decide_eq_false (by omega)]), (Below.refl _ _).alloc (Nat.le_refl _) _⟩
set_option maxHeartbeats 800000 in
theorem cyTime_any (v b r f bar : Int) (w : World) (hv : 10 ≤ v) (hv' : v ≤ 3000) (h0 : 0 ≤ b) (h1 : b ≤ 330) (hr : 0 ≤ r) (hr' : r ≤ 200) (hf : 0 ≤ f) (hf' : f ≤ 1000) :
    Calls Try.prog 53 #[.agg #[.int .i64 v, .int .i64 b], .int .i64 r, .int .i64 f, .int .i64 bar] w fun e w' => e = .returned (.int .i64 (timeF v b r f bar)) ∧ Below w.heap.size w w' := by
  go_enter Try.func53, Try.ntmps53
  go_wp2_with fail
  go_loopw [9, 10] (fun bst n wr => ∃ k : Nat, k ≤ 601 ∧ n = .int .i64 k ∧ bst = .int .i64 ((k : Int) - 1) ∧ Hid (∀ j, j < k → okAt v b r f bar j = true) ∧ Below (w.heap.size + 1) (w.alloc (.cells #[.int .i64 v, .int .i64 b] 26)) wr) (fun _ n _ => 601 - (intOf n).toNat)
  case atStart => exact ⟨0, by omega, by go_num, by go_num, fun j hj => by omega, Below.refl _ _⟩
  case round =>
    obtain ⟨k, hk, rfl, rfl, hj, hb⟩ := hrel
    have c0 := box_cell hb (by omega) 0 (v := .int .i64 v) rfl
    have c1 := box_cell hb (by omega) 1 (v := .int .i64 b) rfl
    by_cases hk6 : k ≤ 600
    · by_cases hg : okAt v b r f bar k = true
      · have hg1 : aftOk v b (r * (f + k)) = true := by simp [okAt] at hg; exact hg.1
        have hg2 : decide (aftN v b (r * (f + k)) < bar) = false := by simp [okAt] at hg; simp; omega
        go_wp2_with (go_at_call 54; refine (cyAfter_any _ _ _ _ _ hv hv' h0 h1 hr hr' (by omega) (by omega)).mono ?_; rintro e w1 ⟨rfl, hb1⟩)
        go_roundw
        case rel => exact ⟨k + 1, by omega, by go_num, by go_num, fun j a => by
          rcases Nat.lt_or_ge j k with h | h
          · exact hj.out j h
          · obtain rfl : j = k := by omega
            exact hg, hb.trans (hb1.mono (by have := hb.size; simp at this; omega))⟩
        case measure => simp [intOf]; omega
      · have hg' : okAt v b r f bar k = false := by simpa using hg
        by_cases hg1 : aftOk v b (r * (f + k)) = true
        · have hg2 : decide (aftN v b (r * (f + k)) < bar) = true := by simp [okAt, hg1] at hg'; simp; omega
          go_wp2_with (go_at_call 54; refine (cyAfter_any _ _ _ _ _ hv hv' h0 h1 hr hr' (by omega) (by omega)).mono ?_; rintro e w1 ⟨rfl, hb1⟩)
          go_ret
          exact ⟨ret_int (timeF_of (by omega) hj.out (.inr hg')).symm, ((((Below.refl _ _).alloc (Nat.le_refl _) _).trans (hb.mono (by omega))).trans (hb1.mono (by have := hb.size; simp at this; omega)))⟩
        · have hg3 : aftOk v b (r * (f + k)) = false := by simpa using hg1
          go_wp2_with (go_at_call 54; refine (cyAfter_any _ _ _ _ _ hv hv' h0 h1 hr hr' (by omega) (by omega)).mono ?_; rintro e w1 ⟨rfl, hb1⟩)
          go_ret
          exact ⟨ret_int (timeF_of (by omega) hj.out (.inr hg')).symm, ((((Below.refl _ _).alloc (Nat.le_refl _) _).trans (hb.mono (by omega))).trans (hb1.mono (by have := hb.size; simp at this; omega)))⟩
    · go_wp2_with fail
      go_ret
      exact ⟨ret_int (timeF_of hk hj.out (.inl (by omega))).symm, (((Below.refl _ _).alloc (Nat.le_refl _) _).trans (hb.mono (by omega)))⟩

end Go.Proofs.Yteoolhoncgaapaa
