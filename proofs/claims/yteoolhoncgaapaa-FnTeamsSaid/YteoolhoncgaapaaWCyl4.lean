/-
  Walks: MinutesTo.
-/
import Derived.Test.YteoolhoncgaapaaWCyl3
namespace Go.Proofs.Yteoolhoncgaapaa
set_option linter.unusedVariables false
set_option linter.unusedSimpArgs false
open Go.RowKit

theorem okAt_zero {v b r bar : Int} (hv : 0 ≤ v) (hv' : v ≤ 3000) (h0 : 0 ≤ b) (h1 : b ≤ 330) : okAt v b r 0 bar 0 = decide (bar ≤ b) := by
  have hl := lit_bd hv hv' h0 h1
  have e : r * ((0 : Int) + ((0 : Nat) : Int)) = 0 := by simp
  unfold okAt
  rw [e, aftN_zero h0 hl.1]
  simp [aftOk, hl.1]
theorem minB_iff {v b r bar : Int} : minB v b r bar = true ↔ ((10 ≤ v ∧ v ≤ 3000) ∧ 0 ≤ b ∧ b ≤ 330) ∧ (1 ≤ r ∧ r ≤ 200) ∧ (0 ≤ bar ∧ bar ≤ 330) ∧ bar ≤ b := by
  simp [minB, cylB_iff, inB_iff]; omega

set_option maxRecDepth 100000 in
set_option maxHeartbeats 1600000 in
theorem MinutesTo_impl_ok (v b r bar : Int) (w : World) (h : minB v b r bar = true) :
    Calls Try.prog 19 #[.agg #[.int .i64 v, .int .i64 b], .int .i64 r, .int .i64 bar] w fun e w' => e = .returned (.tuple #[.int .i64 (timeF v b r 0 bar), .bool true]) ∧ Below w.heap.size w w' := by
  obtain ⟨⟨⟨hv, hv'⟩, h0, h1⟩, ⟨hr, hr'⟩, ⟨a7, a8⟩, a9⟩ := minB_iff.1 h
  have g1 : cylB v b = true := cylB_iff.2 ⟨⟨hv, hv'⟩, h0, h1⟩
  have g2 : inB r 1 200 = true := inB_iff.2 ⟨hr, hr'⟩
  have g3 : inB bar 0 330 = true := inB_iff.2 ⟨a7, a8⟩
  have g4 : decide (b < bar) = false := by simp; omega
  have H0 : Hid (okAt v b r 0 bar 0 = true) := by rw [okAt_zero (by omega) hv' h0 h1]; exact decide_eq_true a9
  clear h
  go_enter Try.func19, Try.ntmps19
  go_wp2_with (first | (go_at_call 43; refine (isCylinder_any _ _ _).mono ?_; rintro e w1 ⟨rfl, hb1⟩; have hz1 := hb1.size; (try (simp at hz1)); obtain ⟨hcw1, hfw1⟩ := bcell hb1; (try (have hy1 : w.heap.size < w1.heap.size := by omega)); (try (have hyy1 : w.heap.size + 1 < w1.heap.size := by omega)); (try (have hyyy1 : w.heap.size + 1 + 1 < w1.heap.size := by omega))) | (go_at_call 50; refine (isRate_any _ _).mono ?_; rintro e w' ⟨rfl, rfl⟩) | (go_at_call 46; refine (inside_any _ _ _ _).mono ?_; rintro e w' ⟨rfl, rfl⟩))
  have hb0 : Below (w.heap.size + 1) (w.alloc (.cells #[.int .i64 v, .int .i64 b] 26)) w1 := by simpa using hb1
  clear hb1 hz1 hcw1 hfw1 g1 g2 g3 g4
  go_loopw [8] (fun n wr => ∃ k : Nat, k ≤ 600 ∧ n = .int .i64 k ∧ Hid (∀ j, j ≤ k → okAt v b r 0 bar j = true) ∧ Below (w.heap.size + 1) (w.alloc (.cells #[.int .i64 v, .int .i64 b] 26)) wr) (fun n _ => 600 - (intOf n).toNat)
  case atStart => exact ⟨0, by omega, by go_num, fun j hj => by obtain rfl : j = 0 := by omega
                                                                exact H0.out, hb0⟩
  case round =>
    obtain ⟨k, hk, rfl, hj, hb⟩ := hrel
    have c0 := box_cell hb (by omega) 0 (v := .int .i64 v) rfl
    have c1 := box_cell hb (by omega) 1 (v := .int .i64 b) rfl
    have hz := box_size hb
    by_cases hk6 : k < 600
    · have hmul := mul_small (a := r) (b := (k : Int) + 1) (A := 200) (B := 600) (by omega) (by omega) (by omega) (by omega)
      have e1 : ((0 : Int) + ((k + 1 : Nat) : Int)) = (k : Int) + 1 := by omega
      cases hg1 : aftOk v b (r * (k + 1)) with
      | false =>
        have HE := hide (timeF_of (v := v) (b := b) (rate := r) (first := 0) (bar := bar) (k := k + 1) (by omega) (fun j a => hj.out j (by omega)) (.inr (by unfold okAt; rw [e1, hg1]; rfl)))
        clear e1
        go_wp2_with (go_at_call 47; refine (barAfter_any _ _ _ _ hv hv' h0 h1 (by omega) (by omega)).mono ?_; rintro e w1 ⟨rfl, hb1⟩; have hz1 := hb1.size; (try (simp at hz1)); obtain ⟨hcw1, hfw1⟩ := bcell hb1; (try (have hy1 : w.heap.size < w1.heap.size := by omega)); (try (have hyy1 : w.heap.size + 1 < w1.heap.size := by omega)); (try (have hyyy1 : w.heap.size + 1 + 1 < w1.heap.size := by omega)))
        go_ret2
        exact ⟨ret_ib (by rw [HE.out]; omega) rfl, (by repeat (first | (with_reducible exact Below.refl _ _) | (with_reducible refine below_ov ?_ ?_) | (with_reducible refine Below.setCell ?_ ?_ _) | (with_reducible refine Below.alloc ?_ ?_ _) | (with_reducible refine Below.drew ?_) | (with_reducible refine below_drewN ?_ _) | (refine Below.trans ?_ (Below.mono ‹Below _ _ _› (by first | omega | (simp; done) | (simp; omega)))) | exact Below.refl _ _ | omega | (focus (simp; done)) | (focus (simp; omega))))⟩
      | true =>
        cases hg2 : decide (aftN v b (r * (k + 1)) < bar) with
        | true =>
          have HE := hide (timeF_of (v := v) (b := b) (rate := r) (first := 0) (bar := bar) (k := k + 1) (by omega) (fun j a => hj.out j (by omega)) (.inr (by unfold okAt; rw [e1, hg1]; simp at hg2; simp; omega)))
          clear e1
          go_wp2_with (go_at_call 47; refine (barAfter_any _ _ _ _ hv hv' h0 h1 (by omega) (by omega)).mono ?_; rintro e w1 ⟨rfl, hb1⟩; have hz1 := hb1.size; (try (simp at hz1)); obtain ⟨hcw1, hfw1⟩ := bcell hb1; (try (have hy1 : w.heap.size < w1.heap.size := by omega)); (try (have hyy1 : w.heap.size + 1 < w1.heap.size := by omega)); (try (have hyyy1 : w.heap.size + 1 + 1 < w1.heap.size := by omega)))
          go_ret2
          exact ⟨ret_ib (by rw [HE.out]; omega) rfl, (by repeat (first | (with_reducible exact Below.refl _ _) | (with_reducible refine below_ov ?_ ?_) | (with_reducible refine Below.setCell ?_ ?_ _) | (with_reducible refine Below.alloc ?_ ?_ _) | (with_reducible refine Below.drew ?_) | (with_reducible refine below_drewN ?_ _) | (refine Below.trans ?_ (Below.mono ‹Below _ _ _› (by first | omega | (simp; done) | (simp; omega)))) | exact Below.refl _ _ | omega | (focus (simp; done)) | (focus (simp; omega))))⟩
        | false =>
          have HG : Hid (okAt v b r 0 bar (k + 1) = true) := by
            show okAt v b r 0 bar (k + 1) = true
            unfold okAt; rw [e1, hg1]; simp at hg2; simpa using hg2
          clear e1
          go_wp2_with (go_at_call 47; refine (barAfter_any _ _ _ _ hv hv' h0 h1 (by omega) (by omega)).mono ?_; rintro e w1 ⟨rfl, hb1⟩; have hz1 := hb1.size; (try (simp at hz1)); obtain ⟨hcw1, hfw1⟩ := bcell hb1; (try (have hy1 : w.heap.size < w1.heap.size := by omega)); (try (have hyy1 : w.heap.size + 1 < w1.heap.size := by omega)); (try (have hyyy1 : w.heap.size + 1 + 1 < w1.heap.size := by omega)))
          go_roundw
          case rel => exact ⟨k + 1, by omega, by go_num, fun j a => by
            rcases Nat.lt_or_ge j (k + 1) with h | h
            · exact hj.out j (by omega)
            · obtain rfl : j = k + 1 := by omega
              exact HG.out, hb.trans (hb1.mono (by omega))⟩
          case measure => simp [intOf]; omega
    · have HE := hide (timeF_of (v := v) (b := b) (rate := r) (first := 0) (bar := bar) (k := k + 1) (by omega) (fun j a => hj.out j (by omega)) (.inl (by omega)))
      go_wp2_with fail
      go_ret2
      exact ⟨ret_ib (by rw [HE.out]; omega) rfl, (by repeat (first | (with_reducible exact Below.refl _ _) | (with_reducible refine below_ov ?_ ?_) | (with_reducible refine Below.setCell ?_ ?_ _) | (with_reducible refine Below.alloc ?_ ?_ _) | (with_reducible refine Below.drew ?_) | (with_reducible refine below_drewN ?_ _) | (refine Below.trans ?_ (Below.mono ‹Below _ _ _› (by first | omega | (simp; done) | (simp; omega)))) | exact Below.refl _ _ | omega | (focus (simp; done)) | (focus (simp; omega))))⟩
set_option maxRecDepth 100000 in
set_option maxHeartbeats 1600000 in
theorem MinutesTo_impl (v b r bar : Int) (w : World) :
    Calls Try.prog 19 #[.agg #[.int .i64 v, .int .i64 b], .int .i64 r, .int .i64 bar] w fun e w' => e = .returned (.tuple #[.int .i64 (minN v b r bar), .bool (minB v b r bar)]) ∧ Below w.heap.size w w' := by
  cases hc1_0 : cylB v b with
  | false =>
    go_enter Try.func19, Try.ntmps19
    go_wp2_with (first | (go_at_call 43; refine (isCylinder_any _ _ _).mono ?_; rintro e w1 ⟨rfl, hb1⟩; have hz1 := hb1.size; (try (simp at hz1)); obtain ⟨hcw1, hfw1⟩ := bcell hb1; (try (have hy1 : w.heap.size < w1.heap.size := by omega)); (try (have hyy1 : w.heap.size + 1 < w1.heap.size := by omega)); (try (have hyyy1 : w.heap.size + 1 + 1 < w1.heap.size := by omega))) | (go_at_call 50; refine (isRate_any _ _).mono ?_; rintro e w' ⟨rfl, rfl⟩) | (go_at_call 46; refine (inside_any _ _ _ _).mono ?_; rintro e w' ⟨rfl, rfl⟩))
    go_ret2
    exact ⟨ret_ib (by simp [minN, minB, *]) (by simp [minB, *]), (by repeat (first | (with_reducible exact Below.refl _ _) | (with_reducible refine below_ov ?_ ?_) | (with_reducible refine Below.setCell ?_ ?_ _) | (with_reducible refine Below.alloc ?_ ?_ _) | (with_reducible refine Below.drew ?_) | (with_reducible refine below_drewN ?_ _) | (refine Below.trans ?_ (Below.mono ‹Below _ _ _› (by first | omega | (simp; done) | (simp; omega)))) | exact Below.refl _ _ | omega | (focus (simp; done)) | (focus (simp; omega))))⟩
  | true =>
    obtain ⟨⟨hc1_0l, hc1_0r⟩, hc1_0s, hc1_0t⟩ := cylB_iff.1 hc1_0
    cases hc1_1 : inB r 1 200 with
    | false =>
      go_enter Try.func19, Try.ntmps19
      go_wp2_with (first | (go_at_call 43; refine (isCylinder_any _ _ _).mono ?_; rintro e w1 ⟨rfl, hb1⟩; have hz1 := hb1.size; (try (simp at hz1)); obtain ⟨hcw1, hfw1⟩ := bcell hb1; (try (have hy1 : w.heap.size < w1.heap.size := by omega)); (try (have hyy1 : w.heap.size + 1 < w1.heap.size := by omega)); (try (have hyyy1 : w.heap.size + 1 + 1 < w1.heap.size := by omega))) | (go_at_call 50; refine (isRate_any _ _).mono ?_; rintro e w' ⟨rfl, rfl⟩) | (go_at_call 46; refine (inside_any _ _ _ _).mono ?_; rintro e w' ⟨rfl, rfl⟩))
      go_ret2
      exact ⟨ret_ib (by simp [minN, minB, *]) (by simp [minB, *]), (by repeat (first | (with_reducible exact Below.refl _ _) | (with_reducible refine below_ov ?_ ?_) | (with_reducible refine Below.setCell ?_ ?_ _) | (with_reducible refine Below.alloc ?_ ?_ _) | (with_reducible refine Below.drew ?_) | (with_reducible refine below_drewN ?_ _) | (refine Below.trans ?_ (Below.mono ‹Below _ _ _› (by first | omega | (simp; done) | (simp; omega)))) | exact Below.refl _ _ | omega | (focus (simp; done)) | (focus (simp; omega))))⟩
    | true =>
      obtain ⟨hc1_1l, hc1_1r⟩ := inB_iff.1 hc1_1
      cases hc1_2 : inB bar 0 330 with
      | false =>
        go_enter Try.func19, Try.ntmps19
        go_wp2_with (first | (go_at_call 43; refine (isCylinder_any _ _ _).mono ?_; rintro e w1 ⟨rfl, hb1⟩; have hz1 := hb1.size; (try (simp at hz1)); obtain ⟨hcw1, hfw1⟩ := bcell hb1; (try (have hy1 : w.heap.size < w1.heap.size := by omega)); (try (have hyy1 : w.heap.size + 1 < w1.heap.size := by omega)); (try (have hyyy1 : w.heap.size + 1 + 1 < w1.heap.size := by omega))) | (go_at_call 50; refine (isRate_any _ _).mono ?_; rintro e w' ⟨rfl, rfl⟩) | (go_at_call 46; refine (inside_any _ _ _ _).mono ?_; rintro e w' ⟨rfl, rfl⟩))
        go_ret2
        exact ⟨ret_ib (by simp [minN, minB, *]) (by simp [minB, *]), (by repeat (first | (with_reducible exact Below.refl _ _) | (with_reducible refine below_ov ?_ ?_) | (with_reducible refine Below.setCell ?_ ?_ _) | (with_reducible refine Below.alloc ?_ ?_ _) | (with_reducible refine Below.drew ?_) | (with_reducible refine below_drewN ?_ _) | (refine Below.trans ?_ (Below.mono ‹Below _ _ _› (by first | omega | (simp; done) | (simp; omega)))) | exact Below.refl _ _ | omega | (focus (simp; done)) | (focus (simp; omega))))⟩
      | true =>
        obtain ⟨hc1_2l, hc1_2r⟩ := inB_iff.1 hc1_2
        cases hc1_3 : decide (bar ≤ b) with
        | false =>
          have hc1_3l := of_decide_eq_false hc1_3
          go_enter Try.func19, Try.ntmps19
          go_wp2_with (first | (go_at_call 43; refine (isCylinder_any _ _ _).mono ?_; rintro e w1 ⟨rfl, hb1⟩; have hz1 := hb1.size; (try (simp at hz1)); obtain ⟨hcw1, hfw1⟩ := bcell hb1; (try (have hy1 : w.heap.size < w1.heap.size := by omega)); (try (have hyy1 : w.heap.size + 1 < w1.heap.size := by omega)); (try (have hyyy1 : w.heap.size + 1 + 1 < w1.heap.size := by omega))) | (go_at_call 50; refine (isRate_any _ _).mono ?_; rintro e w' ⟨rfl, rfl⟩) | (go_at_call 46; refine (inside_any _ _ _ _).mono ?_; rintro e w' ⟨rfl, rfl⟩))
          go_ret2
          exact ⟨ret_ib (by simp [minN, minB, *]) (by simp [minB, *]), (by repeat (first | (with_reducible exact Below.refl _ _) | (with_reducible refine below_ov ?_ ?_) | (with_reducible refine Below.setCell ?_ ?_ _) | (with_reducible refine Below.alloc ?_ ?_ _) | (with_reducible refine Below.drew ?_) | (with_reducible refine below_drewN ?_ _) | (refine Below.trans ?_ (Below.mono ‹Below _ _ _› (by first | omega | (simp; done) | (simp; omega)))) | exact Below.refl _ _ | omega | (focus (simp; done)) | (focus (simp; omega))))⟩
        | true =>
          have hc1_3l := of_decide_eq_true hc1_3
          have h : minB v b r bar = true := by simp [minB, *]
          refine (MinutesTo_impl_ok v b r bar w h).mono fun e w' ⟨he, hb⟩ => ⟨?_, hb⟩
          rw [he, minN, if_pos h, h]
set_option maxRecDepth 100000 in
set_option maxHeartbeats 1600000 in
theorem MinutesTo_spec (v b r bar : Int) (w : World) :
    Calls Try.prog 20 #[.agg #[.int .i64 v, .int .i64 b], .int .i64 r, .int .i64 bar] w fun e w' => e = .returned (.tuple #[.int .i64 (minN v b r bar), .bool (minB v b r bar)]) ∧ Below w.heap.size w w' := by
  cases hc2_0 : cylB v b with
  | false =>
    go_enter Try.func20, Try.ntmps20
    go_wp2_with (first | (go_at_call 38; refine (cyGood_any _ _ _).mono ?_; rintro e w1 ⟨rfl, hb1⟩; have hz1 := hb1.size; (try (simp at hz1)); obtain ⟨hcw1, hfw1⟩ := bcell hb1; (try (have hy1 : w.heap.size < w1.heap.size := by omega)); (try (have hyy1 : w.heap.size + 1 < w1.heap.size := by omega)); (try (have hyyy1 : w.heap.size + 1 + 1 < w1.heap.size := by omega))) | (go_at_call 58; refine (cyRate_any _ _).mono ?_; rintro e w' ⟨rfl, rfl⟩) | (go_at_call 59; refine (cyBar_any _ _).mono ?_; rintro e w' ⟨rfl, rfl⟩))
    go_ret2
    exact ⟨ret_ib (by simp [minN, minB, *]) (by simp [minB, *]), (by repeat (first | (with_reducible exact Below.refl _ _) | (with_reducible refine below_ov ?_ ?_) | (with_reducible refine Below.setCell ?_ ?_ _) | (with_reducible refine Below.alloc ?_ ?_ _) | (with_reducible refine Below.drew ?_) | (with_reducible refine below_drewN ?_ _) | (refine Below.trans ?_ (Below.mono ‹Below _ _ _› (by first | omega | (simp; done) | (simp; omega)))) | exact Below.refl _ _ | omega | (focus (simp; done)) | (focus (simp; omega))))⟩
  | true =>
    obtain ⟨⟨hc2_0l, hc2_0r⟩, hc2_0s, hc2_0t⟩ := cylB_iff.1 hc2_0
    cases hc2_1 : inB r 1 200 with
    | false =>
      go_enter Try.func20, Try.ntmps20
      go_wp2_with (first | (go_at_call 38; refine (cyGood_any _ _ _).mono ?_; rintro e w1 ⟨rfl, hb1⟩; have hz1 := hb1.size; (try (simp at hz1)); obtain ⟨hcw1, hfw1⟩ := bcell hb1; (try (have hy1 : w.heap.size < w1.heap.size := by omega)); (try (have hyy1 : w.heap.size + 1 < w1.heap.size := by omega)); (try (have hyyy1 : w.heap.size + 1 + 1 < w1.heap.size := by omega))) | (go_at_call 58; refine (cyRate_any _ _).mono ?_; rintro e w' ⟨rfl, rfl⟩) | (go_at_call 59; refine (cyBar_any _ _).mono ?_; rintro e w' ⟨rfl, rfl⟩))
      go_ret2
      exact ⟨ret_ib (by simp [minN, minB, *]) (by simp [minB, *]), (by repeat (first | (with_reducible exact Below.refl _ _) | (with_reducible refine below_ov ?_ ?_) | (with_reducible refine Below.setCell ?_ ?_ _) | (with_reducible refine Below.alloc ?_ ?_ _) | (with_reducible refine Below.drew ?_) | (with_reducible refine below_drewN ?_ _) | (refine Below.trans ?_ (Below.mono ‹Below _ _ _› (by first | omega | (simp; done) | (simp; omega)))) | exact Below.refl _ _ | omega | (focus (simp; done)) | (focus (simp; omega))))⟩
    | true =>
      obtain ⟨hc2_1l, hc2_1r⟩ := inB_iff.1 hc2_1
      cases hc2_2 : inB bar 0 330 with
      | false =>
        go_enter Try.func20, Try.ntmps20
        go_wp2_with (first | (go_at_call 38; refine (cyGood_any _ _ _).mono ?_; rintro e w1 ⟨rfl, hb1⟩; have hz1 := hb1.size; (try (simp at hz1)); obtain ⟨hcw1, hfw1⟩ := bcell hb1; (try (have hy1 : w.heap.size < w1.heap.size := by omega)); (try (have hyy1 : w.heap.size + 1 < w1.heap.size := by omega)); (try (have hyyy1 : w.heap.size + 1 + 1 < w1.heap.size := by omega))) | (go_at_call 58; refine (cyRate_any _ _).mono ?_; rintro e w' ⟨rfl, rfl⟩) | (go_at_call 59; refine (cyBar_any _ _).mono ?_; rintro e w' ⟨rfl, rfl⟩))
        go_ret2
        exact ⟨ret_ib (by simp [minN, minB, *]) (by simp [minB, *]), (by repeat (first | (with_reducible exact Below.refl _ _) | (with_reducible refine below_ov ?_ ?_) | (with_reducible refine Below.setCell ?_ ?_ _) | (with_reducible refine Below.alloc ?_ ?_ _) | (with_reducible refine Below.drew ?_) | (with_reducible refine below_drewN ?_ _) | (refine Below.trans ?_ (Below.mono ‹Below _ _ _› (by first | omega | (simp; done) | (simp; omega)))) | exact Below.refl _ _ | omega | (focus (simp; done)) | (focus (simp; omega))))⟩
      | true =>
        obtain ⟨hc2_2l, hc2_2r⟩ := inB_iff.1 hc2_2
        cases hd : decide (bar ≤ b) with
        | false =>
          have hd' := of_decide_eq_false hd
          have HT : timeF v b r 0 bar = -1 := timeF_of (k := 0) (by omega) (fun j hj => by omega) (.inr (by rw [okAt_zero (by omega) (by omega) (by omega) (by omega)]; exact hd))
          have hT : decide (timeF v b r 0 bar < 0) = true := by rw [HT]; rfl
          clear HT
          go_enter Try.func20, Try.ntmps20
          go_wp2_with (first | (go_at_call 38; refine (cyGood_any _ _ _).mono ?_; rintro e w1 ⟨rfl, hb1⟩; have hz1 := hb1.size; (try (simp at hz1)); obtain ⟨hcw1, hfw1⟩ := bcell hb1; (try (have hy1 : w.heap.size < w1.heap.size := by omega)); (try (have hyy1 : w.heap.size + 1 < w1.heap.size := by omega)); (try (have hyyy1 : w.heap.size + 1 + 1 < w1.heap.size := by omega))) | (go_at_call 58; refine (cyRate_any _ _).mono ?_; rintro e w' ⟨rfl, rfl⟩) | (go_at_call 59; refine (cyBar_any _ _).mono ?_; rintro e w' ⟨rfl, rfl⟩) | (go_at_call 53; refine (cyTime_any _ _ _ _ _ _ (by omega) (by omega) (by omega) (by omega) (by omega) (by omega) (by omega) (by omega)).mono ?_; rintro e w2 ⟨rfl, hb2⟩; have hz2 := hb2.size; (try (simp at hz2)); obtain ⟨hcw2, hfw2⟩ := bcell hb2; (try (have hy2 : w.heap.size < w2.heap.size := by omega)); (try (have hyy2 : w.heap.size + 1 < w2.heap.size := by omega)); (try (have hyyy2 : w.heap.size + 1 + 1 < w2.heap.size := by omega))))
          go_ret2
          exact ⟨ret_ib (by simp [minN, minB, *]) (by simp [minB, *]), (by repeat (first | (with_reducible exact Below.refl _ _) | (with_reducible refine below_ov ?_ ?_) | (with_reducible refine Below.setCell ?_ ?_ _) | (with_reducible refine Below.alloc ?_ ?_ _) | (with_reducible refine Below.drew ?_) | (with_reducible refine below_drewN ?_ _) | (refine Below.trans ?_ (Below.mono ‹Below _ _ _› (by first | omega | (simp; done) | (simp; omega)))) | exact Below.refl _ _ | omega | (focus (simp; done)) | (focus (simp; omega))))⟩
        | true =>
          have hd' := of_decide_eq_true hd
          have HT : 0 ≤ timeF v b r 0 bar := by
            have h1 := lead_spec (okAt v b r 0 bar) 601
            have h2 : okAt v b r 0 bar 0 = true := by rw [okAt_zero (by omega) (by omega) (by omega) (by omega)]; exact hd
            unfold timeF
            rcases Nat.eq_zero_or_pos (lead (okAt v b r 0 bar) 601) with h3 | h3
            · rw [h3] at h1
              rcases h1.2.2 with h4 | h4
              · omega
              · rw [h2] at h4; cases h4
            · omega
          have hT : decide (timeF v b r 0 bar < 0) = false := by simpa using HT
          go_enter Try.func20, Try.ntmps20
          go_wp2_with (first | (go_at_call 38; refine (cyGood_any _ _ _).mono ?_; rintro e w1 ⟨rfl, hb1⟩; have hz1 := hb1.size; (try (simp at hz1)); obtain ⟨hcw1, hfw1⟩ := bcell hb1; (try (have hy1 : w.heap.size < w1.heap.size := by omega)); (try (have hyy1 : w.heap.size + 1 < w1.heap.size := by omega)); (try (have hyyy1 : w.heap.size + 1 + 1 < w1.heap.size := by omega))) | (go_at_call 58; refine (cyRate_any _ _).mono ?_; rintro e w' ⟨rfl, rfl⟩) | (go_at_call 59; refine (cyBar_any _ _).mono ?_; rintro e w' ⟨rfl, rfl⟩) | (go_at_call 53; refine (cyTime_any _ _ _ _ _ _ (by omega) (by omega) (by omega) (by omega) (by omega) (by omega) (by omega) (by omega)).mono ?_; rintro e w2 ⟨rfl, hb2⟩; have hz2 := hb2.size; (try (simp at hz2)); obtain ⟨hcw2, hfw2⟩ := bcell hb2; (try (have hy2 : w.heap.size < w2.heap.size := by omega)); (try (have hyy2 : w.heap.size + 1 < w2.heap.size := by omega)); (try (have hyyy2 : w.heap.size + 1 + 1 < w2.heap.size := by omega))))
          go_ret2
          exact ⟨ret_ib (by simp [minN, minB, *]) (by simp [minB, *]), (by repeat (first | (with_reducible exact Below.refl _ _) | (with_reducible refine below_ov ?_ ?_) | (with_reducible refine Below.setCell ?_ ?_ _) | (with_reducible refine Below.alloc ?_ ?_ _) | (with_reducible refine Below.drew ?_) | (with_reducible refine below_drewN ?_ _) | (refine Below.trans ?_ (Below.mono ‹Below _ _ _› (by first | omega | (simp; done) | (simp; omega)))) | exact Below.refl _ _ | omega | (focus (simp; done)) | (focus (simp; omega))))⟩

end Go.Proofs.Yteoolhoncgaapaa
