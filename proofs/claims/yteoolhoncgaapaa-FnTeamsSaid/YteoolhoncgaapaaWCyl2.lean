/-
  Walks: the exported functions on cylinders that take numbers and cylinders alone.
-/
import Derived.Test.YteoolhoncgaapaaWCyl
namespace Go.Proofs.Yteoolhoncgaapaa
set_option linter.unusedVariables false
set_option linter.unusedSimpArgs false
open Go.RowKit

/-- What a latest turn hands back. -/
def latN (v b r way res : Int) : Int := if timeF v b r way res < 0 then 0 else timeF v b r way res
def latOk (v b r way res : Int) : Bool := decide (0 ≤ timeF v b r way res)

theorem lat_yes {v b r way res : Int} (hr : 0 ≤ r) {k : Nat} (hk : k ≤ 600) (hg : okAt v b r way res k = true) (h : ∀ j, k < j → j ≤ 600 → okAt v b r way res j = false) : timeF v b r way res = k := by
  rw [timeF_of (k := k + 1) (by omega) (fun j hj => okAt_mono hr (by omega) hg) (by
    rcases Nat.lt_or_ge k 600 with h1 | h1
    · exact .inr (h _ (by omega) (by omega))
    · left; omega)]
  omega
theorem lat_no {v b r way res : Int} (h : ∀ j, j ≤ 600 → okAt v b r way res j = false) : timeF v b r way res = -1 := by
  rw [timeF_of (k := 0) (by omega) (fun j hj => by omega) (.inr (h 0 (by omega)))]
  omega
theorem mul_small {a b A B : Int} (ha : 0 ≤ a) (ha' : a ≤ A) (hb : 0 ≤ b) (hb' : b ≤ B) : 0 ≤ a * b ∧ a * b ≤ A * B := by
  refine ⟨Int.mul_nonneg ha hb, ?_⟩
  have h1 := Int.mul_le_mul_of_nonneg_left hb' ha
  have h2 := Int.mul_le_mul_of_nonneg_right ha' (show (0 : Int) ≤ B by omega)
  omega
set_option maxHeartbeats 800000 in
theorem latestTurn_any (v b r way res : Int) (w : World) (hv : 10 ≤ v) (hv' : v ≤ 3000) (h0 : 0 ≤ b) (h1 : b ≤ 330) (hr : 0 ≤ r) (hr' : r ≤ 200) (hf : 0 ≤ way) (hf' : way ≤ 300) :
    Calls Try.prog 51 #[.agg #[.int .i64 v, .int .i64 b], .int .i64 r, .int .i64 way, .int .i64 res] w fun e w' => e = .returned (.tuple #[.int .i64 (latN v b r way res), .bool (latOk v b r way res)]) ∧ Below w.heap.size w w' := by
  go_enter Try.func51, Try.ntmps51
  go_wp2_with fail
  go_loopw [10] (fun n wr => ∃ m : Nat, m ≤ 601 ∧ n = .int .i64 ((m : Int) - 1) ∧ Hid (∀ j, m ≤ j → j ≤ 600 → okAt v b r way res j = false) ∧ Below (w.heap.size + 1) (w.alloc (.cells #[.int .i64 v, .int .i64 b] 26)) wr) (fun n _ => (intOf n + 1).toNat)
  case atStart => exact ⟨601, by omega, by go_num, fun j hj => by omega, Below.refl _ _⟩
  case round =>
    obtain ⟨m, hk, rfl, hj, hb⟩ := hrel
    have c0 := box_cell hb (by omega) 0 (v := .int .i64 v) rfl
    have c1 := box_cell hb (by omega) 1 (v := .int .i64 b) rfl
    match m with
    | 0 =>
      go_wp2_with fail
      go_ret2
      have HT := lat_no (fun j h => hj.out j (by omega) h)
      exact ⟨ret_ib (by rw [latN, HT]; rfl) (by rw [latOk, HT]; rfl), (((Below.refl _ _).alloc (Nat.le_refl _) _).trans (hb.mono (by omega)))⟩
    | k + 1 =>
      rw [show (((k + 1 : Nat) : Int) - 1) = (k : Int) from by omega]
      have hmul := mul_small hr hr' (b := (k : Int) + way) (B := 900) (by omega) (by omega)
      by_cases hg : okAt v b r way res k = true
      · have HT := hide (lat_yes hr (by omega) hg (fun j a1 a2 => hj.out j (by omega) a2))
        have hg1 : aftOk v b (r * (k + way)) = true := by rw [Int.add_comm]; simp [okAt] at hg; exact hg.1
        have hg2 : decide (aftN v b (r * (k + way)) ≥ res) = true := by rw [Int.add_comm]; simp [okAt] at hg; simp; omega
        go_wp2_with (go_at_call 47; refine (barAfter_any _ _ _ _ hv hv' h0 h1 (by omega) (by omega)).mono ?_; rintro e w1 ⟨rfl, hb1⟩)
        go_ret2
        exact ⟨ret_ib (by rw [latN, HT.out, if_neg (by omega)]) (by rw [latOk, HT.out]; simp), ((((Below.refl _ _).alloc (Nat.le_refl _) _).trans (hb.mono (by omega))).trans (hb1.mono (by have := hb.size; simp at this; omega)))⟩
      · have hg' : okAt v b r way res k = false := by simpa using hg
        by_cases hg1 : aftOk v b (r * (k + way)) = true
        · have hg2 : decide (aftN v b (r * (k + way)) ≥ res) = false := by
            rw [Int.add_comm] at hg1 ⊢
            simp [okAt, hg1] at hg'; simp; omega
          go_wp2_with (go_at_call 47; refine (barAfter_any _ _ _ _ hv hv' h0 h1 (by omega) (by omega)).mono ?_; rintro e w1 ⟨rfl, hb1⟩)
          go_roundw
          case rel => exact ⟨k, by omega, by go_num, fun j a1 a2 => by
            rcases Nat.lt_or_ge k j with h | h
            · exact hj.out j h a2
            · obtain rfl : j = k := by omega
              exact hg', hb.trans (hb1.mono (by have := hb.size; simp at this; omega))⟩
          case measure => simp [intOf]
        · have hg3 : aftOk v b (r * (k + way)) = false := by simpa using hg1
          go_wp2_with (go_at_call 47; refine (barAfter_any _ _ _ _ hv hv' h0 h1 (by omega) (by omega)).mono ?_; rintro e w1 ⟨rfl, hb1⟩)
          go_roundw
          case rel => exact ⟨k, by omega, by go_num, fun j a1 a2 => by
            rcases Nat.lt_or_ge k j with h | h
            · exact hj.out j h a2
            · obtain rfl : j = k := by omega
              exact hg', hb.trans (hb1.mono (by have := hb.size; simp at this; omega))⟩
          case measure => simp [intOf]

end Go.Proofs.Yteoolhoncgaapaa
