/-
  Walks: the laws' marks in a slice of Message (printed by gen_mark.py).
-/
import Derived.Test.YtkikjneamjmdlaaMarks
namespace Go.Proofs.Ytkikjneamjmdlaa
set_option linter.unusedVariables false
set_option linter.unusedSimpArgs false
open Go.RowKit

/-- The marks, a cell each. -/
def mkMessage (q : Int) : Nat → Value := fun o => if o % 3 = 0 then .string (mT (q + (o : Nat))) else if o % 3 = 1 then .int .i64 (q + (o : Nat)) else .string (mT (q + (o : Nat)))
theorem mkMessage_0 (q : Int) (k : Nat) : mkMessage q (k * 3) = .string (mT (q + (k : Int) * 3)) := by
  unfold mkMessage
  rw [if_pos (by omega)]
  congr 1 <;> congr 1 <;> (first | rfl | (push_cast; omega) | omega)
theorem mkMessage_1 (q : Int) (k : Nat) : mkMessage q (k * 3 + 1) = .int .i64 (q + (k : Int) * 3 + 1) := by
  unfold mkMessage
  rw [if_neg (by omega)]
  rw [if_pos (by omega)]
  congr 1 <;> (first | rfl | (push_cast; omega) | omega)
theorem mkMessage_2 (q : Int) (k : Nat) : mkMessage q (k * 3 + 2) = .string (mT (q + (k : Int) * 3 + 1 + 1)) := by
  unfold mkMessage
  rw [if_neg (by omega)]
  rw [if_neg (by omega)]
  congr 1 <;> congr 1 <;> (first | rfl | (push_cast; omega) | omega)
set_option maxRecDepth 100000 in
set_option maxHeartbeats 1600000 in
theorem markMessageS_any (q : Int) (n lo hi K : Nat) (v : Value) (cc : Nat → Value) (w : World) (hv : OwnL w lo hi 40 3 v n K cc) (hhi : hi ≤ w.heap.size) (hn : n ≤ 1048576) (hq : 0 ≤ q) (hq' : q ≤ 4503599627370496) :
    Calls Try.prog 11 #[v, .int .i64 q] w fun e w' => e = .returned (.int .i64 (q + (n : Int) * 3)) ∧ OwnL w' lo hi 40 3 v n (n * 3) (mkMessage q) ∧ Only lo hi w w' := by
  obtain ⟨A, cap, rfl, hcap, hA⟩ := hv.open_
  have hv0 := (hv.less (Nat.zero_le _)).congr (cc' := mkMessage q) (fun o h => absurd h (Nat.not_lt_zero _))
  clear hv
  go_enter Try.func11, Try.ntmps11
  go_wp2_with fail
  go_loopw [1, 5] (fun c i wr => ∃ k : Nat, k ≤ n ∧ i = .int .i64 k ∧ c = .int .i64 (q + (k : Int) * 3) ∧ OwnL wr lo hi 40 3 (.slice A n cap) n (k * 3) (mkMessage q) ∧ Only lo hi w wr) (fun _ i _ => n - (intOf i).toNat)
  case atStart => exact ⟨0, by omega, rfl, by simp, by simpa using hv0, Only.refl _ _ _⟩
  case round =>
    obtain ⟨k, hk, rfl, rfl, ho, hb⟩ := hrel
    have hzr := hb.size
    by_cases hkn : k < n
    · obtain ⟨g, rfl, g1, g2⟩ := hA (by omega)
      go_wp2_with fail
      refine (markText_any _ _ (by omega)).mono ?_
      rintro e w0 ⟨rfl, hb0⟩
      have hz0 := hb0.size
      (try (simp at hz0))
      have ho0 := ho.below hb0 (by first | omega | (simp; omega))
      have hO0 := Only.of_below (lo := lo) (hi := hi) hb0
      obtain ⟨⟨u0, hu0⟩, hf0, _⟩ := ho0.cell (by omega) (o := k * 3) (by omega)
      have hs0 := ho0.store (by omega)
      rw [mkMessage_0] at hs0
      have ho1 := hs0
      obtain ⟨⟨u1, hu1⟩, hf1, _⟩ := ho1.cell (by omega) (o := k * 3 + 1) (by omega)
      have hs1 := ho1.store (by omega)
      rw [mkMessage_1] at hs1
      go_wp2_with fail
      refine (markText_any _ _ (by omega)).mono ?_
      rintro e w2 ⟨rfl, hb2⟩
      have hz2 := hb2.size
      (try (simp at hz2))
      have ho2 := hs1.below hb2 (by first | omega | (simp; omega))
      have hO2 := Only.of_below (lo := lo) (hi := hi) hb2
      obtain ⟨⟨u2, hu2⟩, hf2, _⟩ := ho2.cell (by omega) (o := k * 3 + 2) (by omega)
      have hs2 := ho2.store (by omega)
      rw [mkMessage_2] at hs2
      go_wp2_with fail
      go_roundw
      case rel => exact ⟨k + 1, by omega, by go_num, by congr 1; (try push_cast); omega, by rw [show (k + 1) * 3 = k * 3 + 1 + 1 + 1 by omega]; exact hs2, (((((hb.trans hO0).setCell g1 g2 _).setCell g1 g2 _).trans hO2).setCell g1 g2 _)⟩
      case measure => simp [intOf]; omega
    · obtain rfl : k = n := by omega
      go_wp2_with fail
      go_ret
      exact ⟨rfl, ho, hb⟩

set_option maxRecDepth 100000 in
set_option maxHeartbeats 1600000 in
theorem heldMessageS_same (q : Int) (n lo hi : Nat) (v : Value) (w : World) (hv : OwnL w lo hi 40 3 v n (n * 3) (mkMessage q)) (hhi : hi ≤ w.heap.size) (hn : n ≤ 1048576) (hq : 0 ≤ q) (hq' : q ≤ 4503599627370496) :
    Calls Try.prog 12 #[v, .int .i64 q] w fun e w' => e = .returned (.int .i64 (q + (n : Int) * 3)) ∧ Below w.heap.size w w' := by
  obtain ⟨A, cap, rfl, hcap, hA⟩ := hv.open_
  go_enter Try.func12, Try.ntmps12
  go_wp2_with fail
  go_loopw [1, 5] (fun c i wr => ∃ k : Nat, k ≤ n ∧ i = .int .i64 k ∧ c = .int .i64 (q + (k : Int) * 3) ∧ Below w.heap.size w wr) (fun _ i _ => n - (intOf i).toNat)
  case atStart => exact ⟨0, by omega, rfl, by simp, Below.refl _ _⟩
  case round =>
    obtain ⟨k, hk, rfl, rfl, hb⟩ := hrel
    have hzr := hb.size
    have hv' := hv.below hb hhi
    by_cases hkn : k < n
    · obtain ⟨g, rfl, g1, g2⟩ := hA (by omega)
      have l0 : g < wr.heap.size := by omega
      obtain ⟨_, _, c0⟩ := hv'.cell (by omega) (o := k * 3) (by omega)
      replace c0 := c0 (by omega)
      rw [mkMessage_0] at c0
      obtain ⟨_, _, c1⟩ := hv'.cell (by omega) (o := k * 3 + 1) (by omega)
      replace c1 := c1 (by omega)
      rw [mkMessage_1] at c1
      obtain ⟨_, _, c2⟩ := hv'.cell (by omega) (o := k * 3 + 2) (by omega)
      replace c2 := c2 (by omega)
      rw [mkMessage_2] at c2
      go_wp2_with fail
      (refine wp_region_below_lit (by kernel_rfl) (by kernel_rfl) ?_; (repeat (first | go_big_quiet_step ((go_at_call 23; exact quiet_ov (markText_any _ _ (by omega)))) | quiet_step ((go_at_call 23; exact quiet_ov (markText_any _ _ (by omega)))))); refine wpQuiet_nil ?_; intro wa0 hba0; have hza0 := hba0.size; (try (simp at hza0)); obtain ⟨hcwa0, hfwa0⟩ := bcell hba0; (try (have hya0 : w.heap.size < wa0.heap.size := by omega)); (try (have hyya0 : w.heap.size + 1 < wa0.heap.size := by omega)))
      have m0 : g < wa0.heap.size := by omega
      go_wp2_with fail
      (refine wp_region_below_lit (by kernel_rfl) (by kernel_rfl) ?_; (repeat (first | go_big_quiet_step ((go_at_call 23; exact quiet_ov (markText_any _ _ (by omega)))) | quiet_step ((go_at_call 23; exact quiet_ov (markText_any _ _ (by omega)))))); refine wpQuiet_nil ?_; intro wa2 hba2; have hza2 := hba2.size; (try (simp at hza2)); obtain ⟨hcwa2, hfwa2⟩ := bcell hba2; (try (have hya2 : w.heap.size < wa2.heap.size := by omega)); (try (have hyya2 : w.heap.size + 1 < wa2.heap.size := by omega)))
      have m2 : g < wa2.heap.size := by omega
      go_wp2_with fail
      go_roundw
      case rel => exact ⟨k + 1, by omega, by go_num, by congr 1; (try push_cast); omega, (by repeat (first | (with_reducible exact Below.refl _ _) | (with_reducible refine below_ov ?_ ?_) | (with_reducible refine Below.setCell ?_ ?_ _) | (with_reducible refine Below.alloc ?_ ?_ _) | (with_reducible refine Below.drew ?_) | (with_reducible refine below_drewN ?_ _) | (refine Below.trans ?_ (Below.mono ‹Below _ _ _› (by first | omega | (simp; done) | (simp; omega)))) | exact Below.refl _ _ | omega | (focus (simp; done)) | (focus (simp; omega))))⟩
      case measure => simp [intOf]; omega
    · obtain rfl : k = n := by omega
      go_wp2_with fail
      go_ret
      exact ⟨rfl, hb⟩

end Go.Proofs.Ytkikjneamjmdlaa
