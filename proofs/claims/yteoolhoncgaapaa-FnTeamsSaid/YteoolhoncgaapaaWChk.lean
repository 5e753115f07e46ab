/-
  Walks: lists of checks.
-/
import Derived.Test.YteoolhoncgaapaaWCyl3
import Derived.Test.YteoolhoncgaapaaCells
namespace Go.Proofs.Yteoolhoncgaapaa
set_option linter.unusedVariables false
set_option linter.unusedSimpArgs false
open Go.RowKit

def chk1 (m b : Nat → Int) (i : Nat) : Bool := inB (m i) 0 600 && inB (b i) 0 330 && (decide (i = 0) || (!decide (m i ≤ m (i - 1)) && !decide (b (i - 1) < b i)))
def chkB (m b : Nat → Int) (n : Nat) : Bool := allB (chk1 m b) n && inB n 1 20

theorem chkB_no {m b : Nat → Int} {n k : Nat} (hk : k < n) (h : chk1 m b k = false) : chkB m b n = false := by rw [chkB, allB_false hk h]; rfl
set_option maxRecDepth 100000 in
set_option maxHeartbeats 1600000 in
theorem areChecks_any (m b : Nat → Int) (n lo hi : Nat) (v : Value) (w : World) (hv : Sl w lo hi 2 v n (iiC m b)) (hhi : hi ≤ w.heap.size) (hn : n ≤ 4611686018427387904) :
    Calls Try.prog 67 #[v] w fun e w' => e = .returned (.bool (chkB m b n)) ∧ Below w.heap.size w w' := by
  obtain ⟨A, cap, rfl, hcap, hA⟩ := hv.open_
  clear hv
  go_enter Try.func67, Try.ntmps67
  go_wp2_with fail
  go_loopw [7] (fun i wr => ∃ k : Nat, k ≤ n ∧ i = .int .i64 k ∧ Hid (∀ j, j < k → chk1 m b j = true) ∧ Below w.heap.size w wr) (fun i _ => n - (intOf i).toNat)
  case atStart => exact ⟨0, by omega, rfl, fun j hj => by omega, Below.refl _ _⟩
  case round =>
    obtain ⟨k, hk, rfl, hj, hb⟩ := hrel
    have hzr := hb.size
    by_cases hlt : k < n
    · obtain ⟨blk, off, rfl, h1, h2, h3⟩ := (hA.below hb (by omega)) (by omega)
      have c0 : wr.cell? ⟨blk, off + k * 2, none⟩ = some (.int .i64 (m k)) := h3 k 0 hlt (by omega)
      have c1 : wr.cell? ⟨blk, off + k * 2 + 1, none⟩ = some (.int .i64 (b k)) := h3 k 1 hlt (by omega)
      have H3 := hide h3
      clear h3 hA
      have hbw : blk < wr.heap.size := by omega
      cases hc1_0 : inB (m k) 0 600 with
      | false =>
        have HF := hide (chkB_no (m := m) (b := b) hlt (by simp [chk1, *]))
        go_wp2_with fail
        go_quiet ((go_at_call 46; first | exact quiet_left (inside_any _ _ _ _) | exact quiet_add_left (inside_any _ _ _ _)))
        go_wp2
        go_ret
        exact ⟨ret_bool HF.out.symm, (by repeat (first | (with_reducible exact Below.refl _ _) | (with_reducible refine below_ov ?_ ?_) | (with_reducible refine Below.setCell ?_ ?_ _) | (with_reducible refine Below.alloc ?_ ?_ _) | (with_reducible refine Below.drew ?_) | (with_reducible refine below_drewN ?_ _) | (refine Below.trans ?_ (Below.mono ‹Below _ _ _› (by first | omega | (simp; done) | (simp; omega)))) | exact Below.refl _ _ | omega | (focus (simp; done)) | (focus (simp; omega))))⟩
      | true =>
        obtain ⟨hc1_0l, hc1_0r⟩ := inB_iff.1 hc1_0
        cases hc1_1 : inB (b k) 0 330 with
        | false =>
          have HF := hide (chkB_no (m := m) (b := b) hlt (by simp [chk1, *]))
          go_wp2_with fail
          go_quiet ((go_at_call 46; first | exact quiet_left (inside_any _ _ _ _) | exact quiet_add_left (inside_any _ _ _ _)))
          go_wp2
          go_ret
          exact ⟨ret_bool HF.out.symm, (by repeat (first | (with_reducible exact Below.refl _ _) | (with_reducible refine below_ov ?_ ?_) | (with_reducible refine Below.setCell ?_ ?_ _) | (with_reducible refine Below.alloc ?_ ?_ _) | (with_reducible refine Below.drew ?_) | (with_reducible refine below_drewN ?_ _) | (refine Below.trans ?_ (Below.mono ‹Below _ _ _› (by first | omega | (simp; done) | (simp; omega)))) | exact Below.refl _ _ | omega | (focus (simp; done)) | (focus (simp; omega))))⟩
        | true =>
          obtain ⟨hc1_1l, hc1_1r⟩ := inB_iff.1 hc1_1
          rcases Nat.eq_zero_or_pos k with hk0 | hk0
          · have d0 : decide (0 < k) = false := by simp; omega
            have dk : decide (k = 0) = true := by simp; omega
            clear hk0
            have HG : Hid (chk1 m b k = true) := by show chk1 m b k = true; simp only [chk1, *]; simp
            clear dk
            go_wp2_with fail
            go_quiet ((go_at_call 46; first | exact quiet_left (inside_any _ _ _ _) | exact quiet_add_left (inside_any _ _ _ _)))
            go_wp2
            go_roundw
            case rel => exact ⟨k + 1, by omega, by go_num, upto_snoc hj.out HG.out, (by repeat (first | (with_reducible exact Below.refl _ _) | (with_reducible refine below_ov ?_ ?_) | (with_reducible refine Below.setCell ?_ ?_ _) | (with_reducible refine Below.alloc ?_ ?_ _) | (with_reducible refine Below.drew ?_) | (with_reducible refine below_drewN ?_ _) | (refine Below.trans ?_ (Below.mono ‹Below _ _ _› (by first | omega | (simp; done) | (simp; omega)))) | exact Below.refl _ _ | omega | (focus (simp; done)) | (focus (simp; omega))))⟩
            case measure => simp [intOf]; omega
          · have d0 : decide (0 < k) = true := by simp; omega
            have p0 : wr.cell? ⟨blk, off + (k - 1) * 2, none⟩ = some (.int .i64 (m (k - 1))) := H3.out (k - 1) 0 (by omega) (by omega)
            have p1 : wr.cell? ⟨blk, off + (k - 1) * 2 + 1, none⟩ = some (.int .i64 (b (k - 1))) := H3.out (k - 1) 1 (by omega) (by omega)
            have dk : decide (k = 0) = false := by simp; omega
            cases d1 : decide (m (k - 1) ≥ m k) with
            | true =>
              have d1' : decide (m k ≤ m (k - 1)) = true := d1
              have HF := hide (chkB_no (m := m) (b := b) hlt (by simp [chk1, *]))
              clear dk
              go_wp2_with fail
              go_quiet ((go_at_call 46; first | exact quiet_left (inside_any _ _ _ _) | exact quiet_add_left (inside_any _ _ _ _)))
              go_wp2
              go_ret
              exact ⟨ret_bool HF.out.symm, (by repeat (first | (with_reducible exact Below.refl _ _) | (with_reducible refine below_ov ?_ ?_) | (with_reducible refine Below.setCell ?_ ?_ _) | (with_reducible refine Below.alloc ?_ ?_ _) | (with_reducible refine Below.drew ?_) | (with_reducible refine below_drewN ?_ _) | (refine Below.trans ?_ (Below.mono ‹Below _ _ _› (by first | omega | (simp; done) | (simp; omega)))) | exact Below.refl _ _ | omega | (focus (simp; done)) | (focus (simp; omega))))⟩
            | false =>
              have d1' : decide (m k ≤ m (k - 1)) = false := d1
              cases d2 : decide (b (k - 1) < b k) with
              | true =>
                have HF := hide (chkB_no (m := m) (b := b) hlt (by simp [chk1, *]))
                clear dk
                go_wp2_with fail
                go_quiet ((go_at_call 46; first | exact quiet_left (inside_any _ _ _ _) | exact quiet_add_left (inside_any _ _ _ _)))
                go_wp2
                go_ret
                exact ⟨ret_bool HF.out.symm, (by repeat (first | (with_reducible exact Below.refl _ _) | (with_reducible refine below_ov ?_ ?_) | (with_reducible refine Below.setCell ?_ ?_ _) | (with_reducible refine Below.alloc ?_ ?_ _) | (with_reducible refine Below.drew ?_) | (with_reducible refine below_drewN ?_ _) | (refine Below.trans ?_ (Below.mono ‹Below _ _ _› (by first | omega | (simp; done) | (simp; omega)))) | exact Below.refl _ _ | omega | (focus (simp; done)) | (focus (simp; omega))))⟩
              | false =>
                have HG : Hid (chk1 m b k = true) := by show chk1 m b k = true; simp only [chk1, *]; simp
                clear dk
                go_wp2_with fail
                go_quiet ((go_at_call 46; first | exact quiet_left (inside_any _ _ _ _) | exact quiet_add_left (inside_any _ _ _ _)))
                go_wp2
                go_roundw
                case rel => exact ⟨k + 1, by omega, by go_num, upto_snoc hj.out HG.out, (by repeat (first | (with_reducible exact Below.refl _ _) | (with_reducible refine below_ov ?_ ?_) | (with_reducible refine Below.setCell ?_ ?_ _) | (with_reducible refine Below.alloc ?_ ?_ _) | (with_reducible refine Below.drew ?_) | (with_reducible refine below_drewN ?_ _) | (refine Below.trans ?_ (Below.mono ‹Below _ _ _› (by first | omega | (simp; done) | (simp; omega)))) | exact Below.refl _ _ | omega | (focus (simp; done)) | (focus (simp; omega))))⟩
                case measure => simp [intOf]; omega
    · obtain rfl : k = n := by omega
      have HE : Hid (allB (chk1 m b) k = true) := allB_iff.2 hj.out
      go_wp2_with (go_at_call 46; refine (inside_any _ _ _ _).mono ?_; rintro e w' ⟨rfl, rfl⟩)
      go_ret
      exact ⟨ret_bool (by rw [chkB, HE.out]; rfl), hb⟩

end Go.Proofs.Yteoolhoncgaapaa
