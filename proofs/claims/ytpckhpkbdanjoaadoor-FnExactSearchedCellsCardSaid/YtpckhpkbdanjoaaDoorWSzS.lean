/-
  Walks: how much of a budget a list of texts takes: the laws' own word.
-/
import Derived.Test.YtpckhpkbdanjoaaDoorPSz
namespace Go.Proofs.YtpckhpkbdanjoaaDoor
set_option linter.unusedVariables false
set_option linter.unusedSimpArgs false
open Go.RowKit

set_option maxRecDepth 100000 in
set_option maxHeartbeats 1600000 in
theorem szStringS_any (c : Nat → ByteArray) (n : Nat) (left : Int) (lo hi : Nat) (v : Value) (w : World) (hv : Sl w lo hi 1 v n (sC c)) (hhi : hi ≤ w.heap.size) (hl : 0 ≤ left) (hl' : left ≤ 1048576) (hn : n ≤ 9223372036854775807) (hsz : ∀ i, i < n → (c i).size ≤ maxLen) :
    Calls Tryd.prog 9 #[v, .int .i64 left] w fun e w' => e = .returned (.int .i64 (szPF left c n)) ∧ Below w.heap.size w w' := by
  obtain ⟨A, cap, rfl, hcap, hA⟩ := hv.open_
  clear hv
  by_cases h : left < n
  · have hd : decide (left - (n : Int) < 0) = true := by simp; omega
    go_enter Tryd.func9, Tryd.ntmps9
    go_wp2_with fail
    go_ret
    exact ⟨ret_int (by rw [szPF, if_pos h]), (by repeat (first | (with_reducible exact Below.refl _ _) | (with_reducible refine below_ov ?_ ?_) | (with_reducible refine Below.setCell ?_ ?_ _) | (with_reducible refine Below.alloc ?_ ?_ _) | (with_reducible refine Below.drew ?_) | (with_reducible refine below_drewN ?_ _) | (refine Below.trans ?_ (Below.mono ‹Below _ _ _› (by first | omega | (simp; done) | (simp; omega)))) | exact Below.refl _ _ | omega | (focus (simp; done)) | (focus (simp; omega))))⟩
  · have hd : decide (left - (n : Int) < 0) = false := by simp; omega
    have HM : Hid (szPF left c n = szP (left - n) (fun i => (c i).size) n) := by
      show szPF left c n = _
      rw [szPF, if_neg h]
    go_enter Tryd.func9, Tryd.ntmps9
    go_wp2_with fail
    go_loopw [1, 5] (fun x i wr => ∃ k : Nat, k ≤ n ∧ i = .int .i64 k ∧ x = .int .i64 (szP (left - n) (fun i => (c i).size) k) ∧ 0 ≤ szP (left - n) (fun i => (c i).size) k ∧ Below w.heap.size w wr) (fun _ i _ => n - (intOf i).toNat)
    case atStart => exact ⟨0, by omega, rfl, rfl, by simp only [szP]; omega, Below.refl _ _⟩
    case round =>
      obtain ⟨k, hk, rfl, rfl, h0, hb⟩ := hrel
      have hzr := hb.size
      have hle := szP_le (left := left - n) (a := fun i => (c i).size) (by omega) k
      by_cases hkn : k < n
      · obtain ⟨blk, off, rfl, h1, h2, h3⟩ := (hA.below hb (by omega)) (by omega)
        have c0 : wr.cell? ⟨blk, off + k, none⟩ = some (.string (c k)) := by have hh := h3 k 0 hkn (by omega); rw [Nat.mul_one, Nat.add_zero] at hh; exact hh
        clear h3 hA
        have z1 := hsz k hkn
        unfold maxLen at z1
        have hs : Hid (szP (left - n) (fun i => (c i).size) (k + 1) = sz1F (szP (left - n) (fun i => (c i).size) k) (c k).size) := by
          show szP _ _ (k + 1) = _
          rw [szP, if_neg (by omega)]
        have hs2 : Hid (szP (left - n) (fun i => (c i).size) (k + 1) = if szP (left - n) (fun i => (c i).size) k < (c k).size then -1 else szP (left - n) (fun i => (c i).size) k - (c k).size) := hs.out
        cases hd2 : decide (szP (left - n) (fun i => (c i).size) k - ((c k).size : Int) < 0) with
        | true =>
          have h5 := of_decide_eq_true hd2
          have HE : Hid (szPF left c n = -1) := by
            show szPF left c n = -1
            have h6 := hs2.out
            rw [if_pos (by omega)] at h6
            rw [HM.out]
            rcases Nat.lt_or_ge (k + 1) n with h7 | h7
            · exact szP_neg (by rw [h6]; omega) h7
            · obtain h7 : k + 1 = n := by omega
              have h9 := congrArg (szP (left - n) (fun i => (c i).size)) h7
              omega
          go_wp2_with fail
          go_ret
          exact ⟨ret_int HE.out.symm, (by repeat (first | (with_reducible exact Below.refl _ _) | (with_reducible refine below_ov ?_ ?_) | (with_reducible refine Below.setCell ?_ ?_ _) | (with_reducible refine Below.alloc ?_ ?_ _) | (with_reducible refine Below.drew ?_) | (with_reducible refine below_drewN ?_ _) | (refine Below.trans ?_ (Below.mono ‹Below _ _ _› (by first | omega | (simp; done) | (simp; omega)))) | exact Below.refl _ _ | omega | (focus (simp; done)) | (focus (simp; omega))))⟩
        | false =>
          have h5 := of_decide_eq_false hd2
          have h6 : szP (left - n) (fun i => (c i).size) (k + 1) = szP (left - n) (fun i => (c i).size) k - (c k).size := by
            have := hs2.out
            rwa [if_neg (by omega)] at this
          have H6 := hide h6
          clear h6
          go_wp2_with fail
          go_roundw
          case rel => exact ⟨k + 1, by omega, by go_num, by rw [H6.out], by rw [H6.out]; omega, (by repeat (first | (with_reducible exact Below.refl _ _) | (with_reducible refine below_ov ?_ ?_) | (with_reducible refine Below.setCell ?_ ?_ _) | (with_reducible refine Below.alloc ?_ ?_ _) | (with_reducible refine Below.drew ?_) | (with_reducible refine below_drewN ?_ _) | (refine Below.trans ?_ (Below.mono ‹Below _ _ _› (by first | omega | (simp; done) | (simp; omega)))) | exact Below.refl _ _ | omega | (focus (simp; done)) | (focus (simp; omega))))⟩
          case measure => simp [intOf]; omega
      · obtain rfl : k = n := by omega
        go_wp2_with fail
        go_ret
        exact ⟨ret_int HM.out.symm, hb⟩

end Go.Proofs.YtpckhpkbdanjoaaDoor
