/-
  Walks: how much of a budget periods take; the exported checks.
-/
import Derived.Test.YtmonfljjdngfeaaDoorWPer3
import Derived.Test.YtmonfljjdngfeaaDoorPSz
namespace Go.Proofs.YtmonfljjdngfeaaDoor
set_option linter.unusedVariables false
set_option linter.unusedSimpArgs false
open Go.RowKit

def askP (c : Nat → ByteArray) (a b : Nat → Int) (n : Nat) (s : ByteArray) (m : Int) : Bool := pdB c a b n && nameB s && inB m 0 9999
set_option maxHeartbeats 800000 in
theorem szPeriod_any (s : ByteArray) (x y : Int) (left : Int) (w : World) (hl : 0 ≤ left) (hl' : left ≤ 1048576) (hs : s.size ≤ maxLen) :
    Calls Tryd.prog 9 #[.agg #[.string s, .int .i64 x, .int .i64 y], .int .i64 left] w fun e w' => e = .returned (.int .i64 (sz1F left s.size)) ∧ Below w.heap.size w w' := by
  unfold maxLen at hs
  by_cases h : left < s.size
  · have hd : decide (left - (s.size : Int) < 0) = true := by simp; omega
    go_enter Tryd.func9, Tryd.ntmps9
    go_wp2_with fail
    go_ret
    exact ⟨ret_int (by rw [sz1F, if_pos h]), (by repeat (first | (with_reducible exact Below.refl _ _) | (with_reducible refine below_ov ?_ ?_) | (with_reducible refine Below.setCell ?_ ?_ _) | (with_reducible refine Below.alloc ?_ ?_ _) | (with_reducible refine Below.drew ?_) | (with_reducible refine below_drewN ?_ _) | (refine Below.trans ?_ (Below.mono ‹Below _ _ _› (by first | omega | (simp; done) | (simp; omega)))) | exact Below.refl _ _ | omega | (focus (simp; done)) | (focus (simp; omega))))⟩
  · have hd : decide (left - (s.size : Int) < 0) = false := by simp; omega
    go_enter Tryd.func9, Tryd.ntmps9
    go_wp2_with fail
    go_ret
    exact ⟨ret_int (by rw [sz1F, if_neg (by omega)]), (by repeat (first | (with_reducible exact Below.refl _ _) | (with_reducible refine below_ov ?_ ?_) | (with_reducible refine Below.setCell ?_ ?_ _) | (with_reducible refine Below.alloc ?_ ?_ _) | (with_reducible refine Below.drew ?_) | (with_reducible refine below_drewN ?_ _) | (refine Below.trans ?_ (Below.mono ‹Below _ _ _› (by first | omega | (simp; done) | (simp; omega)))) | exact Below.refl _ _ | omega | (focus (simp; done)) | (focus (simp; omega))))⟩
set_option maxRecDepth 100000 in
set_option maxHeartbeats 1600000 in
theorem szPeriodS_any (c : Nat → ByteArray) (a b : Nat → Int) (n : Nat) (left : Int) (lo hi : Nat) (v : Value) (w : World) (hv : Sl w lo hi 3 v n (siiC c a b)) (hhi : hi ≤ w.heap.size) (hl : 0 ≤ left) (hl' : left ≤ 1048576) (hn : n ≤ 9223372036854775807) (hsz : ∀ i, i < n → (c i).size ≤ maxLen) :
    Calls Tryd.prog 4 #[v, .int .i64 left] w fun e w' => e = .returned (.int .i64 (szPF left c n)) ∧ Below w.heap.size w w' := by
  obtain ⟨A, cap, rfl, hcap, hA⟩ := hv.open_
  clear hv
  by_cases h : left < n
  · have hd : decide (left - (n : Int) < 0) = true := by simp; omega
    go_enter Tryd.func4, Tryd.ntmps4
    go_wp2_with fail
    go_ret
    exact ⟨ret_int (by rw [szPF, if_pos h]), (by repeat (first | (with_reducible exact Below.refl _ _) | (with_reducible refine below_ov ?_ ?_) | (with_reducible refine Below.setCell ?_ ?_ _) | (with_reducible refine Below.alloc ?_ ?_ _) | (with_reducible refine Below.drew ?_) | (with_reducible refine below_drewN ?_ _) | (refine Below.trans ?_ (Below.mono ‹Below _ _ _› (by first | omega | (simp; done) | (simp; omega)))) | exact Below.refl _ _ | omega | (focus (simp; done)) | (focus (simp; omega))))⟩
  · have hd : decide (left - (n : Int) < 0) = false := by simp; omega
    have HM : Hid (szPF left c n = szP (left - n) (fun i => (c i).size) n) := by
      show szPF left c n = _
      rw [szPF, if_neg h]
    go_enter Tryd.func4, Tryd.ntmps4
    go_wp2_with fail
    go_loopw [1, 5] (fun x i wr => ∃ k : Nat, k ≤ n ∧ i = .int .i64 k ∧ x = .int .i64 (szP (left - n) (fun i => (c i).size) k) ∧ 0 ≤ szP (left - n) (fun i => (c i).size) k ∧ Below w.heap.size w wr) (fun _ i _ => n - (intOf i).toNat)
    case atStart => exact ⟨0, by omega, rfl, rfl, by simp only [szP]; omega, Below.refl _ _⟩
    case round =>
      obtain ⟨k, hk, rfl, rfl, h0, hb⟩ := hrel
      have hzr := hb.size
      have hle := szP_le (left := left - n) (a := fun i => (c i).size) (by omega) k
      by_cases hkn : k < n
      · obtain ⟨blk, off, rfl, h1, h2, h3⟩ := (hA.below hb (by omega)) (by omega)
        have c0 : wr.cell? ⟨blk, off + k * 3, none⟩ = some (.string (c k)) := h3 k 0 hkn (by omega)
        have c1 : wr.cell? ⟨blk, off + k * 3 + 1, none⟩ = some (.int .i64 (a k)) := h3 k 1 hkn (by omega)
        have c2 : wr.cell? ⟨blk, off + k * 3 + 2, none⟩ = some (.int .i64 (b k)) := h3 k 2 hkn (by omega)
        clear h3 hA
        have z1 := hsz k hkn
        have hs : Hid (szP (left - n) (fun i => (c i).size) (k + 1) = sz1F (szP (left - n) (fun i => (c i).size) k) (c k).size) := by
          show szP _ _ (k + 1) = _
          rw [szP, if_neg (by omega)]
        go_wp2_with fail
        refine (szPeriod_any _ _ _ _ _ h0 (by omega) z1).mono ?_
        rintro e w1 ⟨rfl, hb1⟩
        have hz1 := hb1.size
        rw [← hs.out]
        cases hd2 : decide (szP (left - n) (fun i => (c i).size) (k + 1) < 0) with
        | true =>
          have HE : Hid (szPF left c n = -1) := by
            show szPF left c n = -1
            have h5 := of_decide_eq_true hd2
            rw [HM.out]
            rcases Nat.lt_or_ge (k + 1) n with h6 | h6
            · exact szP_neg h5 h6
            · obtain h7 : k + 1 = n := by omega
              have := (szP_le (left := left - n) (a := fun i => (c i).size) (by omega) (k + 1)).1
              have h9 := congrArg (szP (left - n) (fun i => (c i).size)) h7
              omega
          go_wp2_with fail
          go_ret
          exact ⟨ret_int HE.out.symm, (by repeat (first | (with_reducible exact Below.refl _ _) | (with_reducible refine below_ov ?_ ?_) | (with_reducible refine Below.setCell ?_ ?_ _) | (with_reducible refine Below.alloc ?_ ?_ _) | (with_reducible refine Below.drew ?_) | (with_reducible refine below_drewN ?_ _) | (refine Below.trans ?_ (Below.mono ‹Below _ _ _› (by first | omega | (simp; done) | (simp; omega)))) | exact Below.refl _ _ | omega | (focus (simp; done)) | (focus (simp; omega))))⟩
        | false =>
          have h5 := of_decide_eq_false hd2
          go_wp2_with fail
          go_roundw
          case rel => exact ⟨k + 1, by omega, by go_num, rfl, by omega, (by repeat (first | (with_reducible exact Below.refl _ _) | (with_reducible refine below_ov ?_ ?_) | (with_reducible refine Below.setCell ?_ ?_ _) | (with_reducible refine Below.alloc ?_ ?_ _) | (with_reducible refine Below.drew ?_) | (with_reducible refine below_drewN ?_ _) | (refine Below.trans ?_ (Below.mono ‹Below _ _ _› (by first | omega | (simp; done) | (simp; omega)))) | exact Below.refl _ _ | omega | (focus (simp; done)) | (focus (simp; omega))))⟩
          case measure => simp [intOf]; omega
      · obtain rfl : k = n := by omega
        go_wp2_with fail
        go_ret
        exact ⟨ret_int HM.out.symm, hb⟩

end Go.Proofs.YtmonfljjdngfeaaDoor
