/-
  Walks: the laws' own helpers for Int: copies, comparisons, sizes (printed by gen_data.py).
-/
import Derived.Test.YtigdalaeopemiaaDoorCells
namespace Go.Proofs.YtigdalaeopemiaaDoor
set_option linter.unusedVariables false
set_option linter.unusedSimpArgs false
open Go.RowKit

set_option maxRecDepth 100000 in
set_option maxHeartbeats 1600000 in
theorem eqIntS_any (f0 : Nat → Int) (f0' : Nat → Int) (n n' lo hi lo' hi' : Nat) (v v' : Value) (w : World) (hv : Sl w lo hi 1 v n (iC f0)) (hv' : Sl w lo' hi' 1 v' n' (iC f0')) (hhi : hi ≤ w.heap.size) (hhi' : hi' ≤ w.heap.size) (hn : n ≤ 4611686018427387904) (hn' : n' ≤ 4611686018427387904) :
    Calls Tryd.prog 41 #[v, v'] w fun e w' => e = .returned (.bool (iL f0 f0' n n')) ∧ Below w.heap.size w w' := by
  obtain ⟨A, cap, rfl, hcap, hA⟩ := hv.open_
  obtain ⟨A', cap', rfl, hcap', hA'⟩ := hv'.open_
  clear hv hv'
  by_cases hnn : n = n'
  · subst hnn
    go_enter Tryd.func41, Tryd.ntmps41
    go_wp2_with fail
    go_loopw [5] (fun i wr => ∃ k : Nat, k ≤ n ∧ i = .int .i64 k ∧ Hid (∀ j, j < k → iE (f0 j) (f0' j) = true) ∧ Below w.heap.size w wr) (fun i _ => n - (intOf i).toNat)
    case atStart => exact ⟨0, by omega, rfl, fun j hj => by omega, Below.refl _ _⟩
    case round =>
      obtain ⟨k, hk, rfl, hj, hb⟩ := hrel
      have hzr := hb.size
      by_cases hkn : k < n
      · obtain ⟨blk, off, rfl, h1, h2, h3⟩ := (hA.below hb (by omega)) (by omega)
        obtain ⟨blk', off', rfl, h1', h2', h3'⟩ := (hA'.below hb (by omega)) (by omega)
        have c0 : wr.cell? ⟨blk, off + k, none⟩ = some (.int .i64 (f0 k)) := by have hh := h3 k 0 hkn (by omega); rw [Nat.mul_one, Nat.add_zero] at hh; exact hh
        have e0 : wr.cell? ⟨blk', off' + k, none⟩ = some (.int .i64 (f0' k)) := by have hh := h3' k 0 hkn (by omega); rw [Nat.mul_one, Nat.add_zero] at hh; exact hh
        have g1 : blk < wr.heap.size := by omega
        have g2 : blk' < wr.heap.size := by omega
        clear h3 hA h3' hA'
        cases he : iE (f0 k) (f0' k) with
        | false =>
          have HF : Hid (iL f0 f0' n n = false) := by
            show iL f0 f0' n n = false
            rw [iL, allB_false hkn he]; simp
          have hq : (f0 k != f0' k) = true := by simp [iE] at he; simp [he]
          go_wp2_with fail
          go_quiet (fail)
          go_wp2
          go_ret
          exact ⟨ret_bool HF.out.symm, (by repeat (first | (with_reducible exact Below.refl _ _) | (with_reducible refine below_ov ?_ ?_) | (with_reducible refine Below.setCell ?_ ?_ _) | (with_reducible refine Below.alloc ?_ ?_ _) | (with_reducible refine Below.drew ?_) | (with_reducible refine below_drewN ?_ _) | (refine Below.trans ?_ (Below.mono ‹Below _ _ _› (by first | omega | (simp; done) | (simp; omega)))) | exact Below.refl _ _ | omega | (focus (simp; done)) | (focus (simp; omega))))⟩
        | true =>
          have HG := hide he
          have hq : (f0 k != f0' k) = false := by simp [iE] at he; simp [he]
          go_wp2_with fail
          go_quiet (fail)
          go_wp2
          go_roundw
          case rel => exact ⟨k + 1, by omega, by go_num, upto_snoc hj.out HG.out, (by repeat (first | (with_reducible exact Below.refl _ _) | (with_reducible refine below_ov ?_ ?_) | (with_reducible refine Below.setCell ?_ ?_ _) | (with_reducible refine Below.alloc ?_ ?_ _) | (with_reducible refine Below.drew ?_) | (with_reducible refine below_drewN ?_ _) | (refine Below.trans ?_ (Below.mono ‹Below _ _ _› (by first | omega | (simp; done) | (simp; omega)))) | exact Below.refl _ _ | omega | (focus (simp; done)) | (focus (simp; omega))))⟩
          case measure => simp [intOf]; omega
      · obtain rfl : k = n := by omega
        have HE : Hid (iL f0 f0' k k = true) := by
          show iL f0 f0' k k = true
          rw [iL, allB_iff.2 hj.out]; simp
        go_wp2_with fail
        go_ret
        exact ⟨ret_bool HE.out.symm, hb⟩
  · have hne : ((n : Int) != (n' : Int)) = true := by rw [bne_iff_ne]; omega
    go_enter Tryd.func41, Tryd.ntmps41
    go_wp2_with fail
    go_ret
    exact ⟨ret_bool (by simp [iL, hnn]), Below.refl _ _⟩

end Go.Proofs.YtigdalaeopemiaaDoor
