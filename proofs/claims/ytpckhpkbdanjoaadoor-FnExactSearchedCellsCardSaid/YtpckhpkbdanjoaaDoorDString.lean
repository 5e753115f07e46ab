/-
  Walks: the laws' own helpers for String: copies, comparisons, sizes (printed by gen_data.py).
-/
import Derived.Test.YtpckhpkbdanjoaaDoorCells
namespace Go.Proofs.YtpckhpkbdanjoaaDoor
set_option linter.unusedVariables false
set_option linter.unusedSimpArgs false
open Go.RowKit

theorem infoString : (Tryd.prog.info? 9).map (fun i => (i.zero, i.size, i.bytes)) = some (some (.string ⟨#[]⟩), 1, 16) := by kernel_rfl
set_option maxRecDepth 100000 in
set_option maxHeartbeats 1600000 in
theorem toStringS_any (f0 : Nat → ByteArray) (n lo hi : Nat) (v : Value) (w : World) (hv : Sl w lo hi 1 v n (sC f0)) (hhi : hi ≤ w.heap.size) (hn : n ≤ 1048576) :
    Calls Tryd.prog 12 #[v] w fun e w' => ∃ v', e = .returned v' ∧ Own w' w.heap.size w'.heap.size 9 1 v' n n (sC f0) ∧ Below w.heap.size w w' := by
  obtain ⟨A, cap, rfl, hcap, hA⟩ := hv.open_
  clear hv
  obtain ⟨i0, hi0, hz0, hz1, hz2⟩ := info_parts infoString
  go_enter Tryd.func12, Tryd.ntmps12
  go_wp2_with (at_make; refine wpList_make_full _ rfl (.tmp 6) (.tmp 6) 22 rfl w.heap.size 9 i0 _ 1 Tryd.underlying22 hi0 hz0 hz1 .i64 .i64 n n n rfl rfl rfl rfl (by rw [hz2]; omega) (by unfold maxLen; omega) (Nat.le_refl _) ?_; intro w1 hown1 hg1)
  have hlt1 : w.heap.size < w1.heap.size := (hown1.lt _ rfl).2
  have hb1 : Below w.heap.size w w1 := (Below.refl _ _).grown hg1 (Nat.le_refl _) (fun k h => by cases h)
  have ho1 : Own w1 w.heap.size (w.heap.size + 1) 9 1 (.slice (some ⟨w.heap.size, 0, none⟩) n n) n 0 (sC f0) := ⟨_, hown1, fun g hg => by cases hg; exact Nat.lt_succ_self _, fun i j h => absurd h (by omega)⟩
  clear hown1 hg1
  go_loopw [4] (fun i wr => ∃ k : Nat, k ≤ n ∧ i = .int .i64 k ∧ Own wr w.heap.size (w.heap.size + 1) 9 1 (.slice (some ⟨w.heap.size, 0, none⟩) n n) n k (sC f0) ∧ Below w.heap.size w wr ∧ w.heap.size < wr.heap.size) (fun i _ => n - (intOf i).toNat)
  case atStart => exact ⟨0, by omega, rfl, ho1, hb1, hlt1⟩
  case round =>
    obtain ⟨k, hk, rfl, ho, hb, hlt⟩ := hrel
    by_cases hkn : k < n
    · obtain ⟨blk, off, rfl, h1, h2, h3⟩ := (hA.below hb (by omega)) (by omega)
      have c0 : wr.cell? ⟨blk, off + k, none⟩ = some (.string (f0 k)) := by have hh := h3 k 0 hkn (by omega); rw [Nat.mul_one, Nat.add_zero] at hh; exact hh
      clear h3 hA
      obtain ⟨u0, hu0⟩ := ho.has (o := k) (by omega)
      have g0 := ho.free k
      have HO := hide ho
      clear ho
      go_wp2_with fail
      go_roundw
      case rel => exact ⟨k + 1, by omega, by go_num, HO.out.store1 hkn, (by repeat (first | (with_reducible exact Below.refl _ _) | (with_reducible refine below_ov ?_ ?_) | (with_reducible refine Below.setCell ?_ ?_ _) | (with_reducible refine Below.alloc ?_ ?_ _) | (with_reducible refine Below.drew ?_) | (with_reducible refine below_drewN ?_ _) | (refine Below.trans ?_ (Below.mono ‹Below _ _ _› (by first | omega | (simp; done) | (simp; omega)))) | exact Below.refl _ _ | omega | (focus (simp; done)) | (focus (simp; omega)))), by simp; omega⟩
      case measure => simp [intOf]; omega
    · obtain rfl : k = n := by omega
      go_wp2_with fail
      go_ret
      exact ⟨_, rfl, ho.mono (Nat.le_refl _) (by omega), hb⟩
set_option maxRecDepth 100000 in
set_option maxHeartbeats 1600000 in
theorem eqStringS_any (f0 : Nat → ByteArray) (f0' : Nat → ByteArray) (n n' lo hi lo' hi' : Nat) (v v' : Value) (w : World) (hv : Sl w lo hi 1 v n (sC f0)) (hv' : Sl w lo' hi' 1 v' n' (sC f0')) (hhi : hi ≤ w.heap.size) (hhi' : hi' ≤ w.heap.size) (hn : n ≤ 4611686018427387904) (hn' : n' ≤ 4611686018427387904) :
    Calls Tryd.prog 16 #[v, v'] w fun e w' => e = .returned (.bool (sL f0 f0' n n')) ∧ Below w.heap.size w w' := by
  obtain ⟨A, cap, rfl, hcap, hA⟩ := hv.open_
  obtain ⟨A', cap', rfl, hcap', hA'⟩ := hv'.open_
  clear hv hv'
  by_cases hnn : n = n'
  · subst hnn
    go_enter Tryd.func16, Tryd.ntmps16
    go_wp2_with fail
    go_loopw [5] (fun i wr => ∃ k : Nat, k ≤ n ∧ i = .int .i64 k ∧ Hid (∀ j, j < k → sE (f0 j) (f0' j) = true) ∧ Below w.heap.size w wr) (fun i _ => n - (intOf i).toNat)
    case atStart => exact ⟨0, by omega, rfl, fun j hj => by omega, Below.refl _ _⟩
    case round =>
      obtain ⟨k, hk, rfl, hj, hb⟩ := hrel
      have hzr := hb.size
      by_cases hkn : k < n
      · obtain ⟨blk, off, rfl, h1, h2, h3⟩ := (hA.below hb (by omega)) (by omega)
        obtain ⟨blk', off', rfl, h1', h2', h3'⟩ := (hA'.below hb (by omega)) (by omega)
        have c0 : wr.cell? ⟨blk, off + k, none⟩ = some (.string (f0 k)) := by have hh := h3 k 0 hkn (by omega); rw [Nat.mul_one, Nat.add_zero] at hh; exact hh
        have e0 : wr.cell? ⟨blk', off' + k, none⟩ = some (.string (f0' k)) := by have hh := h3' k 0 hkn (by omega); rw [Nat.mul_one, Nat.add_zero] at hh; exact hh
        have g1 : blk < wr.heap.size := by omega
        have g2 : blk' < wr.heap.size := by omega
        clear h3 hA h3' hA'
        cases he : sE (f0 k) (f0' k) with
        | false =>
          have HF : Hid (sL f0 f0' n n = false) := by
            show sL f0 f0' n n = false
            rw [sL, allB_false hkn he]; simp
          have hq : ((f0 k).toList == (f0' k).toList) = false := by rw [str_beq]; simpa [sE] using he
          go_wp2_with fail
          go_quiet (fail)
          go_wp2
          go_ret
          exact ⟨ret_bool HF.out.symm, (by repeat (first | (with_reducible exact Below.refl _ _) | (with_reducible refine below_ov ?_ ?_) | (with_reducible refine Below.setCell ?_ ?_ _) | (with_reducible refine Below.alloc ?_ ?_ _) | (with_reducible refine Below.drew ?_) | (with_reducible refine below_drewN ?_ _) | (refine Below.trans ?_ (Below.mono ‹Below _ _ _› (by first | omega | (simp; done) | (simp; omega)))) | exact Below.refl _ _ | omega | (focus (simp; done)) | (focus (simp; omega))))⟩
        | true =>
          have HG := hide he
          have hq : ((f0 k).toList == (f0' k).toList) = true := by rw [str_beq]; simpa [sE] using he
          go_wp2_with fail
          go_quiet (fail)
          go_wp2
          go_roundw
          case rel => exact ⟨k + 1, by omega, by go_num, upto_snoc hj.out HG.out, (by repeat (first | (with_reducible exact Below.refl _ _) | (with_reducible refine below_ov ?_ ?_) | (with_reducible refine Below.setCell ?_ ?_ _) | (with_reducible refine Below.alloc ?_ ?_ _) | (with_reducible refine Below.drew ?_) | (with_reducible refine below_drewN ?_ _) | (refine Below.trans ?_ (Below.mono ‹Below _ _ _› (by first | omega | (simp; done) | (simp; omega)))) | exact Below.refl _ _ | omega | (focus (simp; done)) | (focus (simp; omega))))⟩
          case measure => simp [intOf]; omega
      · obtain rfl : k = n := by omega
        have HE : Hid (sL f0 f0' k k = true) := by
          show sL f0 f0' k k = true
          rw [sL, allB_iff.2 hj.out]; simp
        go_wp2_with fail
        go_ret
        exact ⟨ret_bool HE.out.symm, hb⟩
  · have hne : ((n : Int) != (n' : Int)) = true := by rw [bne_iff_ne]; omega
    go_enter Tryd.func16, Tryd.ntmps16
    go_wp2_with fail
    go_ret
    exact ⟨ret_bool (by simp [sL, hnn]), Below.refl _ _⟩

end Go.Proofs.YtpckhpkbdanjoaaDoor
