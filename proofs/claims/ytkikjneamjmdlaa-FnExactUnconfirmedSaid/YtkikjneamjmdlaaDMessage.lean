/-
  Walks: the laws' own helpers for Message: copies, comparisons, sizes (printed by gen_data.py).
-/
import Derived.Test.YtkikjneamjmdlaaCells
namespace Go.Proofs.Ytkikjneamjmdlaa
set_option linter.unusedVariables false
set_option linter.unusedSimpArgs false
open Go.RowKit

set_option maxHeartbeats 400000 in
theorem toMessage_any (a0 : ByteArray) (a1 : Int) (a2 : ByteArray) (w : World) :
    Calls Try.prog 28 #[.agg #[.string a0, .int .i64 a1, .string a2]] w fun e w' => e = .returned (.agg #[.string a0, .int .i64 a1, .string a2]) ∧ Below w.heap.size w w' := by
  go_enter Try.func28, Try.ntmps28
  go_wp2_with fail
  refine bodyPost_ret (v := .agg #[.string a0, .int .i64 a1, .string a2]) (by simp [results, Try.results28, go_sem]) rfl ⟨rfl, ?_⟩
  exact (by repeat (first | (with_reducible exact Below.refl _ _) | (with_reducible refine below_ov ?_ ?_) | (with_reducible refine Below.setCell ?_ ?_ _) | (with_reducible refine Below.alloc ?_ ?_ _) | (with_reducible refine Below.drew ?_) | (with_reducible refine below_drewN ?_ _) | (refine Below.trans ?_ (Below.mono ‹Below _ _ _› (by first | omega | (simp; done) | (simp; omega)))) | exact Below.refl _ _ | omega | (focus (simp; done)) | (focus (simp; omega))))
set_option maxHeartbeats 800000 in
theorem eqMessage_any (a0 : ByteArray) (a1 : Int) (a2 : ByteArray) (a0' : ByteArray) (a1' : Int) (a2' : ByteArray) (w : World) :
    Calls Try.prog 22 #[.agg #[.string a0, .int .i64 a1, .string a2], .agg #[.string a0', .int .i64 a1', .string a2']] w fun e w' => e = .returned (.bool (sisE a0 a1 a2 a0' a1' a2')) ∧ Below w.heap.size w w' := by
  cases h0 : (a0.toList == a0'.toList) with
  | false =>
    have Q0 : Hid (¬ a0 = a0') := by show ¬ a0 = a0'; rw [str_beq] at h0; simpa using h0
    go_enter Try.func22, Try.ntmps22
    go_wp2_with fail
    go_ret
    exact ⟨ret_bool (by simp [sisE, Q0.out]), (by repeat (first | (with_reducible exact Below.refl _ _) | (with_reducible refine below_ov ?_ ?_) | (with_reducible refine Below.setCell ?_ ?_ _) | (with_reducible refine Below.alloc ?_ ?_ _) | (with_reducible refine Below.drew ?_) | (with_reducible refine below_drewN ?_ _) | (refine Below.trans ?_ (Below.mono ‹Below _ _ _› (by first | omega | (simp; done) | (simp; omega)))) | exact Below.refl _ _ | omega | (focus (simp; done)) | (focus (simp; omega))))⟩
  | true =>
    have Q0 : Hid (a0 = a0') := by show a0 = a0'; rw [str_beq] at h0; simpa using h0
    cases h1 : (a1 != a1') with
    | true =>
      have Q1 : Hid (¬ a1 = a1') := by show ¬ a1 = a1'; simpa using h1
      go_enter Try.func22, Try.ntmps22
      go_wp2_with fail
      go_ret
      exact ⟨ret_bool (by simp [sisE, Q1.out]), (by repeat (first | (with_reducible exact Below.refl _ _) | (with_reducible refine below_ov ?_ ?_) | (with_reducible refine Below.setCell ?_ ?_ _) | (with_reducible refine Below.alloc ?_ ?_ _) | (with_reducible refine Below.drew ?_) | (with_reducible refine below_drewN ?_ _) | (refine Below.trans ?_ (Below.mono ‹Below _ _ _› (by first | omega | (simp; done) | (simp; omega)))) | exact Below.refl _ _ | omega | (focus (simp; done)) | (focus (simp; omega))))⟩
    | false =>
      have Q1 : Hid (a1 = a1') := by show a1 = a1'; simpa using h1
      cases h2 : (a2.toList == a2'.toList) with
      | false =>
        have Q2 : Hid (¬ a2 = a2') := by show ¬ a2 = a2'; rw [str_beq] at h2; simpa using h2
        go_enter Try.func22, Try.ntmps22
        go_wp2_with fail
        go_ret
        exact ⟨ret_bool (by simp [sisE, Q2.out]), (by repeat (first | (with_reducible exact Below.refl _ _) | (with_reducible refine below_ov ?_ ?_) | (with_reducible refine Below.setCell ?_ ?_ _) | (with_reducible refine Below.alloc ?_ ?_ _) | (with_reducible refine Below.drew ?_) | (with_reducible refine below_drewN ?_ _) | (refine Below.trans ?_ (Below.mono ‹Below _ _ _› (by first | omega | (simp; done) | (simp; omega)))) | exact Below.refl _ _ | omega | (focus (simp; done)) | (focus (simp; omega))))⟩
      | true =>
        have Q2 : Hid (a2 = a2') := by show a2 = a2'; rw [str_beq] at h2; simpa using h2
        go_enter Try.func22, Try.ntmps22
        go_wp2_with fail
        go_ret
        exact ⟨ret_bool (sisE_iff.2 ⟨Q0.out, Q1.out, Q2.out⟩).symm, (by repeat (first | (with_reducible exact Below.refl _ _) | (with_reducible refine below_ov ?_ ?_) | (with_reducible refine Below.setCell ?_ ?_ _) | (with_reducible refine Below.alloc ?_ ?_ _) | (with_reducible refine Below.drew ?_) | (with_reducible refine below_drewN ?_ _) | (refine Below.trans ?_ (Below.mono ‹Below _ _ _› (by first | omega | (simp; done) | (simp; omega)))) | exact Below.refl _ _ | omega | (focus (simp; done)) | (focus (simp; omega))))⟩
theorem infoMessage : (Try.prog.info? 40).map (fun i => (i.zero, i.size, i.bytes)) = some (some (.agg #[.string ⟨#[]⟩, .int .i64 0, .string ⟨#[]⟩]), 3, 40) := by kernel_rfl
set_option maxRecDepth 100000 in
set_option maxHeartbeats 1600000 in
theorem toMessageS_any (f0 : Nat → ByteArray) (f1 : Nat → Int) (f2 : Nat → ByteArray) (n lo hi : Nat) (v : Value) (w : World) (hv : Sl w lo hi 3 v n (sisC f0 f1 f2)) (hhi : hi ≤ w.heap.size) (hn : n ≤ 1048576) :
    Calls Try.prog 16 #[v] w fun e w' => ∃ v', e = .returned v' ∧ Own w' w.heap.size w'.heap.size 40 3 v' n n (sisC f0 f1 f2) ∧ Below w.heap.size w w' := by
  obtain ⟨A, cap, rfl, hcap, hA⟩ := hv.open_
  clear hv
  obtain ⟨i0, hi0, hz0, hz1, hz2⟩ := info_parts infoMessage
  go_enter Try.func16, Try.ntmps16
  go_wp2_with (at_make; refine wpList_make_full _ rfl (.tmp 6) (.tmp 6) 26 rfl w.heap.size 40 i0 _ 3 Try.underlying26 hi0 hz0 hz1 .i64 .i64 n n n rfl rfl rfl rfl (by rw [hz2]; omega) (by unfold maxLen; omega) (Nat.le_refl _) ?_; intro w1 hown1 hg1)
  have hlt1 : w.heap.size < w1.heap.size := (hown1.lt _ rfl).2
  have hb1 : Below w.heap.size w w1 := (Below.refl _ _).grown hg1 (Nat.le_refl _) (fun k h => by cases h)
  have ho1 : Own w1 w.heap.size (w.heap.size + 1) 40 3 (.slice (some ⟨w.heap.size, 0, none⟩) n n) n 0 (sisC f0 f1 f2) := ⟨_, hown1, fun g hg => by cases hg; exact Nat.lt_succ_self _, fun i j h => absurd h (by omega)⟩
  clear hown1 hg1
  go_loopw [4] (fun i wr => ∃ k : Nat, k ≤ n ∧ i = .int .i64 k ∧ Own wr w.heap.size (w.heap.size + 1) 40 3 (.slice (some ⟨w.heap.size, 0, none⟩) n n) n k (sisC f0 f1 f2) ∧ Below w.heap.size w wr ∧ w.heap.size < wr.heap.size) (fun i _ => n - (intOf i).toNat)
  case atStart => exact ⟨0, by omega, rfl, ho1, hb1, hlt1⟩
  case round =>
    obtain ⟨k, hk, rfl, ho, hb, hlt⟩ := hrel
    by_cases hkn : k < n
    · obtain ⟨blk, off, rfl, h1, h2, h3⟩ := (hA.below hb (by omega)) (by omega)
      have c0 : wr.cell? ⟨blk, off + k * 3, none⟩ = some (.string (f0 k)) := h3 k 0 hkn (by omega)
      have c1 : wr.cell? ⟨blk, off + k * 3 + 1, none⟩ = some (.int .i64 (f1 k)) := h3 k 1 hkn (by omega)
      have c2 : wr.cell? ⟨blk, off + k * 3 + 2, none⟩ = some (.string (f2 k)) := h3 k 2 hkn (by omega)
      clear h3 hA
      go_wp2_with (go_at_call 28; refine (toMessage_any _ _ _ _).mono ?_; rintro e w2 ⟨rfl, hb2⟩; have ho2 := ho.below hb2 (by omega); obtain ⟨u0, hu0⟩ := ho2.has (o := k * 3) (by omega); have g0 := ho2.free (k * 3); obtain ⟨u1, hu1⟩ := ho2.has (o := k * 3 + 1) (by omega); have g1 := ho2.free (k * 3 + 1); obtain ⟨u2, hu2⟩ := ho2.has (o := k * 3 + 2) (by omega); have g2 := ho2.free (k * 3 + 2); have hz2 := hb2.size)
      go_roundw
      case rel => exact ⟨k + 1, by omega, by go_num, ho2.store3 hkn, (by repeat (first | (with_reducible exact Below.refl _ _) | (with_reducible refine below_ov ?_ ?_) | (with_reducible refine Below.setCell ?_ ?_ _) | (with_reducible refine Below.alloc ?_ ?_ _) | (with_reducible refine Below.drew ?_) | (with_reducible refine below_drewN ?_ _) | (refine Below.trans ?_ (Below.mono ‹Below _ _ _› (by first | omega | (simp; done) | (simp; omega)))) | exact Below.refl _ _ | omega | (focus (simp; done)) | (focus (simp; omega)))), by simp; omega⟩
      case measure => simp [intOf]; omega
    · obtain rfl : k = n := by omega
      go_wp2_with fail
      go_ret
      exact ⟨_, rfl, ho.mono (Nat.le_refl _) (by omega), hb⟩
set_option maxRecDepth 100000 in
set_option maxHeartbeats 1600000 in
theorem eqMessageS_any (f0 : Nat → ByteArray) (f1 : Nat → Int) (f2 : Nat → ByteArray) (f0' : Nat → ByteArray) (f1' : Nat → Int) (f2' : Nat → ByteArray) (n n' lo hi lo' hi' : Nat) (v v' : Value) (w : World) (hv : Sl w lo hi 3 v n (sisC f0 f1 f2)) (hv' : Sl w lo' hi' 3 v' n' (sisC f0' f1' f2')) (hhi : hi ≤ w.heap.size) (hhi' : hi' ≤ w.heap.size) (hn : n ≤ 4611686018427387904) (hn' : n' ≤ 4611686018427387904) :
    Calls Try.prog 8 #[v, v'] w fun e w' => e = .returned (.bool (sisL f0 f1 f2 f0' f1' f2' n n')) ∧ Below w.heap.size w w' := by
  obtain ⟨A, cap, rfl, hcap, hA⟩ := hv.open_
  obtain ⟨A', cap', rfl, hcap', hA'⟩ := hv'.open_
  clear hv hv'
  by_cases hnn : n = n'
  · subst hnn
    go_enter Try.func8, Try.ntmps8
    go_wp2_with fail
    go_loopw [5] (fun i wr => ∃ k : Nat, k ≤ n ∧ i = .int .i64 k ∧ Hid (∀ j, j < k → sisE (f0 j) (f1 j) (f2 j) (f0' j) (f1' j) (f2' j) = true) ∧ Below w.heap.size w wr) (fun i _ => n - (intOf i).toNat)
    case atStart => exact ⟨0, by omega, rfl, fun j hj => by omega, Below.refl _ _⟩
    case round =>
      obtain ⟨k, hk, rfl, hj, hb⟩ := hrel
      have hzr := hb.size
      by_cases hkn : k < n
      · obtain ⟨blk, off, rfl, h1, h2, h3⟩ := (hA.below hb (by omega)) (by omega)
        obtain ⟨blk', off', rfl, h1', h2', h3'⟩ := (hA'.below hb (by omega)) (by omega)
        have c0 : wr.cell? ⟨blk, off + k * 3, none⟩ = some (.string (f0 k)) := h3 k 0 hkn (by omega)
        have c1 : wr.cell? ⟨blk, off + k * 3 + 1, none⟩ = some (.int .i64 (f1 k)) := h3 k 1 hkn (by omega)
        have c2 : wr.cell? ⟨blk, off + k * 3 + 2, none⟩ = some (.string (f2 k)) := h3 k 2 hkn (by omega)
        have e0 : wr.cell? ⟨blk', off' + k * 3, none⟩ = some (.string (f0' k)) := h3' k 0 hkn (by omega)
        have e1 : wr.cell? ⟨blk', off' + k * 3 + 1, none⟩ = some (.int .i64 (f1' k)) := h3' k 1 hkn (by omega)
        have e2 : wr.cell? ⟨blk', off' + k * 3 + 2, none⟩ = some (.string (f2' k)) := h3' k 2 hkn (by omega)
        have g1 : blk < wr.heap.size := by omega
        have g2 : blk' < wr.heap.size := by omega
        clear h3 hA h3' hA'
        cases he : sisE (f0 k) (f1 k) (f2 k) (f0' k) (f1' k) (f2' k) with
        | false =>
          have HF : Hid (sisL f0 f1 f2 f0' f1' f2' n n = false) := by
            show sisL f0 f1 f2 f0' f1' f2' n n = false
            rw [sisL, allB_false hkn he]; simp
          go_wp2_with fail
          (refine wp_region_below_lit (by kernel_rfl) (by kernel_rfl) ?_; (repeat (first | go_big_quiet_step ((go_at_call 22; exact quiet_ov (eqMessage_any _ _ _ _ _ _ _))) | quiet_step ((go_at_call 22; exact quiet_ov (eqMessage_any _ _ _ _ _ _ _))))); refine wpQuiet_nil ?_; intro w1 hb1; have hz1 := hb1.size; (try (simp at hz1)); obtain ⟨hcw1, hfw1⟩ := bcell hb1; (try (have hy1 : w.heap.size < w1.heap.size := by omega)); (try (have hyy1 : w.heap.size + 1 < w1.heap.size := by omega)))
          go_wp2
          go_ret
          exact ⟨ret_bool HF.out.symm, (by repeat (first | (with_reducible exact Below.refl _ _) | (with_reducible refine below_ov ?_ ?_) | (with_reducible refine Below.setCell ?_ ?_ _) | (with_reducible refine Below.alloc ?_ ?_ _) | (with_reducible refine Below.drew ?_) | (with_reducible refine below_drewN ?_ _) | (refine Below.trans ?_ (Below.mono ‹Below _ _ _› (by first | omega | (simp; done) | (simp; omega)))) | exact Below.refl _ _ | omega | (focus (simp; done)) | (focus (simp; omega))))⟩
        | true =>
          have HG := hide he
          go_wp2_with fail
          (refine wp_region_below_lit (by kernel_rfl) (by kernel_rfl) ?_; (repeat (first | go_big_quiet_step ((go_at_call 22; exact quiet_ov (eqMessage_any _ _ _ _ _ _ _))) | quiet_step ((go_at_call 22; exact quiet_ov (eqMessage_any _ _ _ _ _ _ _))))); refine wpQuiet_nil ?_; intro w1 hb1; have hz1 := hb1.size; (try (simp at hz1)); obtain ⟨hcw1, hfw1⟩ := bcell hb1; (try (have hy1 : w.heap.size < w1.heap.size := by omega)); (try (have hyy1 : w.heap.size + 1 < w1.heap.size := by omega)))
          go_wp2
          go_roundw
          case rel => exact ⟨k + 1, by omega, by go_num, upto_snoc hj.out HG.out, (by repeat (first | (with_reducible exact Below.refl _ _) | (with_reducible refine below_ov ?_ ?_) | (with_reducible refine Below.setCell ?_ ?_ _) | (with_reducible refine Below.alloc ?_ ?_ _) | (with_reducible refine Below.drew ?_) | (with_reducible refine below_drewN ?_ _) | (refine Below.trans ?_ (Below.mono ‹Below _ _ _› (by first | omega | (simp; done) | (simp; omega)))) | exact Below.refl _ _ | omega | (focus (simp; done)) | (focus (simp; omega))))⟩
          case measure => simp [intOf]; omega
      · obtain rfl : k = n := by omega
        have HE : Hid (sisL f0 f1 f2 f0' f1' f2' k k = true) := by
          show sisL f0 f1 f2 f0' f1' f2' k k = true
          rw [sisL, allB_iff.2 hj.out]; simp
        go_wp2_with fail
        go_ret
        exact ⟨ret_bool HE.out.symm, hb⟩
  · have hne : ((n : Int) != (n' : Int)) = true := by rw [bne_iff_ne]; omega
    go_enter Try.func8, Try.ntmps8
    go_wp2_with fail
    go_ret
    exact ⟨ret_bool (by simp [sisL, hnn]), Below.refl _ _⟩

end Go.Proofs.Ytkikjneamjmdlaa
