/-
  Walks: lists of checks: the reference's, copies, comparisons, sizes; the exported AreChecks.
-/
import Derived.Test.YtkmbeemgejoncaaWChk
import Derived.Test.YtkmbeemgejoncaaOwn
namespace Go.Proofs.Ytkmbeemgejoncaa
set_option linter.unusedVariables false
set_option linter.unusedSimpArgs false
open Go.RowKit

set_option maxRecDepth 100000 in
set_option maxHeartbeats 1600000 in
theorem cyChecks_any (m b : Nat → Int) (n lo hi : Nat) (v : Value) (w : World) (hv : Sl w lo hi 2 v n (chkC m b)) (hhi : hi ≤ w.heap.size) (hn : n ≤ 4611686018427387904) :
    Calls Try.prog 63 #[v] w fun e w' => e = .returned (.bool (chkB m b n)) ∧ Below w.heap.size w w' := by
  obtain ⟨A, cap, rfl, hcap, hA⟩ := hv.open_
  clear hv
  go_enter Try.func63, Try.ntmps63
  go_wp2_with fail
  go_loopw [7] (fun i wr => ∃ k : Nat, k ≤ n ∧ i = .int .i64 k ∧ Hid (∀ j, j < k → chk1 m b j = true) ∧ Below w.heap.size w wr) (fun i _ => n - (intOf i).toNat)
  case atStart => exact ⟨0, by omega, rfl, fun j hj => by omega, Below.refl _ _⟩
  case round =>
    obtain ⟨k, hk, rfl, hj, hb⟩ := hrel
    have hzr := hb.size
    by_cases hlt : k < n
    · obtain ⟨blk, off, rfl, h1, h2, h3⟩ := (hA.below hb (by omega)) (by omega)
      have c0 : wr.cell? ⟨blk, off + k * 2, none⟩ = some (.int .i64 (m k)) := h3 k 0 hlt (by omega)
      have c1 : wr.cell? ⟨blk, off + k * 2 + 1, none⟩ = some (.int .i64 (b k)) := h3 k 1 hlt (by omega)
      have H3 := hide h3
      clear h3 hA
      have hbw : blk < wr.heap.size := by omega
      cases hc1_0 : inB (m k) 0 600 with
      | false =>
        have HF := hide (chkB_no (m := m) (b := b) hlt (by simp [chk1, *]))
        go_wp2_with fail
        go_quiet ((first | (go_at_call 68; exact quiet_left (cyMinutes_any _ _)) | (go_at_call 57; exact quiet_left (cyBar_any _ _))))
        go_wp2
        go_ret
        exact ⟨ret_bool HF.out.symm, (by repeat (first | exact Below.refl _ _ | (refine Below.trans ?_ (Below.mono ‹Below _ _ _› (by first | omega | (simp; done) | (simp; omega)))) | (refine Below.alloc ?_ (by first | omega | (simp; done) | (simp; omega)) _) | (refine below_drewN ?_ _) | (refine Below.drew ?_) | (refine Below.setCell ?_ (by first | omega | (simp; done) | (simp; omega)) _)))⟩
      | true =>
        obtain ⟨hc1_0l, hc1_0r⟩ := inB_iff.1 hc1_0
        cases hc1_1 : inB (b k) 0 330 with
        | false =>
          have HF := hide (chkB_no (m := m) (b := b) hlt (by simp [chk1, *]))
          go_wp2_with fail
          go_quiet ((first | (go_at_call 68; exact quiet_left (cyMinutes_any _ _)) | (go_at_call 57; exact quiet_left (cyBar_any _ _))))
          go_wp2
          go_ret
          exact ⟨ret_bool HF.out.symm, (by repeat (first | exact Below.refl _ _ | (refine Below.trans ?_ (Below.mono ‹Below _ _ _› (by first | omega | (simp; done) | (simp; omega)))) | (refine Below.alloc ?_ (by first | omega | (simp; done) | (simp; omega)) _) | (refine below_drewN ?_ _) | (refine Below.drew ?_) | (refine Below.setCell ?_ (by first | omega | (simp; done) | (simp; omega)) _)))⟩
        | true =>
          obtain ⟨hc1_1l, hc1_1r⟩ := inB_iff.1 hc1_1
          rcases Nat.eq_zero_or_pos k with hk0 | hk0
          · have d0 : decide (0 < k) = false := by simp; omega
            have dk : decide (k = 0) = true := by simp; omega
            clear hk0
            have HG : Hid (chk1 m b k = true) := by show chk1 m b k = true; simp only [chk1, *]; simp
            clear dk
            go_wp2_with fail
            go_quiet ((first | (go_at_call 68; exact quiet_left (cyMinutes_any _ _)) | (go_at_call 57; exact quiet_left (cyBar_any _ _))))
            go_wp2
            go_roundw
            case rel => exact ⟨k + 1, by omega, by go_num, upto_snoc hj.out HG.out, (by repeat (first | exact Below.refl _ _ | (refine Below.trans ?_ (Below.mono ‹Below _ _ _› (by first | omega | (simp; done) | (simp; omega)))) | (refine Below.alloc ?_ (by first | omega | (simp; done) | (simp; omega)) _) | (refine below_drewN ?_ _) | (refine Below.drew ?_) | (refine Below.setCell ?_ (by first | omega | (simp; done) | (simp; omega)) _)))⟩
            case measure => simp [intOf]; omega
          · have d0 : decide (0 < k) = true := by simp; omega
            have p0 : wr.cell? ⟨blk, off + (k - 1) * 2, none⟩ = some (.int .i64 (m (k - 1))) := H3.out (k - 1) 0 (by omega) (by omega)
            have p1 : wr.cell? ⟨blk, off + (k - 1) * 2 + 1, none⟩ = some (.int .i64 (b (k - 1))) := H3.out (k - 1) 1 (by omega) (by omega)
            have dk : decide (k = 0) = false := by simp; omega
            cases d1 : decide (m (k - 1) ≥ m k) with
            | true =>
              have d1' : decide (m k ≤ m (k - 1)) = true := d1
              have HF := hide (chkB_no (m := m) (b := b) hlt (by simp [chk1, *]))
              clear dk
              go_wp2_with fail
              go_quiet ((first | (go_at_call 68; exact quiet_left (cyMinutes_any _ _)) | (go_at_call 57; exact quiet_left (cyBar_any _ _))))
              go_wp2
              go_ret
              exact ⟨ret_bool HF.out.symm, (by repeat (first | exact Below.refl _ _ | (refine Below.trans ?_ (Below.mono ‹Below _ _ _› (by first | omega | (simp; done) | (simp; omega)))) | (refine Below.alloc ?_ (by first | omega | (simp; done) | (simp; omega)) _) | (refine below_drewN ?_ _) | (refine Below.drew ?_) | (refine Below.setCell ?_ (by first | omega | (simp; done) | (simp; omega)) _)))⟩
            | false =>
              have d1' : decide (m k ≤ m (k - 1)) = false := d1
              cases d2 : decide (b (k - 1) < b k) with
              | true =>
                have HF := hide (chkB_no (m := m) (b := b) hlt (by simp [chk1, *]))
                clear dk
                go_wp2_with fail
                go_quiet ((first | (go_at_call 68; exact quiet_left (cyMinutes_any _ _)) | (go_at_call 57; exact quiet_left (cyBar_any _ _))))
                go_wp2
                go_ret
                exact ⟨ret_bool HF.out.symm, (by repeat (first | exact Below.refl _ _ | (refine Below.trans ?_ (Below.mono ‹Below _ _ _› (by first | omega | (simp; done) | (simp; omega)))) | (refine Below.alloc ?_ (by first | omega | (simp; done) | (simp; omega)) _) | (refine below_drewN ?_ _) | (refine Below.drew ?_) | (refine Below.setCell ?_ (by first | omega | (simp; done) | (simp; omega)) _)))⟩
              | false =>
                have HG : Hid (chk1 m b k = true) := by show chk1 m b k = true; simp only [chk1, *]; simp
                clear dk
                go_wp2_with fail
                go_quiet ((first | (go_at_call 68; exact quiet_left (cyMinutes_any _ _)) | (go_at_call 57; exact quiet_left (cyBar_any _ _))))
                go_wp2
                go_roundw
                case rel => exact ⟨k + 1, by omega, by go_num, upto_snoc hj.out HG.out, (by repeat (first | exact Below.refl _ _ | (refine Below.trans ?_ (Below.mono ‹Below _ _ _› (by first | omega | (simp; done) | (simp; omega)))) | (refine Below.alloc ?_ (by first | omega | (simp; done) | (simp; omega)) _) | (refine below_drewN ?_ _) | (refine Below.drew ?_) | (refine Below.setCell ?_ (by first | omega | (simp; done) | (simp; omega)) _)))⟩
                case measure => simp [intOf]; omega
    · obtain rfl : k = n := by omega
      have HE : Hid (allB (chk1 m b) k = true) := allB_iff.2 hj.out
      go_wp2_with (go_at_call 58; refine (l1In_any _ _ _ _).mono ?_; rintro e w' ⟨rfl, rfl⟩)
      go_ret
      exact ⟨ret_bool (by rw [chkB, HE.out]; rfl), hb⟩

/-- What is left of a budget. -/
def leftF (left : Int) (n : Nat) : Int := if left < n then -1 else left - n
set_option maxHeartbeats 800000 in
theorem szCheckS_any (A : Option Addr) (n cap : Nat) (left : Int) (w : World) (hl : 0 ≤ left) (hl' : left ≤ 1048576) (hn : n ≤ 9223372036854775807) :
    Calls Try.prog 23 #[.slice A n cap, .int .i64 left] w fun e w' => e = .returned (.int .i64 (leftF left n)) ∧ w = w' := by
  by_cases h : left < n
  · have hd : decide (left - (n : Int) < 0) = true := by simp; omega
    go_enter Try.func23, Try.ntmps23
    go_wp2_with fail
    go_ret
    exact ⟨ret_int (by rw [leftF, if_pos h]), rfl⟩
  · have hd : decide (left - (n : Int) < 0) = false := by simp; omega
    go_enter Try.func23, Try.ntmps23
    go_wp2_with fail
    go_ret
    exact ⟨ret_int (by rw [leftF, if_neg (by omega)]), rfl⟩
set_option maxHeartbeats 400000 in
theorem toCheck_any (a b : Int) (w : World) :
    Calls Try.prog 64 #[.agg #[.int .i64 a, .int .i64 b]] w fun e w' => e = .returned (.agg #[.int .i64 a, .int .i64 b]) ∧ Below w.heap.size w w' := by
  go_enter Try.func64, Try.ntmps64
  go_wp2_with fail
  refine bodyPost_ret (v := .agg #[.int .i64 a, .int .i64 b]) (by simp [results, Try.results64, go_sem]) rfl ⟨rfl, ?_⟩
  exact (by repeat (first | exact Below.refl _ _ | (refine Below.trans ?_ (Below.mono ‹Below _ _ _› (by first | omega | (simp; done) | (simp; omega)))) | (refine Below.alloc ?_ (by first | omega | (simp; done) | (simp; omega)) _) | (refine below_drewN ?_ _) | (refine Below.drew ?_) | (refine Below.setCell ?_ (by first | omega | (simp; done) | (simp; omega)) _)))
theorem checkInfo : (Try.prog.info? 77).map (fun i => (i.zero, i.size, i.bytes)) = some (some (.agg #[.int .i64 0, .int .i64 0]), 2, 16) := by kernel_rfl
set_option maxRecDepth 100000 in
set_option maxHeartbeats 1600000 in
theorem toCheckS_any (m b : Nat → Int) (n lo hi : Nat) (v : Value) (w : World) (hv : Sl w lo hi 2 v n (chkC m b)) (hhi : hi ≤ w.heap.size) (hn : n ≤ 1048576) :
    Calls Try.prog 25 #[v] w fun e w' => ∃ v', e = .returned v' ∧ Own w' w.heap.size w'.heap.size 77 2 v' n n (chkC m b) ∧ Below w.heap.size w w' := by
  obtain ⟨A, cap, rfl, hcap, hA⟩ := hv.open_
  clear hv
  obtain ⟨i0, hi0, hz0, hz1, hz2⟩ := info_parts checkInfo
  go_enter Try.func25, Try.ntmps25
  go_wp2_with (at_make; refine wpList_make_full _ rfl (.tmp 6) (.tmp 6) 35 rfl w.heap.size 77 i0 _ 2 Try.underlying35 hi0 hz0 hz1 .i64 .i64 n n n rfl rfl rfl rfl (by rw [hz2]; omega) (by unfold maxLen; omega) (Nat.le_refl _) ?_; intro w1 hown1 hg1)
  have hlt1 : w.heap.size < w1.heap.size := (hown1.lt _ rfl).2
  have hb1 : Below w.heap.size w w1 := (Below.refl _ _).grown hg1 (Nat.le_refl _) (fun k h => by cases h)
  have ho1 : Own w1 w.heap.size (w.heap.size + 1) 77 2 (.slice (some ⟨w.heap.size, 0, none⟩) n n) n 0 (chkC m b) := ⟨_, hown1, fun g hg => by cases hg; exact Nat.lt_succ_self _, fun i j h => absurd h (by omega)⟩
  clear hown1 hg1
  go_loopw [4] (fun i wr => ∃ k : Nat, k ≤ n ∧ i = .int .i64 k ∧ Own wr w.heap.size (w.heap.size + 1) 77 2 (.slice (some ⟨w.heap.size, 0, none⟩) n n) n k (chkC m b) ∧ Below w.heap.size w wr ∧ w.heap.size < wr.heap.size) (fun i _ => n - (intOf i).toNat)
  case atStart => exact ⟨0, by omega, rfl, ho1, hb1, hlt1⟩
  case round =>
    obtain ⟨k, hk, rfl, ho, hb, hlt⟩ := hrel
    by_cases hkn : k < n
    · obtain ⟨blk, off, rfl, h1, h2, h3⟩ := (hA.below hb (by omega)) (by omega)
      have c0 : wr.cell? ⟨blk, off + k * 2, none⟩ = some (.int .i64 (m k)) := h3 k 0 hkn (by omega)
      have c1 : wr.cell? ⟨blk, off + k * 2 + 1, none⟩ = some (.int .i64 (b k)) := h3 k 1 hkn (by omega)
      clear h3 hA
      go_wp2_with (go_at_call 64; refine (toCheck_any _ _ _).mono ?_; rintro e w2 ⟨rfl, hb2⟩; have ho2 := ho.below hb2 (by omega); obtain ⟨u0, hu0⟩ := ho2.has (o := k * 2) (by omega); obtain ⟨u1, hu1⟩ := ho2.has (o := k * 2 + 1) (by omega); have f0 := ho2.free (k * 2); have f1 := ho2.free (k * 2 + 1); have hz2 := hb2.size)
      go_roundw
      case rel => exact ⟨k + 1, by omega, by go_num, ho2.store2 hkn, (by repeat (first | exact Below.refl _ _ | (refine Below.trans ?_ (Below.mono ‹Below _ _ _› (by first | omega | (simp; done) | (simp; omega)))) | (refine Below.alloc ?_ (by first | omega | (simp; done) | (simp; omega)) _) | (refine below_drewN ?_ _) | (refine Below.drew ?_) | (refine Below.setCell ?_ (by first | omega | (simp; done) | (simp; omega)) _))), by simp; omega⟩
      case measure => simp [intOf]; omega
    · obtain rfl : k = n := by omega
      go_wp2_with fail
      go_ret
      exact ⟨_, rfl, ho.mono (Nat.le_refl _) (by omega), hb⟩
def eq2 (a b c d : Int) : Bool := a == c && b == d
theorem eq2_iff {a b c d : Int} : eq2 a b c d = true ↔ a = c ∧ b = d := by simp [eq2]
set_option maxHeartbeats 400000 in
theorem eqCheck_any (a b c d : Int) (w : World) :
    Calls Try.prog 66 #[.agg #[.int .i64 a, .int .i64 b], .agg #[.int .i64 c, .int .i64 d]] w fun e w' => e = .returned (.bool (eq2 a b c d)) ∧ Below w.heap.size w w' := by
  go_enter Try.func66, Try.ntmps66
  go_wp2_with fail
  all_goals go_ret
  all_goals refine ⟨ret_bool ?_, (by repeat (first | exact Below.refl _ _ | (refine Below.trans ?_ (Below.mono ‹Below _ _ _› (by first | omega | (simp; done) | (simp; omega)))) | (refine Below.alloc ?_ (by first | omega | (simp; done) | (simp; omega)) _) | (refine below_drewN ?_ _) | (refine Below.drew ?_) | (refine Below.setCell ?_ (by first | omega | (simp; done) | (simp; omega)) _)))⟩
  all_goals simp_all [eq2]
/-- Two lists of two integers each are the same. -/
def eqL2 (m b m' b' : Nat → Int) (n n' : Nat) : Bool := decide (n = n') && allB (fun i => eq2 (m i) (b i) (m' i) (b' i)) n
set_option maxRecDepth 100000 in
set_option maxHeartbeats 1600000 in
theorem eqCheckS_any (m b m' b' : Nat → Int) (n n' lo hi lo' hi' : Nat) (v v' : Value) (w : World) (hv : Sl w lo hi 2 v n (chkC m b)) (hv' : Sl w lo' hi' 2 v' n' (chkC m' b')) (hhi : hi ≤ w.heap.size) (hhi' : hi' ≤ w.heap.size) (hn : n ≤ 4611686018427387904) (hn' : n' ≤ 4611686018427387904) :
    Calls Try.prog 27 #[v, v'] w fun e w' => e = .returned (.bool (eqL2 m b m' b' n n')) ∧ Below w.heap.size w w' := by
  obtain ⟨A, cap, rfl, hcap, hA⟩ := hv.open_
  obtain ⟨A', cap', rfl, hcap', hA'⟩ := hv'.open_
  clear hv hv'
  by_cases hnn : n = n'
  · subst hnn
    go_enter Try.func27, Try.ntmps27
    go_wp2_with fail
    go_loopw [5] (fun i wr => ∃ k : Nat, k ≤ n ∧ i = .int .i64 k ∧ Hid (∀ j, j < k → eq2 (m j) (b j) (m' j) (b' j) = true) ∧ Below w.heap.size w wr) (fun i _ => n - (intOf i).toNat)
    case atStart => exact ⟨0, by omega, rfl, fun j hj => by omega, Below.refl _ _⟩
    case round =>
      obtain ⟨k, hk, rfl, hj, hb⟩ := hrel
      have hzr := hb.size
      by_cases hkn : k < n
      · obtain ⟨blk, off, rfl, h1, h2, h3⟩ := (hA.below hb (by omega)) (by omega)
        obtain ⟨blk', off', rfl, h1', h2', h3'⟩ := (hA'.below hb (by omega)) (by omega)
        have c0 : wr.cell? ⟨blk, off + k * 2, none⟩ = some (.int .i64 (m k)) := h3 k 0 hkn (by omega)
        have c1 : wr.cell? ⟨blk, off + k * 2 + 1, none⟩ = some (.int .i64 (b k)) := h3 k 1 hkn (by omega)
        have e0 : wr.cell? ⟨blk', off' + k * 2, none⟩ = some (.int .i64 (m' k)) := h3' k 0 hkn (by omega)
        have e1 : wr.cell? ⟨blk', off' + k * 2 + 1, none⟩ = some (.int .i64 (b' k)) := h3' k 1 hkn (by omega)
        have g1 : blk < wr.heap.size := by omega
        have g2 : blk' < wr.heap.size := by omega
        clear h3 hA h3' hA'
        cases he : eq2 (m k) (b k) (m' k) (b' k) with
        | false =>
          have HF : Hid (eqL2 m b m' b' n n = false) := by
            show eqL2 m b m' b' n n = false
            rw [eqL2, allB_false hkn he]; simp
          go_wp2_with fail
          (refine wp_region_below_lit (by kernel_rfl) (by kernel_rfl) ?_; (repeat (first | go_big_quiet_step ((go_at_call 66; exact quiet_ov (eqCheck_any _ _ _ _ _))) | quiet_step ((go_at_call 66; exact quiet_ov (eqCheck_any _ _ _ _ _))))); refine wpQuiet_nil ?_; intro w1 hb1; have hz1 := hb1.size; (try (simp at hz1)); obtain ⟨hcw1, hfw1⟩ := bcell hb1; (try (have hy1 : w.heap.size < w1.heap.size := by omega)); (try (have hyy1 : w.heap.size + 1 < w1.heap.size := by omega)))
          go_wp2
          go_ret
          exact ⟨ret_bool HF.out.symm, (by repeat (first | exact Below.refl _ _ | (refine Below.trans ?_ (Below.mono ‹Below _ _ _› (by first | omega | (simp; done) | (simp; omega)))) | (refine Below.alloc ?_ (by first | omega | (simp; done) | (simp; omega)) _) | (refine below_drewN ?_ _) | (refine Below.drew ?_) | (refine Below.setCell ?_ (by first | omega | (simp; done) | (simp; omega)) _)))⟩
        | true =>
          have HG := hide he
          go_wp2_with fail
          (refine wp_region_below_lit (by kernel_rfl) (by kernel_rfl) ?_; (repeat (first | go_big_quiet_step ((go_at_call 66; exact quiet_ov (eqCheck_any _ _ _ _ _))) | quiet_step ((go_at_call 66; exact quiet_ov (eqCheck_any _ _ _ _ _))))); refine wpQuiet_nil ?_; intro w1 hb1; have hz1 := hb1.size; (try (simp at hz1)); obtain ⟨hcw1, hfw1⟩ := bcell hb1; (try (have hy1 : w.heap.size < w1.heap.size := by omega)); (try (have hyy1 : w.heap.size + 1 < w1.heap.size := by omega)))
          go_wp2
          go_roundw
          case rel => exact ⟨k + 1, by omega, by go_num, upto_snoc hj.out HG.out, (by repeat (first | exact Below.refl _ _ | (refine Below.trans ?_ (Below.mono ‹Below _ _ _› (by first | omega | (simp; done) | (simp; omega)))) | (refine Below.alloc ?_ (by first | omega | (simp; done) | (simp; omega)) _) | (refine below_drewN ?_ _) | (refine Below.drew ?_) | (refine Below.setCell ?_ (by first | omega | (simp; done) | (simp; omega)) _)))⟩
          case measure => simp [intOf]; omega
      · obtain rfl : k = n := by omega
        have HE : Hid (eqL2 m b m' b' k k = true) := by
          show eqL2 m b m' b' k k = true
          rw [eqL2, allB_iff.2 hj.out]; simp
        go_wp2_with fail
        go_ret
        exact ⟨ret_bool HE.out.symm, hb⟩
  · have hne : ((n : Int) != (n' : Int)) = true := by rw [bne_iff_ne]; omega
    go_enter Try.func27, Try.ntmps27
    go_wp2_with fail
    go_ret
    exact ⟨ret_bool (by simp [eqL2, hnn]), Below.refl _ _⟩

set_option maxHeartbeats 400000 in
theorem AreChecks_impl (m b : Nat → Int) (n lo hi : Nat) (v : Value) (w : World) (hv : Sl w lo hi 2 v n (chkC m b)) (hhi : hi ≤ w.heap.size) (hn : n ≤ 4611686018427387904) :
    Calls Try.prog 26 #[v] w fun e w' => e = .returned (.bool (chkB m b n)) ∧ Below w.heap.size w w' := by
  go_enter Try.func26, Try.ntmps26
  go_wp2_with (go_at_call 65; refine (areChecks_any _ _ _ _ _ _ _ hv hhi hn).mono ?_; rintro e w1 ⟨rfl, hb1⟩; have hz1 := hb1.size; (try (simp at hz1)); obtain ⟨hcw1, hfw1⟩ := bcell hb1; (try (have hy1 : w.heap.size < w1.heap.size := by omega)); (try (have hyy1 : w.heap.size + 1 < w1.heap.size := by omega)); (try (have hyyy1 : w.heap.size + 1 + 1 < w1.heap.size := by omega)))
  go_ret
  exact ⟨rfl, (by repeat (first | exact Below.refl _ _ | (refine Below.trans ?_ (Below.mono ‹Below _ _ _› (by first | omega | (simp; done) | (simp; omega)))) | (refine Below.alloc ?_ (by first | omega | (simp; done) | (simp; omega)) _) | (refine below_drewN ?_ _) | (refine Below.drew ?_) | (refine Below.setCell ?_ (by first | omega | (simp; done) | (simp; omega)) _)))⟩
set_option maxHeartbeats 400000 in
theorem AreChecks_spec (m b : Nat → Int) (n lo hi : Nat) (v : Value) (w : World) (hv : Sl w lo hi 2 v n (chkC m b)) (hhi : hi ≤ w.heap.size) (hn : n ≤ 4611686018427387904) :
    Calls Try.prog 24 #[v] w fun e w' => e = .returned (.bool (chkB m b n)) ∧ Below w.heap.size w w' := by
  go_enter Try.func24, Try.ntmps24
  go_wp2_with (go_at_call 63; refine (cyChecks_any _ _ _ _ _ _ _ hv hhi hn).mono ?_; rintro e w1 ⟨rfl, hb1⟩; have hz1 := hb1.size; (try (simp at hz1)); obtain ⟨hcw1, hfw1⟩ := bcell hb1; (try (have hy1 : w.heap.size < w1.heap.size := by omega)); (try (have hyy1 : w.heap.size + 1 < w1.heap.size := by omega)); (try (have hyyy1 : w.heap.size + 1 + 1 < w1.heap.size := by omega)))
  go_ret
  exact ⟨rfl, (by repeat (first | exact Below.refl _ _ | (refine Below.trans ?_ (Below.mono ‹Below _ _ _› (by first | omega | (simp; done) | (simp; omega)))) | (refine Below.alloc ?_ (by first | omega | (simp; done) | (simp; omega)) _) | (refine below_drewN ?_ _) | (refine Below.drew ?_) | (refine Below.setCell ?_ (by first | omega | (simp; done) | (simp; omega)) _)))⟩

end Go.Proofs.Ytkmbeemgejoncaa
