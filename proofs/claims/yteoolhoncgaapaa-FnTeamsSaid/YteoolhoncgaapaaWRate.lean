/-
  Walks: the greatest rate between neighbouring checks.
-/
import Derived.Test.YteoolhoncgaapaaWChk2
namespace Go.Proofs.Yteoolhoncgaapaa
set_option linter.unusedVariables false
set_option linter.unusedSimpArgs false
open Go.RowKit

theorem chk_facts {m b : Nat → Int} {n : Nat} (h : chkB m b n = true) : (1 ≤ n ∧ n ≤ 20) ∧ ∀ i, i < n → (0 ≤ m i ∧ m i ≤ 600) ∧ (0 ≤ b i ∧ b i ≤ 330) ∧ (0 < i → m (i - 1) < m i ∧ b i ≤ b (i - 1)) := by
  simp only [chkB, Bool.and_eq_true, inB_iff, allB_iff] at h
  obtain ⟨h1, h2⟩ := h
  refine ⟨by omega, fun i hi => ?_⟩
  have h3 := h1 i hi
  simp only [chk1, Bool.and_eq_true, inB_iff, Bool.or_eq_true, decide_eq_true_eq, Bool.not_eq_true', decide_eq_false_iff_not] at h3
  refine ⟨h3.1.1, h3.1.2, fun h0 => ?_⟩
  rcases h3.2 with h4 | h4 <;> omega

/-- The greatest rate of the first k checks' pairs, at least 1. -/
def wrF (v : Int) (m b : Nat → Int) : Nat → Int
  | 0 => 1
  | k + 1 => if k = 0 then 1 else max (wrF v m b k) (upF (lit v (b (k - 1)) - lit v (b k)) (m k - m (k - 1)))
theorem wr_step {v : Int} {m b : Nat → Int} {n k : Nat} (hv : 10 ≤ v) (hv' : v ≤ 3000) (h : chkB m b n = true) (hk : k < n) (h0 : 0 < k) :
    (0 ≤ lit v (b (k - 1)) - lit v (b k) ∧ lit v (b (k - 1)) - lit v (b k) ≤ 95100) ∧ 1 ≤ m k - m (k - 1) ∧ m k - m (k - 1) ≤ 600 := by
  obtain ⟨_, h1⟩ := chk_facts h
  have a1 := h1 k hk
  have a2 := h1 (k - 1) (by omega)
  have a3 := a1.2.2 h0
  have l1 := lit_bd (v := v) (by omega) hv' a1.2.1.1 a1.2.1.2
  have l2 := lit_bd (v := v) (by omega) hv' a2.2.1.1 a2.2.1.2
  have l3 := lit_mono (v := v) (by omega) a3.2
  omega
theorem wrF_bd {v : Int} {m b : Nat → Int} {n : Nat} (hv : 10 ≤ v) (hv' : v ≤ 3000) (h : chkB m b n = true) : ∀ k, k ≤ n → 1 ≤ wrF v m b k ∧ wrF v m b k ≤ 95100
  | 0, _ => by simp [wrF]
  | k + 1, hk => by
    unfold wrF
    split
    · omega
    · rename_i h0
      have h1 := wrF_bd hv hv' h k (by omega)
      have h2 := wr_step hv hv' h (k := k) (by omega) (by omega)
      have h3 := upF_bd h2.1.1 h2.1.2 h2.2.1
      omega
theorem wrF_one (v : Int) (m b : Nat → Int) : wrF v m b 1 = 1 := by simp [wrF]
theorem wrF_succ {v : Int} {m b : Nat → Int} {k : Nat} (h : 0 < k) : wrF v m b (k + 1) = max (wrF v m b k) (upF (lit v (b (k - 1)) - lit v (b k)) (m k - m (k - 1))) := by
  rw [wrF, if_neg (by omega)]

def wrOk (x : Int) (m b : Nat → Int) (n : Nat) : Bool := decide (2 ≤ n) && inB (wrF x m b n) 1 200
def wrN (x : Int) (m b : Nat → Int) (n : Nat) : Int := if wrOk x m b n = true then wrF x m b n else 0
set_option maxRecDepth 100000 in
set_option maxHeartbeats 1600000 in
theorem worstRate_any (x : Int) (m b : Nat → Int) (n lo hi : Nat) (v : Value) (w : World) (hv : Sl w lo hi 2 v n (iiC m b)) (hhi : hi ≤ w.heap.size) (hx : 10 ≤ x) (hx' : x ≤ 3000) (hc : chkB m b n = true) :
    Calls Try.prog 68 #[.int .i64 x, v] w fun e w' => e = .returned (.tuple #[.int .i64 (wrN x m b n), .bool (wrOk x m b n)]) ∧ Below w.heap.size w w' := by
  obtain ⟨A, cap, rfl, hcap, hA⟩ := hv.open_
  clear hv
  have HC := hide hc
  have hn := (chk_facts hc).1
  clear hc
  go_enter Try.func68, Try.ntmps68
  go_wp2_with fail
  go_loopw [6, 7] (fun wst i wr => ∃ k : Nat, 1 ≤ k ∧ k ≤ n ∧ i = .int .i64 k ∧ wst = .int .i64 (wrF x m b k) ∧ Below w.heap.size w wr) (fun _ i _ => n - (intOf i).toNat)
  case atStart => exact ⟨1, by omega, by omega, rfl, by rw [wrF_one], Below.refl _ _⟩
  case round =>
    obtain ⟨k, hk1, hk, rfl, rfl, hb⟩ := hrel
    have hzr := hb.size
    by_cases hkn : k < n
    · obtain ⟨blk, off, rfl, h1, h2, h3⟩ := (hA.below hb (by omega)) (by omega)
      have c0 : wr.cell? ⟨blk, off + k * 2, none⟩ = some (.int .i64 (m k)) := h3 k 0 hkn (by omega)
      have c1 : wr.cell? ⟨blk, off + k * 2 + 1, none⟩ = some (.int .i64 (b k)) := h3 k 1 hkn (by omega)
      have p0 : wr.cell? ⟨blk, off + (k - 1) * 2, none⟩ = some (.int .i64 (m (k - 1))) := h3 (k - 1) 0 (by omega) (by omega)
      have p1 : wr.cell? ⟨blk, off + (k - 1) * 2 + 1, none⟩ = some (.int .i64 (b (k - 1))) := h3 (k - 1) 1 (by omega) (by omega)
      have g1 : blk < wr.heap.size := by omega
      clear h3 hA
      obtain ⟨q1, q2⟩ := wr_step hx hx' HC.out hkn (by omega)
      have b1 := ((chk_facts HC.out).2 k hkn).2.1
      have b2 := ((chk_facts HC.out).2 (k - 1) (by omega)).2.1
      have b3 := ((chk_facts HC.out).2 k hkn).1
      have b4 := ((chk_facts HC.out).2 (k - 1) (by omega)).1
      go_wp2_with fail
      go_quiet ((go_at_call 48; first | exact quiet_left (litresAt_any _ _ _ (by omega) (by omega) (by omega) (by omega)) | exact quiet_add_left (litresAt_any _ _ _ (by omega) (by omega) (by omega) (by omega))))
      go_wp2_with fail
      go_quiet ((go_at_call 76; first | exact quiet_left (upTo_any _ _ _ (by omega) (by omega) (by omega) (by omega)) | exact quiet_add_left (upTo_any _ _ _ (by omega) (by omega) (by omega) (by omega))))
      go_wp2_with fail
      go_roundw
      case rel => exact ⟨k + 1, by omega, by omega, by go_num, by rw [wrF_succ (by omega)]; congr 1; split <;> omega, (by repeat (first | (with_reducible exact Below.refl _ _) | (with_reducible refine below_ov ?_ ?_) | (with_reducible refine Below.setCell ?_ ?_ _) | (with_reducible refine Below.alloc ?_ ?_ _) | (with_reducible refine Below.drew ?_) | (with_reducible refine below_drewN ?_ _) | (refine Below.trans ?_ (Below.mono ‹Below _ _ _› (by first | omega | (simp; done) | (simp; omega)))) | exact Below.refl _ _ | omega | (focus (simp; done)) | (focus (simp; omega))))⟩
      case measure => simp [intOf]; omega
    · obtain rfl : k = n := by omega
      cases hi2 : inB (wrF x m b k) 1 200 with
      | false =>
        have HF : Hid (wrOk x m b k = false) := by show wrOk x m b k = false; simp [wrOk, hi2]
        rcases Nat.lt_or_ge k 2 with h2 | h2
        · have d2 : decide ((k : Int) < 2) = true := by simp; omega
          go_wp2_with (go_at_call 50; refine (isRate_any _ _).mono ?_; rintro e w' ⟨rfl, rfl⟩)
          go_ret2
          exact ⟨ret_ib (by rw [wrN, HF.out]; rfl) HF.out.symm, hb⟩
        · have d2 : decide ((k : Int) < 2) = false := by simp; omega
          go_wp2_with (go_at_call 50; refine (isRate_any _ _).mono ?_; rintro e w' ⟨rfl, rfl⟩)
          go_ret2
          exact ⟨ret_ib (by rw [wrN, HF.out]; rfl) HF.out.symm, hb⟩
      | true =>
        rcases Nat.lt_or_ge k 2 with h2 | h2
        · have d2 : decide ((k : Int) < 2) = true := by simp; omega
          have HF : Hid (wrOk x m b k = false) := by show wrOk x m b k = false; simp [wrOk]; omega
          go_wp2_with (go_at_call 50; refine (isRate_any _ _).mono ?_; rintro e w' ⟨rfl, rfl⟩)
          go_ret2
          exact ⟨ret_ib (by rw [wrN, HF.out]; rfl) HF.out.symm, hb⟩
        · have d2 : decide ((k : Int) < 2) = false := by simp; omega
          have HF : Hid (wrOk x m b k = true) := by show wrOk x m b k = true; simp [wrOk, hi2]; omega
          go_wp2_with (go_at_call 50; refine (isRate_any _ _).mono ?_; rintro e w' ⟨rfl, rfl⟩)
          go_ret2
          exact ⟨ret_ib (by rw [wrN, HF.out]; rfl) HF.out.symm, hb⟩
set_option maxRecDepth 100000 in
set_option maxHeartbeats 1600000 in
theorem cyWorst_any (x : Int) (m b : Nat → Int) (n lo hi : Nat) (v : Value) (w : World) (hv : Sl w lo hi 2 v n (iiC m b)) (hhi : hi ≤ w.heap.size) (hx : 10 ≤ x) (hx' : x ≤ 3000) (hc : chkB m b n = true) :
    Calls Try.prog 71 #[.int .i64 x, v] w fun e w' => e = .returned (.int .i64 (wrF x m b n)) ∧ Below w.heap.size w w' := by
  obtain ⟨A, cap, rfl, hcap, hA⟩ := hv.open_
  clear hv
  have HC := hide hc
  have hn := (chk_facts hc).1
  clear hc
  go_enter Try.func71, Try.ntmps71
  go_wp2_with fail
  go_loopw [5, 6] (fun wst i wr => ∃ k : Nat, 1 ≤ k ∧ k ≤ n ∧ i = .int .i64 k ∧ wst = .int .i64 (wrF x m b k) ∧ Below w.heap.size w wr) (fun _ i _ => n - (intOf i).toNat)
  case atStart => exact ⟨1, by omega, by omega, rfl, by rw [wrF_one], Below.refl _ _⟩
  case round =>
    obtain ⟨k, hk1, hk, rfl, rfl, hb⟩ := hrel
    have hzr := hb.size
    by_cases hkn : k < n
    · obtain ⟨blk, off, rfl, h1, h2, h3⟩ := (hA.below hb (by omega)) (by omega)
      have c0 : wr.cell? ⟨blk, off + k * 2, none⟩ = some (.int .i64 (m k)) := h3 k 0 hkn (by omega)
      have c1 : wr.cell? ⟨blk, off + k * 2 + 1, none⟩ = some (.int .i64 (b k)) := h3 k 1 hkn (by omega)
      have p0 : wr.cell? ⟨blk, off + (k - 1) * 2, none⟩ = some (.int .i64 (m (k - 1))) := h3 (k - 1) 0 (by omega) (by omega)
      have p1 : wr.cell? ⟨blk, off + (k - 1) * 2 + 1, none⟩ = some (.int .i64 (b (k - 1))) := h3 (k - 1) 1 (by omega) (by omega)
      have g1 : blk < wr.heap.size := by omega
      clear h3 hA
      obtain ⟨q1, q2⟩ := wr_step hx hx' HC.out hkn (by omega)
      have b1 := ((chk_facts HC.out).2 k hkn).2.1
      have b2 := ((chk_facts HC.out).2 (k - 1) (by omega)).2.1
      have b3 := ((chk_facts HC.out).2 k hkn).1
      have b4 := ((chk_facts HC.out).2 (k - 1) (by omega)).1
      have hd0 : (m k - m (k - 1) == 0) = false := by simp; omega
      go_wp2_with fail
      go_quiet ((go_at_call 40; first | exact quiet_left (cyLitres_any _ _ _ (by omega) (by omega) (by omega) (by omega)) | exact quiet_add_left (cyLitres_any _ _ _ (by omega) (by omega) (by omega) (by omega))))
      go_wp2_with fail
      go_quiet (fail)
      go_wp2_with (go_at_call 72; refine (l1Most_any _ _ _).mono ?_; rintro e w' ⟨rfl, rfl⟩)
      go_roundw
      case rel => exact ⟨k + 1, by omega, by omega, by go_num, by rw [wrF_succ (by omega)]; rfl, (by repeat (first | (with_reducible exact Below.refl _ _) | (with_reducible refine below_ov ?_ ?_) | (with_reducible refine Below.setCell ?_ ?_ _) | (with_reducible refine Below.alloc ?_ ?_ _) | (with_reducible refine Below.drew ?_) | (with_reducible refine below_drewN ?_ _) | (refine Below.trans ?_ (Below.mono ‹Below _ _ _› (by first | omega | (simp; done) | (simp; omega)))) | exact Below.refl _ _ | omega | (focus (simp; done)) | (focus (simp; omega))))⟩
      case measure => simp [intOf]; omega
    · obtain rfl : k = n := by omega
      go_wp2_with fail
      go_ret
      exact ⟨rfl, hb⟩
def worstOk (x : Int) (m b : Nat → Int) (n : Nat) : Bool := inB x 10 3000 && chkB m b n && wrOk x m b n
def worstN (x : Int) (m b : Nat → Int) (n : Nat) : Int := if worstOk x m b n = true then wrF x m b n else 0
set_option maxHeartbeats 800000 in
theorem WorstRate_impl (x : Int) (m b : Nat → Int) (n lo hi : Nat) (v : Value) (w : World) (hv : Sl w lo hi 2 v n (iiC m b)) (hhi : hi ≤ w.heap.size) (hn : n ≤ 4611686018427387904) :
    Calls Try.prog 31 #[.int .i64 x, v] w fun e w' => e = .returned (.tuple #[.int .i64 (worstN x m b n), .bool (worstOk x m b n)]) ∧ Below w.heap.size w w' := by
  cases hc1_0 : inB x 10 3000 with
  | false =>
    go_enter Try.func31, Try.ntmps31
    go_wp2_with (first | (go_at_call 46; refine (inside_any _ _ _ _).mono ?_; rintro e w' ⟨rfl, rfl⟩) | (go_at_call 67; refine (areChecks_any _ _ _ _ _ _ _ hv hhi hn).mono ?_; rintro e w1 ⟨rfl, hb1⟩; have hz1 := hb1.size; (try (simp at hz1)); obtain ⟨hcw1, hfw1⟩ := bcell hb1; (try (have hy1 : w.heap.size < w1.heap.size := by omega)); (try (have hyy1 : w.heap.size + 1 < w1.heap.size := by omega)); (try (have hyyy1 : w.heap.size + 1 + 1 < w1.heap.size := by omega))))
    go_ret2
    exact ⟨ret_ib (by simp [worstN, worstOk, *]) (by simp [worstOk, *]), (by repeat (first | (with_reducible exact Below.refl _ _) | (with_reducible refine below_ov ?_ ?_) | (with_reducible refine Below.setCell ?_ ?_ _) | (with_reducible refine Below.alloc ?_ ?_ _) | (with_reducible refine Below.drew ?_) | (with_reducible refine below_drewN ?_ _) | (refine Below.trans ?_ (Below.mono ‹Below _ _ _› (by first | omega | (simp; done) | (simp; omega)))) | exact Below.refl _ _ | omega | (focus (simp; done)) | (focus (simp; omega))))⟩
  | true =>
    obtain ⟨hc1_0l, hc1_0r⟩ := inB_iff.1 hc1_0
    cases hc1_1 : chkB m b n with
    | false =>
      go_enter Try.func31, Try.ntmps31
      go_wp2_with (first | (go_at_call 46; refine (inside_any _ _ _ _).mono ?_; rintro e w' ⟨rfl, rfl⟩) | (go_at_call 67; refine (areChecks_any _ _ _ _ _ _ _ hv hhi hn).mono ?_; rintro e w1 ⟨rfl, hb1⟩; have hz1 := hb1.size; (try (simp at hz1)); obtain ⟨hcw1, hfw1⟩ := bcell hb1; (try (have hy1 : w.heap.size < w1.heap.size := by omega)); (try (have hyy1 : w.heap.size + 1 < w1.heap.size := by omega)); (try (have hyyy1 : w.heap.size + 1 + 1 < w1.heap.size := by omega))))
      go_ret2
      exact ⟨ret_ib (by simp [worstN, worstOk, *]) (by simp [worstOk, *]), (by repeat (first | (with_reducible exact Below.refl _ _) | (with_reducible refine below_ov ?_ ?_) | (with_reducible refine Below.setCell ?_ ?_ _) | (with_reducible refine Below.alloc ?_ ?_ _) | (with_reducible refine Below.drew ?_) | (with_reducible refine below_drewN ?_ _) | (refine Below.trans ?_ (Below.mono ‹Below _ _ _› (by first | omega | (simp; done) | (simp; omega)))) | exact Below.refl _ _ | omega | (focus (simp; done)) | (focus (simp; omega))))⟩
    | true =>
      have HC := hide ‹chkB m b n = true›
      go_enter Try.func31, Try.ntmps31
      go_wp2_with (first | (go_at_call 46; refine (inside_any _ _ _ _).mono ?_; rintro e w' ⟨rfl, rfl⟩) | (go_at_call 67; refine (areChecks_any _ _ _ _ _ _ _ hv hhi hn).mono ?_; rintro e w1 ⟨rfl, hb1⟩; have hz1 := hb1.size; (try (simp at hz1)); obtain ⟨hcw1, hfw1⟩ := bcell hb1; (try (have hy1 : w.heap.size < w1.heap.size := by omega)); (try (have hyy1 : w.heap.size + 1 < w1.heap.size := by omega)); (try (have hyyy1 : w.heap.size + 1 + 1 < w1.heap.size := by omega))) | (go_at_call 68; refine (worstRate_any x m b n lo hi _ _ (hv.below hb1 (by omega)) (by omega) (by omega) (by omega) HC.out).mono ?_; rintro e w2 ⟨rfl, hb2⟩; have hz2 := hb2.size; (try (simp at hz2)); obtain ⟨hcw2, hfw2⟩ := bcell hb2; (try (have hy2 : w.heap.size < w2.heap.size := by omega)); (try (have hyy2 : w.heap.size + 1 < w2.heap.size := by omega)); (try (have hyyy2 : w.heap.size + 1 + 1 < w2.heap.size := by omega))))
      go_ret2
      exact ⟨ret_ib (by simp [worstN, worstOk, wrN, *]) (by simp [worstOk, *]), (by repeat (first | (with_reducible exact Below.refl _ _) | (with_reducible refine below_ov ?_ ?_) | (with_reducible refine Below.setCell ?_ ?_ _) | (with_reducible refine Below.alloc ?_ ?_ _) | (with_reducible refine Below.drew ?_) | (with_reducible refine below_drewN ?_ _) | (refine Below.trans ?_ (Below.mono ‹Below _ _ _› (by first | omega | (simp; done) | (simp; omega)))) | exact Below.refl _ _ | omega | (focus (simp; done)) | (focus (simp; omega))))⟩
set_option maxHeartbeats 800000 in
theorem WorstRate_spec (x : Int) (m b : Nat → Int) (n lo hi : Nat) (v : Value) (w : World) (hv : Sl w lo hi 2 v n (iiC m b)) (hhi : hi ≤ w.heap.size) (hn : n ≤ 4611686018427387904) :
    Calls Try.prog 32 #[.int .i64 x, v] w fun e w' => e = .returned (.tuple #[.int .i64 (worstN x m b n), .bool (worstOk x m b n)]) ∧ Below w.heap.size w w' := by
  obtain ⟨A, cap, rfl, hcap, hA⟩ := hv.open_
  cases hc2_0 : inB x 10 3000 with
  | false =>
    go_enter Try.func32, Try.ntmps32
    go_wp2_with (first | (go_at_call 69; refine (cyVolume_any _ _).mono ?_; rintro e w' ⟨rfl, rfl⟩) | (go_at_call 70; refine (cyChecks_any _ _ _ _ _ _ _ hv hhi hn).mono ?_; rintro e w1 ⟨rfl, hb1⟩; have hz1 := hb1.size; (try (simp at hz1)); obtain ⟨hcw1, hfw1⟩ := bcell hb1; (try (have hy1 : w.heap.size < w1.heap.size := by omega)); (try (have hyy1 : w.heap.size + 1 < w1.heap.size := by omega)); (try (have hyyy1 : w.heap.size + 1 + 1 < w1.heap.size := by omega))))
    go_ret2
    exact ⟨ret_ib (by simp [worstN, worstOk, *]) (by simp [worstOk, *]), (by repeat (first | (with_reducible exact Below.refl _ _) | (with_reducible refine below_ov ?_ ?_) | (with_reducible refine Below.setCell ?_ ?_ _) | (with_reducible refine Below.alloc ?_ ?_ _) | (with_reducible refine Below.drew ?_) | (with_reducible refine below_drewN ?_ _) | (refine Below.trans ?_ (Below.mono ‹Below _ _ _› (by first | omega | (simp; done) | (simp; omega)))) | exact Below.refl _ _ | omega | (focus (simp; done)) | (focus (simp; omega))))⟩
  | true =>
    obtain ⟨hc2_0l, hc2_0r⟩ := inB_iff.1 hc2_0
    cases hc2_1 : chkB m b n with
    | false =>
      go_enter Try.func32, Try.ntmps32
      go_wp2_with (first | (go_at_call 69; refine (cyVolume_any _ _).mono ?_; rintro e w' ⟨rfl, rfl⟩) | (go_at_call 70; refine (cyChecks_any _ _ _ _ _ _ _ hv hhi hn).mono ?_; rintro e w1 ⟨rfl, hb1⟩; have hz1 := hb1.size; (try (simp at hz1)); obtain ⟨hcw1, hfw1⟩ := bcell hb1; (try (have hy1 : w.heap.size < w1.heap.size := by omega)); (try (have hyy1 : w.heap.size + 1 < w1.heap.size := by omega)); (try (have hyyy1 : w.heap.size + 1 + 1 < w1.heap.size := by omega))))
      go_ret2
      exact ⟨ret_ib (by simp [worstN, worstOk, *]) (by simp [worstOk, *]), (by repeat (first | (with_reducible exact Below.refl _ _) | (with_reducible refine below_ov ?_ ?_) | (with_reducible refine Below.setCell ?_ ?_ _) | (with_reducible refine Below.alloc ?_ ?_ _) | (with_reducible refine Below.drew ?_) | (with_reducible refine below_drewN ?_ _) | (refine Below.trans ?_ (Below.mono ‹Below _ _ _› (by first | omega | (simp; done) | (simp; omega)))) | exact Below.refl _ _ | omega | (focus (simp; done)) | (focus (simp; omega))))⟩
    | true =>
      have HC := hide ‹chkB m b n = true›
      have hn2 := (chk_facts HC.out).1
      by_cases h1 : n = 1
      · have he : ((n : Int) == 1) = true := by simp; omega
        have HF : Hid (wrOk x m b n = false) := by show wrOk x m b n = false; simp [wrOk]; omega
        clear h1
        go_enter Try.func32, Try.ntmps32
        go_wp2_with (first | (go_at_call 69; refine (cyVolume_any _ _).mono ?_; rintro e w' ⟨rfl, rfl⟩) | (go_at_call 70; refine (cyChecks_any _ _ _ _ _ _ _ hv hhi hn).mono ?_; rintro e w1 ⟨rfl, hb1⟩; have hz1 := hb1.size; (try (simp at hz1)); obtain ⟨hcw1, hfw1⟩ := bcell hb1; (try (have hy1 : w.heap.size < w1.heap.size := by omega)); (try (have hyy1 : w.heap.size + 1 < w1.heap.size := by omega)); (try (have hyyy1 : w.heap.size + 1 + 1 < w1.heap.size := by omega))))
        go_ret2
        exact ⟨ret_ib (by simp [worstN, worstOk, HF.out]) (by simp [worstOk, HF.out]), (by repeat (first | (with_reducible exact Below.refl _ _) | (with_reducible refine below_ov ?_ ?_) | (with_reducible refine Below.setCell ?_ ?_ _) | (with_reducible refine Below.alloc ?_ ?_ _) | (with_reducible refine Below.drew ?_) | (with_reducible refine below_drewN ?_ _) | (refine Below.trans ?_ (Below.mono ‹Below _ _ _› (by first | omega | (simp; done) | (simp; omega)))) | exact Below.refl _ _ | omega | (focus (simp; done)) | (focus (simp; omega))))⟩
      · have he : ((n : Int) == 1) = false := by simp; omega
        have h2 : decide (2 ≤ n) = true := by simp; omega
        cases hi2 : inB (wrF x m b n) 1 200 with
        | false =>
          have HF : Hid (wrOk x m b n = false) := by show wrOk x m b n = false; simp [wrOk, hi2]
          clear h2
          go_enter Try.func32, Try.ntmps32
          go_wp2_with (first | (go_at_call 69; refine (cyVolume_any _ _).mono ?_; rintro e w' ⟨rfl, rfl⟩) | (go_at_call 70; refine (cyChecks_any _ _ _ _ _ _ _ hv hhi hn).mono ?_; rintro e w1 ⟨rfl, hb1⟩; have hz1 := hb1.size; (try (simp at hz1)); obtain ⟨hcw1, hfw1⟩ := bcell hb1; (try (have hy1 : w.heap.size < w1.heap.size := by omega)); (try (have hyy1 : w.heap.size + 1 < w1.heap.size := by omega)); (try (have hyyy1 : w.heap.size + 1 + 1 < w1.heap.size := by omega))) | (go_at_call 71; refine (cyWorst_any x m b n lo hi _ _ (hv.below hb1 (by omega)) (by omega) (by omega) (by omega) HC.out).mono ?_; rintro e w2 ⟨rfl, hb2⟩; have hz2 := hb2.size; (try (simp at hz2)); obtain ⟨hcw2, hfw2⟩ := bcell hb2; (try (have hy2 : w.heap.size < w2.heap.size := by omega)); (try (have hyy2 : w.heap.size + 1 < w2.heap.size := by omega)); (try (have hyyy2 : w.heap.size + 1 + 1 < w2.heap.size := by omega))) | (go_at_call 58; refine (cyRate_any _ _).mono ?_; rintro e w' ⟨rfl, rfl⟩))
          go_ret2
          exact ⟨ret_ib (by simp [worstN, worstOk, HF.out]) (by simp [worstOk, HF.out]), (by repeat (first | (with_reducible exact Below.refl _ _) | (with_reducible refine below_ov ?_ ?_) | (with_reducible refine Below.setCell ?_ ?_ _) | (with_reducible refine Below.alloc ?_ ?_ _) | (with_reducible refine Below.drew ?_) | (with_reducible refine below_drewN ?_ _) | (refine Below.trans ?_ (Below.mono ‹Below _ _ _› (by first | omega | (simp; done) | (simp; omega)))) | exact Below.refl _ _ | omega | (focus (simp; done)) | (focus (simp; omega))))⟩
        | true =>
          have HF : Hid (wrOk x m b n = true) := by show wrOk x m b n = true; simp [wrOk, hi2, h2]
          clear h2
          go_enter Try.func32, Try.ntmps32
          go_wp2_with (first | (go_at_call 69; refine (cyVolume_any _ _).mono ?_; rintro e w' ⟨rfl, rfl⟩) | (go_at_call 70; refine (cyChecks_any _ _ _ _ _ _ _ hv hhi hn).mono ?_; rintro e w1 ⟨rfl, hb1⟩; have hz1 := hb1.size; (try (simp at hz1)); obtain ⟨hcw1, hfw1⟩ := bcell hb1; (try (have hy1 : w.heap.size < w1.heap.size := by omega)); (try (have hyy1 : w.heap.size + 1 < w1.heap.size := by omega)); (try (have hyyy1 : w.heap.size + 1 + 1 < w1.heap.size := by omega))) | (go_at_call 71; refine (cyWorst_any x m b n lo hi _ _ (hv.below hb1 (by omega)) (by omega) (by omega) (by omega) HC.out).mono ?_; rintro e w2 ⟨rfl, hb2⟩; have hz2 := hb2.size; (try (simp at hz2)); obtain ⟨hcw2, hfw2⟩ := bcell hb2; (try (have hy2 : w.heap.size < w2.heap.size := by omega)); (try (have hyy2 : w.heap.size + 1 < w2.heap.size := by omega)); (try (have hyyy2 : w.heap.size + 1 + 1 < w2.heap.size := by omega))) | (go_at_call 58; refine (cyRate_any _ _).mono ?_; rintro e w' ⟨rfl, rfl⟩))
          go_ret2
          exact ⟨ret_ib (by simp [worstN, worstOk, HF.out, *]) (by simp [worstOk, HF.out, *]), (by repeat (first | (with_reducible exact Below.refl _ _) | (with_reducible refine below_ov ?_ ?_) | (with_reducible refine Below.setCell ?_ ?_ _) | (with_reducible refine Below.alloc ?_ ?_ _) | (with_reducible refine Below.drew ?_) | (with_reducible refine below_drewN ?_ _) | (refine Below.trans ?_ (Below.mono ‹Below _ _ _› (by first | omega | (simp; done) | (simp; omega)))) | exact Below.refl _ _ | omega | (focus (simp; done)) | (focus (simp; omega))))⟩

end Go.Proofs.Yteoolhoncgaapaa
