/-
  Texts of this proof, one behind the other (part 4).
-/
import Derived.Test.YthkddbonmfoaaaaQ3
/-
  Walks: the greatest rate between neighbouring checks.-/
namespace Go.Proofs.Ythkddbonmfoaaaa
set_option linter.unusedVariables false
set_option linter.unusedSimpArgs false
open Go.RowKit

theorem chk_facts {m b : Nat → Int} {n : Nat} (h : chkB m b n = true) : (1 ≤ n ∧ n ≤ 20) ∧ ∀ i, i < n → (0 ≤ m i ∧ m i ≤ 600) ∧ (0 ≤ b i ∧ b i ≤ 330) ∧ (0 < i → m (i - 1) < m i ∧ b i ≤ b (i - 1)) := by
  simp only [chkB, Bool.and_eq_true, inB_iff, allB_iff] at h
  obtain ⟨h1, h2⟩ := h
  refine ⟨by omega, fun i hi => ?_⟩
  have h3 := h1 i hi
  simp only [chk1, Bool.and_eq_true, inB_iff, Bool.or_eq_true, decide_eq_true_eq, Bool.not_eq_true', decide_eq_false_iff_not] at h3
  refine ⟨h3.1.1, h3.1.2, fun h0 => ?_⟩
  rcases h3.2 with h4 | h4 <;> omega

/-- The greatest rate of the first k checks' pairs, at least 1. -/
def wrF (v : Int) (m b : Nat → Int) : Nat → Int
  | 0 => 1
  | k + 1 => if k = 0 then 1 else max (wrF v m b k) (upF (lit v (b (k - 1)) - lit v (b k)) (m k - m (k - 1)))
theorem wr_step {v : Int} {m b : Nat → Int} {n k : Nat} (hv : 10 ≤ v) (hv' : v ≤ 3000) (h : chkB m b n = true) (hk : k < n) (h0 : 0 < k) :
    (0 ≤ lit v (b (k - 1)) - lit v (b k) ∧ lit v (b (k - 1)) - lit v (b k) ≤ 95100) ∧ 1 ≤ m k - m (k - 1) ∧ m k - m (k - 1) ≤ 600 := by
  obtain ⟨_, h1⟩ := chk_facts h
  have a1 := h1 k hk
  have a2 := h1 (k - 1) (by omega)
  have a3 := a1.2.2 h0
  have l1 := lit_bd (v := v) (by omega) hv' a1.2.1.1 a1.2.1.2
  have l2 := lit_bd (v := v) (by omega) hv' a2.2.1.1 a2.2.1.2
  have l3 := lit_mono (v := v) (by omega) a3.2
  omega
theorem wrF_bd {v : Int} {m b : Nat → Int} {n : Nat} (hv : 10 ≤ v) (hv' : v ≤ 3000) (h : chkB m b n = true) : ∀ k, k ≤ n → 1 ≤ wrF v m b k ∧ wrF v m b k ≤ 95100
  | 0, _ => by simp [wrF]
  | k + 1, hk => by
    unfold wrF
    split
    · omega
    · rename_i h0
      have h1 := wrF_bd hv hv' h k (by omega)
      have h2 := wr_step hv hv' h (k := k) (by omega) (by omega)
      have h3 := upF_bd h2.1.1 h2.1.2 h2.2.1
      omega
theorem wrF_one (v : Int) (m b : Nat → Int) : wrF v m b 1 = 1 := by simp [wrF]
theorem wrF_succ {v : Int} {m b : Nat → Int} {k : Nat} (h : 0 < k) : wrF v m b (k + 1) = max (wrF v m b k) (upF (lit v (b (k - 1)) - lit v (b k)) (m k - m (k - 1))) := by
  rw [wrF, if_neg (by omega)]

def wrOk (x : Int) (m b : Nat → Int) (n : Nat) : Bool := decide (2 ≤ n) && inB (wrF x m b n) 1 200
def wrN (x : Int) (m b : Nat → Int) (n : Nat) : Int := if wrOk x m b n = true then wrF x m b n else 0
set_option maxRecDepth 100000 in
set_option maxHeartbeats 1600000 in
theorem worstRate_any (x : Int) (m b : Nat → Int) (n lo hi : Nat) (v : Value) (w : World) (hv : Sl w lo hi 2 v n (iiC m b)) (hhi : hi ≤ w.heap.size) (hx : 10 ≤ x) (hx' : x ≤ 3000) (hc : chkB m b n = true) :
    Calls Try.prog 30 #[.int .i64 x, v] w fun e w' => e = .returned (.tuple #[.int .i64 (wrN x m b n), .bool (wrOk x m b n)]) ∧ Below w.heap.size w w' := by
  obtain ⟨A, cap, rfl, hcap, hA⟩ := hv.open_
  clear hv
  have HC := hide hc
  have hn := (chk_facts hc).1
  clear hc
  go_enter Try.func30, Try.ntmps30
  go_wp2_with fail
  go_loopw [6, 7] (fun wst i wr => ∃ k : Nat, 1 ≤ k ∧ k ≤ n ∧ i = .int .i64 k ∧ wst = .int .i64 (wrF x m b k) ∧ Below w.heap.size w wr) (fun _ i _ => n - (intOf i).toNat)
  case atStart => exact ⟨1, by omega, by omega, rfl, by rw [wrF_one], Below.refl _ _⟩
  case round =>
    obtain ⟨k, hk1, hk, rfl, rfl, hb⟩ := hrel
    have hzr := hb.size
    by_cases hkn : k < n
    · obtain ⟨blk, off, rfl, h1, h2, h3⟩ := (hA.below hb (by omega)) (by omega)
      have c0 : wr.cell? ⟨blk, off + k * 2, none⟩ = some (.int .i64 (m k)) := h3 k 0 hkn (by omega)
      have c1 : wr.cell? ⟨blk, off + k * 2 + 1, none⟩ = some (.int .i64 (b k)) := h3 k 1 hkn (by omega)
      have p0 : wr.cell? ⟨blk, off + (k - 1) * 2, none⟩ = some (.int .i64 (m (k - 1))) := h3 (k - 1) 0 (by omega) (by omega)
      have p1 : wr.cell? ⟨blk, off + (k - 1) * 2 + 1, none⟩ = some (.int .i64 (b (k - 1))) := h3 (k - 1) 1 (by omega) (by omega)
      have g1 : blk < wr.heap.size := by omega
      clear h3 hA
      obtain ⟨q1, q2⟩ := wr_step hx hx' HC.out hkn (by omega)
      have b1 := ((chk_facts HC.out).2 k hkn).2.1
      have b2 := ((chk_facts HC.out).2 (k - 1) (by omega)).2.1
      have b3 := ((chk_facts HC.out).2 k hkn).1
      have b4 := ((chk_facts HC.out).2 (k - 1) (by omega)).1
      go_wp2_with fail
      go_quiet ((go_at_call 60; first | exact quiet_left (litresAt_any _ _ _ (by omega) (by omega) (by omega) (by omega)) | exact quiet_add_left (litresAt_any _ _ _ (by omega) (by omega) (by omega) (by omega))))
      go_wp2_with fail
      go_quiet ((go_at_call 61; first | exact quiet_left (upTo_any _ _ _ (by omega) (by omega) (by omega) (by omega)) | exact quiet_add_left (upTo_any _ _ _ (by omega) (by omega) (by omega) (by omega))))
      go_wp2_with fail
      go_roundw
      case rel => exact ⟨k + 1, by omega, by omega, by go_num, by rw [wrF_succ (by omega)]; congr 1; split <;> omega, (by repeat (first | (with_reducible exact Below.refl _ _) | (with_reducible refine below_ov ?_ ?_) | (with_reducible refine Below.setCell ?_ ?_ _) | (with_reducible refine Below.alloc ?_ ?_ _) | (with_reducible refine Below.drew ?_) | (with_reducible refine below_drewN ?_ _) | (refine Below.trans ?_ (Below.mono ‹Below _ _ _› (by first | omega | (simp; done) | (simp; omega)))) | exact Below.refl _ _ | omega | (focus (simp; done)) | (focus (simp; omega))))⟩
      case measure => simp [intOf]; omega
    · obtain rfl : k = n := by omega
      cases hi2 : inB (wrF x m b k) 1 200 with
      | false =>
        have HF : Hid (wrOk x m b k = false) := by show wrOk x m b k = false; simp [wrOk, hi2]
        rcases Nat.lt_or_ge k 2 with h2 | h2
        · have d2 : decide ((k : Int) < 2) = true := by simp; omega
          go_wp2_with (go_at_call 36; refine (isRate_any _ _).mono ?_; rintro e w' ⟨rfl, rfl⟩)
          go_ret2
          exact ⟨ret_ib (by rw [wrN, HF.out]; rfl) HF.out.symm, hb⟩
        · have d2 : decide ((k : Int) < 2) = false := by simp; omega
          go_wp2_with (go_at_call 36; refine (isRate_any _ _).mono ?_; rintro e w' ⟨rfl, rfl⟩)
          go_ret2
          exact ⟨ret_ib (by rw [wrN, HF.out]; rfl) HF.out.symm, hb⟩
      | true =>
        rcases Nat.lt_or_ge k 2 with h2 | h2
        · have d2 : decide ((k : Int) < 2) = true := by simp; omega
          have HF : Hid (wrOk x m b k = false) := by show wrOk x m b k = false; simp [wrOk]; omega
          go_wp2_with (go_at_call 36; refine (isRate_any _ _).mono ?_; rintro e w' ⟨rfl, rfl⟩)
          go_ret2
          exact ⟨ret_ib (by rw [wrN, HF.out]; rfl) HF.out.symm, hb⟩
        · have d2 : decide ((k : Int) < 2) = false := by simp; omega
          have HF : Hid (wrOk x m b k = true) := by show wrOk x m b k = true; simp [wrOk, hi2]; omega
          go_wp2_with (go_at_call 36; refine (isRate_any _ _).mono ?_; rintro e w' ⟨rfl, rfl⟩)
          go_ret2
          exact ⟨ret_ib (by rw [wrN, HF.out]; rfl) HF.out.symm, hb⟩
set_option maxRecDepth 100000 in
set_option maxHeartbeats 1600000 in
theorem cyWorst_any (x : Int) (m b : Nat → Int) (n lo hi : Nat) (v : Value) (w : World) (hv : Sl w lo hi 2 v n (iiC m b)) (hhi : hi ≤ w.heap.size) (hx : 10 ≤ x) (hx' : x ≤ 3000) (hc : chkB m b n = true) :
    Calls Try.prog 33 #[.int .i64 x, v] w fun e w' => e = .returned (.int .i64 (wrF x m b n)) ∧ Below w.heap.size w w' := by
  obtain ⟨A, cap, rfl, hcap, hA⟩ := hv.open_
  clear hv
  have HC := hide hc
  have hn := (chk_facts hc).1
  clear hc
  go_enter Try.func33, Try.ntmps33
  go_wp2_with fail
  go_loopw [5, 6] (fun wst i wr => ∃ k : Nat, 1 ≤ k ∧ k ≤ n ∧ i = .int .i64 k ∧ wst = .int .i64 (wrF x m b k) ∧ Below w.heap.size w wr) (fun _ i _ => n - (intOf i).toNat)
  case atStart => exact ⟨1, by omega, by omega, rfl, by rw [wrF_one], Below.refl _ _⟩
  case round =>
    obtain ⟨k, hk1, hk, rfl, rfl, hb⟩ := hrel
    have hzr := hb.size
    by_cases hkn : k < n
    · obtain ⟨blk, off, rfl, h1, h2, h3⟩ := (hA.below hb (by omega)) (by omega)
      have c0 : wr.cell? ⟨blk, off + k * 2, none⟩ = some (.int .i64 (m k)) := h3 k 0 hkn (by omega)
      have c1 : wr.cell? ⟨blk, off + k * 2 + 1, none⟩ = some (.int .i64 (b k)) := h3 k 1 hkn (by omega)
      have p0 : wr.cell? ⟨blk, off + (k - 1) * 2, none⟩ = some (.int .i64 (m (k - 1))) := h3 (k - 1) 0 (by omega) (by omega)
      have p1 : wr.cell? ⟨blk, off + (k - 1) * 2 + 1, none⟩ = some (.int .i64 (b (k - 1))) := h3 (k - 1) 1 (by omega) (by omega)
      have g1 : blk < wr.heap.size := by omega
      clear h3 hA
      obtain ⟨q1, q2⟩ := wr_step hx hx' HC.out hkn (by omega)
      have b1 := ((chk_facts HC.out).2 k hkn).2.1
      have b2 := ((chk_facts HC.out).2 (k - 1) (by omega)).2.1
      have b3 := ((chk_facts HC.out).2 k hkn).1
      have b4 := ((chk_facts HC.out).2 (k - 1) (by omega)).1
      have hd0 : (m k - m (k - 1) == 0) = false := by simp; omega
      go_wp2_with fail
      go_quiet ((go_at_call 63; first | exact quiet_left (cyLitres_any _ _ _ (by omega) (by omega) (by omega) (by omega)) | exact quiet_add_left (cyLitres_any _ _ _ (by omega) (by omega) (by omega) (by omega))))
      go_wp2_with fail
      go_quiet (fail)
      go_wp2_with (go_at_call 59; refine (l1Most_any _ _ _).mono ?_; rintro e w' ⟨rfl, rfl⟩)
      go_roundw
      case rel => exact ⟨k + 1, by omega, by omega, by go_num, by rw [wrF_succ (by omega)]; rfl, (by repeat (first | (with_reducible exact Below.refl _ _) | (with_reducible refine below_ov ?_ ?_) | (with_reducible refine Below.setCell ?_ ?_ _) | (with_reducible refine Below.alloc ?_ ?_ _) | (with_reducible refine Below.drew ?_) | (with_reducible refine below_drewN ?_ _) | (refine Below.trans ?_ (Below.mono ‹Below _ _ _› (by first | omega | (simp; done) | (simp; omega)))) | exact Below.refl _ _ | omega | (focus (simp; done)) | (focus (simp; omega))))⟩
      case measure => simp [intOf]; omega
    · obtain rfl : k = n := by omega
      go_wp2_with fail
      go_ret
      exact ⟨rfl, hb⟩
def worstOk (x : Int) (m b : Nat → Int) (n : Nat) : Bool := inB x 10 3000 && chkB m b n && wrOk x m b n
def worstN (x : Int) (m b : Nat → Int) (n : Nat) : Int := if worstOk x m b n = true then wrF x m b n else 0
set_option maxHeartbeats 800000 in
theorem WorstRate_impl (x : Int) (m b : Nat → Int) (n lo hi : Nat) (v : Value) (w : World) (hv : Sl w lo hi 2 v n (iiC m b)) (hhi : hi ≤ w.heap.size) (hn : n ≤ 4611686018427387904) :
    Calls Try.prog 11 #[.int .i64 x, v] w fun e w' => e = .returned (.tuple #[.int .i64 (worstN x m b n), .bool (worstOk x m b n)]) ∧ Below w.heap.size w w' := by
  cases hc1_0 : inB x 10 3000 with
  | false =>
    go_enter Try.func11, Try.ntmps11
    go_wp2_with (first | (go_at_call 28; refine (inside_any _ _ _ _).mono ?_; rintro e w' ⟨rfl, rfl⟩) | (go_at_call 29; refine (areChecks_any _ _ _ _ _ _ _ hv hhi hn).mono ?_; rintro e w1 ⟨rfl, hb1⟩; have hz1 := hb1.size; (try (simp at hz1)); obtain ⟨hcw1, hfw1⟩ := bcell hb1; (try (have hy1 : w.heap.size < w1.heap.size := by omega)); (try (have hyy1 : w.heap.size + 1 < w1.heap.size := by omega)); (try (have hyyy1 : w.heap.size + 1 + 1 < w1.heap.size := by omega))))
    go_ret2
    exact ⟨ret_ib (by simp [worstN, worstOk, *]) (by simp [worstOk, *]), (by repeat (first | (with_reducible exact Below.refl _ _) | (with_reducible refine below_ov ?_ ?_) | (with_reducible refine Below.setCell ?_ ?_ _) | (with_reducible refine Below.alloc ?_ ?_ _) | (with_reducible refine Below.drew ?_) | (with_reducible refine below_drewN ?_ _) | (refine Below.trans ?_ (Below.mono ‹Below _ _ _› (by first | omega | (simp; done) | (simp; omega)))) | exact Below.refl _ _ | omega | (focus (simp; done)) | (focus (simp; omega))))⟩
  | true =>
    obtain ⟨hc1_0l, hc1_0r⟩ := inB_iff.1 hc1_0
    cases hc1_1 : chkB m b n with
    | false =>
      go_enter Try.func11, Try.ntmps11
      go_wp2_with (first | (go_at_call 28; refine (inside_any _ _ _ _).mono ?_; rintro e w' ⟨rfl, rfl⟩) | (go_at_call 29; refine (areChecks_any _ _ _ _ _ _ _ hv hhi hn).mono ?_; rintro e w1 ⟨rfl, hb1⟩; have hz1 := hb1.size; (try (simp at hz1)); obtain ⟨hcw1, hfw1⟩ := bcell hb1; (try (have hy1 : w.heap.size < w1.heap.size := by omega)); (try (have hyy1 : w.heap.size + 1 < w1.heap.size := by omega)); (try (have hyyy1 : w.heap.size + 1 + 1 < w1.heap.size := by omega))))
      go_ret2
      exact ⟨ret_ib (by simp [worstN, worstOk, *]) (by simp [worstOk, *]), (by repeat (first | (with_reducible exact Below.refl _ _) | (with_reducible refine below_ov ?_ ?_) | (with_reducible refine Below.setCell ?_ ?_ _) | (with_reducible refine Below.alloc ?_ ?_ _) | (with_reducible refine Below.drew ?_) | (with_reducible refine below_drewN ?_ _) | (refine Below.trans ?_ (Below.mono ‹Below _ _ _› (by first | omega | (simp; done) | (simp; omega)))) | exact Below.refl _ _ | omega | (focus (simp; done)) | (focus (simp; omega))))⟩
    | true =>
      have HC := hide ‹chkB m b n = true›
      go_enter Try.func11, Try.ntmps11
      go_wp2_with (first | (go_at_call 28; refine (inside_any _ _ _ _).mono ?_; rintro e w' ⟨rfl, rfl⟩) | (go_at_call 29; refine (areChecks_any _ _ _ _ _ _ _ hv hhi hn).mono ?_; rintro e w1 ⟨rfl, hb1⟩; have hz1 := hb1.size; (try (simp at hz1)); obtain ⟨hcw1, hfw1⟩ := bcell hb1; (try (have hy1 : w.heap.size < w1.heap.size := by omega)); (try (have hyy1 : w.heap.size + 1 < w1.heap.size := by omega)); (try (have hyyy1 : w.heap.size + 1 + 1 < w1.heap.size := by omega))) | (go_at_call 30; refine (worstRate_any x m b n lo hi _ _ (hv.below hb1 (by omega)) (by omega) (by omega) (by omega) HC.out).mono ?_; rintro e w2 ⟨rfl, hb2⟩; have hz2 := hb2.size; (try (simp at hz2)); obtain ⟨hcw2, hfw2⟩ := bcell hb2; (try (have hy2 : w.heap.size < w2.heap.size := by omega)); (try (have hyy2 : w.heap.size + 1 < w2.heap.size := by omega)); (try (have hyyy2 : w.heap.size + 1 + 1 < w2.heap.size := by omega))))
      go_ret2
      exact ⟨ret_ib (by simp [worstN, worstOk, wrN, *]) (by simp [worstOk, *]), (by repeat (first | (with_reducible exact Below.refl _ _) | (with_reducible refine below_ov ?_ ?_) | (with_reducible refine Below.setCell ?_ ?_ _) | (with_reducible refine Below.alloc ?_ ?_ _) | (with_reducible refine Below.drew ?_) | (with_reducible refine below_drewN ?_ _) | (refine Below.trans ?_ (Below.mono ‹Below _ _ _› (by first | omega | (simp; done) | (simp; omega)))) | exact Below.refl _ _ | omega | (focus (simp; done)) | (focus (simp; omega))))⟩
set_option maxHeartbeats 800000 in
theorem WorstRate_spec (x : Int) (m b : Nat → Int) (n lo hi : Nat) (v : Value) (w : World) (hv : Sl w lo hi 2 v n (iiC m b)) (hhi : hi ≤ w.heap.size) (hn : n ≤ 4611686018427387904) :
    Calls Try.prog 12 #[.int .i64 x, v] w fun e w' => e = .returned (.tuple #[.int .i64 (worstN x m b n), .bool (worstOk x m b n)]) ∧ Below w.heap.size w w' := by
  obtain ⟨A, cap, rfl, hcap, hA⟩ := hv.open_
  cases hc2_0 : inB x 10 3000 with
  | false =>
    go_enter Try.func12, Try.ntmps12
    go_wp2_with (first | (go_at_call 31; refine (cyVolume_any _ _).mono ?_; rintro e w' ⟨rfl, rfl⟩) | (go_at_call 32; refine (cyChecks_any _ _ _ _ _ _ _ hv hhi hn).mono ?_; rintro e w1 ⟨rfl, hb1⟩; have hz1 := hb1.size; (try (simp at hz1)); obtain ⟨hcw1, hfw1⟩ := bcell hb1; (try (have hy1 : w.heap.size < w1.heap.size := by omega)); (try (have hyy1 : w.heap.size + 1 < w1.heap.size := by omega)); (try (have hyyy1 : w.heap.size + 1 + 1 < w1.heap.size := by omega))))
    go_ret2
    exact ⟨ret_ib (by simp [worstN, worstOk, *]) (by simp [worstOk, *]), (by repeat (first | (with_reducible exact Below.refl _ _) | (with_reducible refine below_ov ?_ ?_) | (with_reducible refine Below.setCell ?_ ?_ _) | (with_reducible refine Below.alloc ?_ ?_ _) | (with_reducible refine Below.drew ?_) | (with_reducible refine below_drewN ?_ _) | (refine Below.trans ?_ (Below.mono ‹Below _ _ _› (by first | omega | (simp; done) | (simp; omega)))) | exact Below.refl _ _ | omega | (focus (simp; done)) | (focus (simp; omega))))⟩
  | true =>
    obtain ⟨hc2_0l, hc2_0r⟩ := inB_iff.1 hc2_0
    cases hc2_1 : chkB m b n with
    | false =>
      go_enter Try.func12, Try.ntmps12
      go_wp2_with (first | (go_at_call 31; refine (cyVolume_any _ _).mono ?_; rintro e w' ⟨rfl, rfl⟩) | (go_at_call 32; refine (cyChecks_any _ _ _ _ _ _ _ hv hhi hn).mono ?_; rintro e w1 ⟨rfl, hb1⟩; have hz1 := hb1.size; (try (simp at hz1)); obtain ⟨hcw1, hfw1⟩ := bcell hb1; (try (have hy1 : w.heap.size < w1.heap.size := by omega)); (try (have hyy1 : w.heap.size + 1 < w1.heap.size := by omega)); (try (have hyyy1 : w.heap.size + 1 + 1 < w1.heap.size := by omega))))
      go_ret2
      exact ⟨ret_ib (by simp [worstN, worstOk, *]) (by simp [worstOk, *]), (by repeat (first | (with_reducible exact Below.refl _ _) | (with_reducible refine below_ov ?_ ?_) | (with_reducible refine Below.setCell ?_ ?_ _) | (with_reducible refine Below.alloc ?_ ?_ _) | (with_reducible refine Below.drew ?_) | (with_reducible refine below_drewN ?_ _) | (refine Below.trans ?_ (Below.mono ‹Below _ _ _› (by first | omega | (simp; done) | (simp; omega)))) | exact Below.refl _ _ | omega | (focus (simp; done)) | (focus (simp; omega))))⟩
    | true =>
      have HC := hide ‹chkB m b n = true›
      have hn2 := (chk_facts HC.out).1
      by_cases h1 : n = 1
      · have he : ((n : Int) == 1) = true := by simp; omega
        have HF : Hid (wrOk x m b n = false) := by show wrOk x m b n = false; simp [wrOk]; omega
        clear h1
        go_enter Try.func12, Try.ntmps12
        go_wp2_with (first | (go_at_call 31; refine (cyVolume_any _ _).mono ?_; rintro e w' ⟨rfl, rfl⟩) | (go_at_call 32; refine (cyChecks_any _ _ _ _ _ _ _ hv hhi hn).mono ?_; rintro e w1 ⟨rfl, hb1⟩; have hz1 := hb1.size; (try (simp at hz1)); obtain ⟨hcw1, hfw1⟩ := bcell hb1; (try (have hy1 : w.heap.size < w1.heap.size := by omega)); (try (have hyy1 : w.heap.size + 1 < w1.heap.size := by omega)); (try (have hyyy1 : w.heap.size + 1 + 1 < w1.heap.size := by omega))))
        go_ret2
        exact ⟨ret_ib (by simp [worstN, worstOk, HF.out]) (by simp [worstOk, HF.out]), (by repeat (first | (with_reducible exact Below.refl _ _) | (with_reducible refine below_ov ?_ ?_) | (with_reducible refine Below.setCell ?_ ?_ _) | (with_reducible refine Below.alloc ?_ ?_ _) | (with_reducible refine Below.drew ?_) | (with_reducible refine below_drewN ?_ _) | (refine Below.trans ?_ (Below.mono ‹Below _ _ _› (by first | omega | (simp; done) | (simp; omega)))) | exact Below.refl _ _ | omega | (focus (simp; done)) | (focus (simp; omega))))⟩
      · have he : ((n : Int) == 1) = false := by simp; omega
        have h2 : decide (2 ≤ n) = true := by simp; omega
        cases hi2 : inB (wrF x m b n) 1 200 with
        | false =>
          have HF : Hid (wrOk x m b n = false) := by show wrOk x m b n = false; simp [wrOk, hi2]
          clear h2
          go_enter Try.func12, Try.ntmps12
          go_wp2_with (first | (go_at_call 31; refine (cyVolume_any _ _).mono ?_; rintro e w' ⟨rfl, rfl⟩) | (go_at_call 32; refine (cyChecks_any _ _ _ _ _ _ _ hv hhi hn).mono ?_; rintro e w1 ⟨rfl, hb1⟩; have hz1 := hb1.size; (try (simp at hz1)); obtain ⟨hcw1, hfw1⟩ := bcell hb1; (try (have hy1 : w.heap.size < w1.heap.size := by omega)); (try (have hyy1 : w.heap.size + 1 < w1.heap.size := by omega)); (try (have hyyy1 : w.heap.size + 1 + 1 < w1.heap.size := by omega))) | (go_at_call 33; refine (cyWorst_any x m b n lo hi _ _ (hv.below hb1 (by omega)) (by omega) (by omega) (by omega) HC.out).mono ?_; rintro e w2 ⟨rfl, hb2⟩; have hz2 := hb2.size; (try (simp at hz2)); obtain ⟨hcw2, hfw2⟩ := bcell hb2; (try (have hy2 : w.heap.size < w2.heap.size := by omega)); (try (have hyy2 : w.heap.size + 1 < w2.heap.size := by omega)); (try (have hyyy2 : w.heap.size + 1 + 1 < w2.heap.size := by omega))) | (go_at_call 34; refine (cyRate_any _ _).mono ?_; rintro e w' ⟨rfl, rfl⟩))
          go_ret2
          exact ⟨ret_ib (by simp [worstN, worstOk, HF.out]) (by simp [worstOk, HF.out]), (by repeat (first | (with_reducible exact Below.refl _ _) | (with_reducible refine below_ov ?_ ?_) | (with_reducible refine Below.setCell ?_ ?_ _) | (with_reducible refine Below.alloc ?_ ?_ _) | (with_reducible refine Below.drew ?_) | (with_reducible refine below_drewN ?_ _) | (refine Below.trans ?_ (Below.mono ‹Below _ _ _› (by first | omega | (simp; done) | (simp; omega)))) | exact Below.refl _ _ | omega | (focus (simp; done)) | (focus (simp; omega))))⟩
        | true =>
          have HF : Hid (wrOk x m b n = true) := by show wrOk x m b n = true; simp [wrOk, hi2, h2]
          clear h2
          go_enter Try.func12, Try.ntmps12
          go_wp2_with (first | (go_at_call 31; refine (cyVolume_any _ _).mono ?_; rintro e w' ⟨rfl, rfl⟩) | (go_at_call 32; refine (cyChecks_any _ _ _ _ _ _ _ hv hhi hn).mono ?_; rintro e w1 ⟨rfl, hb1⟩; have hz1 := hb1.size; (try (simp at hz1)); obtain ⟨hcw1, hfw1⟩ := bcell hb1; (try (have hy1 : w.heap.size < w1.heap.size := by omega)); (try (have hyy1 : w.heap.size + 1 < w1.heap.size := by omega)); (try (have hyyy1 : w.heap.size + 1 + 1 < w1.heap.size := by omega))) | (go_at_call 33; refine (cyWorst_any x m b n lo hi _ _ (hv.below hb1 (by omega)) (by omega) (by omega) (by omega) HC.out).mono ?_; rintro e w2 ⟨rfl, hb2⟩; have hz2 := hb2.size; (try (simp at hz2)); obtain ⟨hcw2, hfw2⟩ := bcell hb2; (try (have hy2 : w.heap.size < w2.heap.size := by omega)); (try (have hyy2 : w.heap.size + 1 < w2.heap.size := by omega)); (try (have hyyy2 : w.heap.size + 1 + 1 < w2.heap.size := by omega))) | (go_at_call 34; refine (cyRate_any _ _).mono ?_; rintro e w' ⟨rfl, rfl⟩))
          go_ret2
          exact ⟨ret_ib (by simp [worstN, worstOk, HF.out, *]) (by simp [worstOk, HF.out, *]), (by repeat (first | (with_reducible exact Below.refl _ _) | (with_reducible refine below_ov ?_ ?_) | (with_reducible refine Below.setCell ?_ ?_ _) | (with_reducible refine Below.alloc ?_ ?_ _) | (with_reducible refine Below.drew ?_) | (with_reducible refine below_drewN ?_ _) | (refine Below.trans ?_ (Below.mono ‹Below _ _ _› (by first | omega | (simp; done) | (simp; omega)))) | exact Below.refl _ _ | omega | (focus (simp; done)) | (focus (simp; omega))))⟩

end Go.Proofs.Ythkddbonmfoaaaa

/-
  Walks: names.-/
namespace Go.Proofs.Ythkddbonmfoaaaa
set_option linter.unusedVariables false
set_option linter.unusedSimpArgs false
open Go.RowKit

def byteAt (s : ByteArray) (i : Nat) : Int := if h : i < s.size then (s[i].toNat : Int) else 0
def lowB (c : Int) : Bool := decide (97 ≤ c) && decide (c ≤ 122)
def digB (c : Int) : Bool := decide (48 ≤ c) && decide (c ≤ 57)
def nm1 (s : ByteArray) (i : Nat) : Bool := lowB (byteAt s i) || (digB (byteAt s i) && !decide (i = 0))
def nameB (s : ByteArray) : Bool := allB (nm1 s) s.size && inB s.size 1 6
theorem byteAt_eq {s : ByteArray} {i : Nat} (h : i < s.size) : (s[i].toNat : Int) = byteAt s i := by simp [byteAt, h]
theorem nameB_no {s : ByteArray} {k : Nat} (hk : k < s.size) (h : nm1 s k = false) : nameB s = false := by rw [nameB, allB_false hk h]; rfl

/-- Where a byte lies among digits and letters. -/
theorem byte_cases (c : Int) : (c < 48) ∨ (48 ≤ c ∧ c ≤ 57) ∨ (57 < c ∧ c < 97) ∨ (97 ≤ c ∧ c ≤ 122) ∨ 122 < c := by omega
theorem nm1_no1 {s : ByteArray} {i : Nat} (h : byteAt s i < 48) : nm1 s i = false := by simp [nm1, lowB, digB]; omega
theorem nm1_no2 {s : ByteArray} {i : Nat} (h : 57 < byteAt s i) (h' : byteAt s i < 97) : nm1 s i = false := by simp [nm1, lowB, digB]; omega
theorem nm1_no3 {s : ByteArray} {i : Nat} (h : 122 < byteAt s i) : nm1 s i = false := by simp [nm1, lowB, digB]; omega
theorem nm1_low {s : ByteArray} {i : Nat} (h : 97 ≤ byteAt s i) (h' : byteAt s i ≤ 122) : nm1 s i = true := by simp [nm1, lowB, digB]; omega
theorem nm1_dig {s : ByteArray} {i : Nat} (h : 48 ≤ byteAt s i) (h' : byteAt s i ≤ 57) (h0 : 0 < i) : nm1 s i = true := by simp [nm1, lowB, digB]; omega
theorem nm1_dig0 {s : ByteArray} {i : Nat} (h : 48 ≤ byteAt s i) (h' : byteAt s i ≤ 57) (h0 : i = 0) : nm1 s i = false := by subst h0; simp [nm1, lowB, digB]; omega

set_option maxRecDepth 100000 in
set_option maxHeartbeats 1600000 in
theorem isName_any (s : ByteArray) (w : World) (hs : s.size ≤ maxLen) :
    Calls Try.prog 53 #[.string s] w fun e w' => e = .returned (.bool (nameB s)) ∧ Drew w w' := by
  unfold maxLen at hs
  go_enter Try.func53, Try.ntmps53
  go_wp2_with fail
  go_loopw [8] (fun i wr => ∃ k : Nat, k ≤ s.size ∧ i = .int .i64 k ∧ Hid (∀ j, j < k → nm1 s j = true) ∧ Drew w wr) (fun i _ => s.size - (intOf i).toNat)
  case atStart => exact ⟨0, by omega, rfl, fun j hj => by omega, ⟨0, rfl⟩⟩
  case round =>
    obtain ⟨k, hk, rfl, hj, hw⟩ := hrel
    by_cases hkn : k < s.size
    · have hb := byteAt_eq hkn
      rcases byte_cases (byteAt s k) with h | h | h | h | h
      · have HF := hide (nameB_no hkn (nm1_no1 h))
        have a1 : decide (97 ≤ (s[k].toNat : Int)) = false := by simp; omega
        have a2 : decide (48 ≤ (s[k].toNat : Int)) = false := by simp; omega
        clear hb h
        go_wp2_with fail
        go_quiet (fail)
        go_wp2_with fail
        go_ret
        exact ⟨ret_bool HF.out.symm, (by repeat (first | exact Drew.refl _ | assumption | (refine Drew.drewN ?_ _) | (refine Drew.trans ?_ (by assumption))))⟩
      · rcases Nat.eq_zero_or_pos k with hk0 | h0
        · have HF := hide (nameB_no hkn (nm1_dig0 h.1 h.2 hk0))
          have d0 : ((k : Int) == 0) = true := by simp; omega
          have a1 : decide (97 ≤ (s[k].toNat : Int)) = false := by simp; omega
          have a2 : decide (48 ≤ (s[k].toNat : Int)) = true := by simp; omega
          have b2 : decide ((s[k].toNat : Int) ≤ 57) = true := by simp; omega
          clear hb h hk0
          go_wp2_with fail
          go_quiet (fail)
          go_wp2_with fail
          go_ret
          exact ⟨ret_bool HF.out.symm, (by repeat (first | exact Drew.refl _ | assumption | (refine Drew.drewN ?_ _) | (refine Drew.trans ?_ (by assumption))))⟩
        · have HG := hide (nm1_dig h.1 h.2 h0)
          have a1 : decide (97 ≤ (s[k].toNat : Int)) = false := by simp; omega
          have a2 : decide (48 ≤ (s[k].toNat : Int)) = true := by simp; omega
          have b2 : decide ((s[k].toNat : Int) ≤ 57) = true := by simp; omega
          have d0 : ((k : Int) == 0) = false := by simp; omega
          clear hb h
          go_wp2_with fail
          go_quiet (fail)
          go_wp2_with fail
          go_roundw
          case rel => exact ⟨k + 1, by omega, by go_num, upto_snoc hj.out HG.out, (by repeat (first | exact Drew.refl _ | assumption | (refine Drew.drewN ?_ _) | (refine Drew.trans ?_ (by assumption))))⟩
          case measure => simp [intOf]; omega
      · have HF := hide (nameB_no hkn (nm1_no2 h.1 h.2))
        have a1 : decide (97 ≤ (s[k].toNat : Int)) = false := by simp; omega
        have a2 : decide (48 ≤ (s[k].toNat : Int)) = true := by simp; omega
        have b2 : decide ((s[k].toNat : Int) ≤ 57) = false := by simp; omega
        clear hb h
        go_wp2_with fail
        go_quiet (fail)
        go_wp2_with fail
        go_ret
        exact ⟨ret_bool HF.out.symm, (by repeat (first | exact Drew.refl _ | assumption | (refine Drew.drewN ?_ _) | (refine Drew.trans ?_ (by assumption))))⟩
      · have HG := hide (nm1_low h.1 h.2)
        have a1 : decide (97 ≤ (s[k].toNat : Int)) = true := by simp; omega
        have b1 : decide ((s[k].toNat : Int) ≤ 122) = true := by simp; omega
        have a2 : decide (48 ≤ (s[k].toNat : Int)) = true := by simp; omega
        have b2 : decide ((s[k].toNat : Int) ≤ 57) = false := by simp; omega
        clear hb h
        go_wp2_with fail
        go_quiet (fail)
        go_wp2_with fail
        go_roundw
        case rel => exact ⟨k + 1, by omega, by go_num, upto_snoc hj.out HG.out, (by repeat (first | exact Drew.refl _ | assumption | (refine Drew.drewN ?_ _) | (refine Drew.trans ?_ (by assumption))))⟩
        case measure => simp [intOf]; omega
      · have HF := hide (nameB_no hkn (nm1_no3 h))
        have a1 : decide (97 ≤ (s[k].toNat : Int)) = true := by simp; omega
        have b1 : decide ((s[k].toNat : Int) ≤ 122) = false := by simp; omega
        have a2 : decide (48 ≤ (s[k].toNat : Int)) = true := by simp; omega
        have b2 : decide ((s[k].toNat : Int) ≤ 57) = false := by simp; omega
        clear hb h
        go_wp2_with fail
        go_quiet (fail)
        go_wp2_with fail
        go_ret
        exact ⟨ret_bool HF.out.symm, (by repeat (first | exact Drew.refl _ | assumption | (refine Drew.drewN ?_ _) | (refine Drew.trans ?_ (by assumption))))⟩
    · obtain rfl : k = s.size := by omega
      have HE : Hid (allB (nm1 s) s.size = true) := allB_iff.2 hj.out
      go_wp2_with (go_at_call 28; refine (inside_any _ _ _ _).mono ?_; rintro e w' ⟨rfl, rfl⟩)
      go_ret
      exact ⟨ret_bool (by rw [nameB, HE.out]; rfl), (by repeat (first | exact Drew.refl _ | assumption | (refine Drew.drewN ?_ _) | (refine Drew.trans ?_ (by assumption))))⟩
set_option maxRecDepth 100000 in
set_option maxHeartbeats 1600000 in
theorem apName_any (s : ByteArray) (w : World) (hs : s.size ≤ maxLen) :
    Calls Try.prog 55 #[.string s] w fun e w' => e = .returned (.bool (nameB s)) ∧ Drew w w' := by
  unfold maxLen at hs
  go_enter Try.func55, Try.ntmps55
  go_wp2_with fail
  go_loopw [3] (fun i wr => ∃ k : Nat, k ≤ s.size ∧ i = .int .i64 k ∧ Hid (∀ j, j < k → nm1 s j = true) ∧ Drew w wr) (fun i _ => s.size - (intOf i).toNat)
  case atStart => exact ⟨0, by omega, rfl, fun j hj => by omega, ⟨0, rfl⟩⟩
  case round =>
    obtain ⟨k, hk, rfl, hj, hw⟩ := hrel
    by_cases hkn : k < s.size
    · have hb := byteAt_eq hkn
      rcases byte_cases (byteAt s k) with h | h | h | h | h
      · have HF := hide (nameB_no hkn (nm1_no1 h))
        have a1 : decide (97 ≤ (s[k].toNat : Int)) = false := by simp; omega
        have a2 : decide (48 ≤ (s[k].toNat : Int)) = false := by simp; omega
        clear hb h
        go_wp2_with fail
        go_ret
        exact ⟨ret_bool HF.out.symm, (by repeat (first | exact Drew.refl _ | assumption | (refine Drew.drewN ?_ _) | (refine Drew.trans ?_ (by assumption))))⟩
      · rcases Nat.eq_zero_or_pos k with hk0 | h0
        · have HF := hide (nameB_no hkn (nm1_dig0 h.1 h.2 hk0))
          have d0 : ((k : Int) == 0) = true := by simp; omega
          have a1 : decide (97 ≤ (s[k].toNat : Int)) = false := by simp; omega
          have a2 : decide (48 ≤ (s[k].toNat : Int)) = true := by simp; omega
          have b2 : decide ((s[k].toNat : Int) ≤ 57) = true := by simp; omega
          clear hb h hk0
          go_wp2_with fail
          go_ret
          exact ⟨ret_bool HF.out.symm, (by repeat (first | exact Drew.refl _ | assumption | (refine Drew.drewN ?_ _) | (refine Drew.trans ?_ (by assumption))))⟩
        · have HG := hide (nm1_dig h.1 h.2 h0)
          have a1 : decide (97 ≤ (s[k].toNat : Int)) = false := by simp; omega
          have a2 : decide (48 ≤ (s[k].toNat : Int)) = true := by simp; omega
          have b2 : decide ((s[k].toNat : Int) ≤ 57) = true := by simp; omega
          have d0 : ((k : Int) == 0) = false := by simp; omega
          clear hb h
          go_wp2_with fail
          go_roundw
          case rel => exact ⟨k + 1, by omega, by go_num, upto_snoc hj.out HG.out, (by repeat (first | exact Drew.refl _ | assumption | (refine Drew.drewN ?_ _) | (refine Drew.trans ?_ (by assumption))))⟩
          case measure => simp [intOf]; omega
      · have HF := hide (nameB_no hkn (nm1_no2 h.1 h.2))
        have a1 : decide (97 ≤ (s[k].toNat : Int)) = false := by simp; omega
        have a2 : decide (48 ≤ (s[k].toNat : Int)) = true := by simp; omega
        have b2 : decide ((s[k].toNat : Int) ≤ 57) = false := by simp; omega
        clear hb h
        go_wp2_with fail
        go_ret
        exact ⟨ret_bool HF.out.symm, (by repeat (first | exact Drew.refl _ | assumption | (refine Drew.drewN ?_ _) | (refine Drew.trans ?_ (by assumption))))⟩
      · have HG := hide (nm1_low h.1 h.2)
        have a1 : decide (97 ≤ (s[k].toNat : Int)) = true := by simp; omega
        have b1 : decide ((s[k].toNat : Int) ≤ 122) = true := by simp; omega
        have a2 : decide (48 ≤ (s[k].toNat : Int)) = true := by simp; omega
        have b2 : decide ((s[k].toNat : Int) ≤ 57) = false := by simp; omega
        clear hb h
        go_wp2_with fail
        go_roundw
        case rel => exact ⟨k + 1, by omega, by go_num, upto_snoc hj.out HG.out, (by repeat (first | exact Drew.refl _ | assumption | (refine Drew.drewN ?_ _) | (refine Drew.trans ?_ (by assumption))))⟩
        case measure => simp [intOf]; omega
      · have HF := hide (nameB_no hkn (nm1_no3 h))
        have a1 : decide (97 ≤ (s[k].toNat : Int)) = true := by simp; omega
        have b1 : decide ((s[k].toNat : Int) ≤ 122) = false := by simp; omega
        have a2 : decide (48 ≤ (s[k].toNat : Int)) = true := by simp; omega
        have b2 : decide ((s[k].toNat : Int) ≤ 57) = false := by simp; omega
        clear hb h
        go_wp2_with fail
        go_ret
        exact ⟨ret_bool HF.out.symm, (by repeat (first | exact Drew.refl _ | assumption | (refine Drew.drewN ?_ _) | (refine Drew.trans ?_ (by assumption))))⟩
    · obtain rfl : k = s.size := by omega
      have HE : Hid (allB (nm1 s) s.size = true) := allB_iff.2 hj.out
      go_wp2_with (go_at_call 56; refine (l1In_any _ _ _ _).mono ?_; rintro e w' ⟨rfl, rfl⟩)
      go_ret
      exact ⟨ret_bool (by rw [nameB, HE.out]; rfl), (by repeat (first | exact Drew.refl _ | assumption | (refine Drew.drewN ?_ _) | (refine Drew.trans ?_ (by assumption))))⟩

end Go.Proofs.Ythkddbonmfoaaaa

/-
  Plain laws on teams: the rate, the minute of turning, the state.-/
namespace Go.Proofs.Ythkddbonmfoaaaa
set_option linter.unusedVariables false
set_option linter.unusedSimpArgs false
open Go.RowKit

/-- A team: its name, volume, way, its checks. -/
structure Tm where
  s : ByteArray
  v : Int
  y : Int
  n : Nat
  m : Nat → Int
  b : Nat → Int
def tmB (T : Tm) : Bool := nameB T.s && inB T.v 10 3000 && inB T.y 0 300 && chkB T.m T.b T.n
def Tm.lm (T : Tm) : Int := T.m (T.n - 1)
def Tm.lb (T : Tm) : Int := T.b (T.n - 1)
def tmR (T : Tm) : Int := if T.n = 1 then 60 else min 200 (max 60 (wrF T.v T.m T.b T.n))
theorem tm_facts {T : Tm} (h : tmB T = true) : nameB T.s = true ∧ (10 ≤ T.v ∧ T.v ≤ 3000) ∧ (0 ≤ T.y ∧ T.y ≤ 300) ∧ (1 ≤ T.n ∧ T.n ≤ 20) ∧ (0 ≤ T.lm ∧ T.lm ≤ 600) ∧ 0 ≤ T.lb ∧ T.lb ≤ 330 := by
  simp only [tmB, Bool.and_eq_true, inB_iff] at h
  obtain ⟨⟨⟨h1, h2⟩, h3⟩, h4⟩ := h
  obtain ⟨h5, h6⟩ := chk_facts h4
  have h7 := h6 (T.n - 1) (by omega)
  exact ⟨h1, h2, h3, h5, h7.1, h7.2.1⟩
theorem tm_chk {T : Tm} (h : tmB T = true) : chkB T.m T.b T.n = true := by
  simp only [tmB, Bool.and_eq_true] at h
  exact h.2
theorem tmR_bd {T : Tm} : 60 ≤ tmR T ∧ tmR T ≤ 200 := by unfold tmR; split <;> omega
/-- The program's way to the rate. -/
theorem tmR_imp {T : Tm} (h : tmB T = true) : (if wrOk T.v T.m T.b T.n = false ∧ 1 < T.n then 200 else max 60 (wrN T.v T.m T.b T.n)) = tmR T := by
  obtain ⟨_, h2, _, h4, _⟩ := tm_facts h
  have h5 := wrF_bd h2.1 h2.2 (tm_chk h) T.n (Nat.le_refl _)
  unfold tmR wrN
  cases hw : wrOk T.v T.m T.b T.n with
  | true =>
    simp only [wrOk, Bool.and_eq_true, decide_eq_true_eq, inB_iff] at hw
    rw [if_neg (by simp), if_pos rfl, if_neg (by omega)]
    omega
  | false =>
    by_cases h1 : T.n = 1
    · rw [if_neg (by omega), if_pos h1, if_neg (by simp)]; rfl
    · rw [if_pos ⟨rfl, by omega⟩, if_neg h1]
      simp only [wrOk, Bool.and_eq_false_iff, decide_eq_false_iff_not, inB_no] at hw
      omega

def tmRateN (T : Tm) : Int := if tmB T = true then tmR T else 0
def preOk (T : Tm) (k : Int) : Bool := tmB T && inB k T.lm 600 && aftOk T.v T.lb (tmR T * (k - T.lm))
def preN (T : Tm) (k : Int) : Int := if (tmB T && inB k T.lm 600) = true then aftN T.v T.lb (tmR T * (k - T.lm)) else 0
theorem aftN_no {v b u : Int} (h : aftOk v b u = false) : aftN v b u = 0 := by
  simp only [aftOk, decide_eq_false_iff_not] at h
  rw [aftN, if_neg h]
/-- The minute at which it must turn. -/
def tmT (T : Tm) : Int := timeF T.v T.lb (tmR T) T.y 50
def tmTOk (T : Tm) : Bool := decide (0 ≤ tmT T)
def tmTN (T : Tm) : Int := if tmT T < 0 then 0 else T.lm + tmT T
def turnOk (T : Tm) : Bool := tmB T && tmTOk T
def turnNN (T : Tm) : Int := if tmB T = true then tmTN T else 0
theorem tmT_bd (T : Tm) : -1 ≤ tmT T ∧ tmT T ≤ 600 := timeF_bd _ _ _ _ _
theorem tmTN_bd {T : Tm} (h : tmB T = true) : 0 ≤ tmTN T ∧ tmTN T ≤ 1200 := by
  have h1 := tmT_bd T
  have h2 := (tm_facts h).2.2.2.2.1
  unfold tmTN
  split <;> omega

end Go.Proofs.Ythkddbonmfoaaaa

/-
  Walks: teams: validity, the rate.-/
namespace Go.Proofs.Ythkddbonmfoaaaa
set_option linter.unusedVariables false
set_option linter.unusedSimpArgs false
open Go.RowKit

/-- A team that lies at an address; its checks, from lo on and below hi. -/
structure TmAt (w : World) (pb po : Nat) (T : Tm) (vc : Value) (lo hi : Nat) : Prop where
  lt : pb < w.heap.size
  c0 : w.cell? ⟨pb, po, none⟩ = some (.string T.s)
  c1 : w.cell? ⟨pb, po + 1, none⟩ = some (.int .i64 T.v)
  c2 : w.cell? ⟨pb, po + 2, none⟩ = some (.int .i64 T.y)
  c3 : w.cell? ⟨pb, po + 3, none⟩ = some vc
  sl : Sl w lo hi 2 vc T.n (iiC T.m T.b)
  hhi : hi ≤ w.heap.size
theorem TmAt.below {w w' : World} {pb po B : Nat} {T : Tm} {vc : Value} {lo hi : Nat} (h : TmAt w pb po T vc lo hi) (hb : Below B w w') (hB : w.heap.size ≤ B) : TmAt w' pb po T vc lo hi where
  lt := Nat.lt_of_lt_of_le h.lt hb.size
  c0 := (hb.cell (p := ⟨pb, po, none⟩) (Nat.lt_of_lt_of_le h.lt hB)).trans h.c0
  c1 := (hb.cell (p := ⟨pb, po + 1, none⟩) (Nat.lt_of_lt_of_le h.lt hB)).trans h.c1
  c2 := (hb.cell (p := ⟨pb, po + 2, none⟩) (Nat.lt_of_lt_of_le h.lt hB)).trans h.c2
  c3 := (hb.cell (p := ⟨pb, po + 3, none⟩) (Nat.lt_of_lt_of_le h.lt hB)).trans h.c3
  sl := h.sl.below hb (Nat.le_trans h.hhi hB)
  hhi := Nat.le_trans h.hhi hb.size
def Tm.fits (T : Tm) : Prop := T.s.size ≤ maxLen ∧ T.n ≤ 1048576

set_option maxRecDepth 100000 in
set_option maxHeartbeats 1600000 in
theorem isTeam_any (T : Tm) (pb po lo hi : Nat) (vc : Value) (w : World) (h : TmAt w pb po T vc lo hi) (hf : T.fits) :
    Calls Try.prog 22 #[.pointer (some ⟨pb, po, none⟩)] w fun e w' => e = .returned (.bool (tmB T)) ∧ Below w.heap.size w w' := by
  obtain ⟨hl, c0, c1, c2, c3, hs, hhi⟩ := h
  obtain ⟨f1, f2⟩ := hf
  cases hc1_0 : nameB T.s with
  | false =>
    go_enter Try.func22, Try.ntmps22
    go_wp2_with (first | (go_at_call 53; refine (isName_any _ _ f1).mono ?_; rintro e w1 ⟨rfl, hd1⟩; obtain ⟨n1, rfl⟩ := hd1) | (go_at_call 28; refine (inside_any _ _ _ _).mono ?_; rintro e w' ⟨rfl, rfl⟩))
    go_ret
    exact ⟨ret_bool (by simp [tmB, *]), (by repeat (first | (with_reducible exact Below.refl _ _) | (with_reducible refine below_ov ?_ ?_) | (with_reducible refine Below.setCell ?_ ?_ _) | (with_reducible refine Below.alloc ?_ ?_ _) | (with_reducible refine Below.drew ?_) | (with_reducible refine below_drewN ?_ _) | (refine Below.trans ?_ (Below.mono ‹Below _ _ _› (by first | omega | (simp; done) | (simp; omega)))) | exact Below.refl _ _ | omega | (focus (simp; done)) | (focus (simp; omega))))⟩
  | true =>
    cases hc1_1 : inB T.v 10 3000 with
    | false =>
      go_enter Try.func22, Try.ntmps22
      go_wp2_with (first | (go_at_call 53; refine (isName_any _ _ f1).mono ?_; rintro e w1 ⟨rfl, hd1⟩; obtain ⟨n1, rfl⟩ := hd1) | (go_at_call 28; refine (inside_any _ _ _ _).mono ?_; rintro e w' ⟨rfl, rfl⟩))
      go_ret
      exact ⟨ret_bool (by simp [tmB, *]), (by repeat (first | (with_reducible exact Below.refl _ _) | (with_reducible refine below_ov ?_ ?_) | (with_reducible refine Below.setCell ?_ ?_ _) | (with_reducible refine Below.alloc ?_ ?_ _) | (with_reducible refine Below.drew ?_) | (with_reducible refine below_drewN ?_ _) | (refine Below.trans ?_ (Below.mono ‹Below _ _ _› (by first | omega | (simp; done) | (simp; omega)))) | exact Below.refl _ _ | omega | (focus (simp; done)) | (focus (simp; omega))))⟩
    | true =>
      obtain ⟨hc1_1l, hc1_1r⟩ := inB_iff.1 hc1_1
      cases hc1_2 : inB T.y 0 300 with
      | false =>
        go_enter Try.func22, Try.ntmps22
        go_wp2_with (first | (go_at_call 53; refine (isName_any _ _ f1).mono ?_; rintro e w1 ⟨rfl, hd1⟩; obtain ⟨n1, rfl⟩ := hd1) | (go_at_call 28; refine (inside_any _ _ _ _).mono ?_; rintro e w' ⟨rfl, rfl⟩))
        go_ret
        exact ⟨ret_bool (by simp [tmB, *]), (by repeat (first | (with_reducible exact Below.refl _ _) | (with_reducible refine below_ov ?_ ?_) | (with_reducible refine Below.setCell ?_ ?_ _) | (with_reducible refine Below.alloc ?_ ?_ _) | (with_reducible refine Below.drew ?_) | (with_reducible refine below_drewN ?_ _) | (refine Below.trans ?_ (Below.mono ‹Below _ _ _› (by first | omega | (simp; done) | (simp; omega)))) | exact Below.refl _ _ | omega | (focus (simp; done)) | (focus (simp; omega))))⟩
      | true =>
        obtain ⟨hc1_2l, hc1_2r⟩ := inB_iff.1 hc1_2
        go_enter Try.func22, Try.ntmps22
        go_wp2_with (first | (go_at_call 53; refine (isName_any _ _ f1).mono ?_; rintro e w1 ⟨rfl, hd1⟩; obtain ⟨n1, rfl⟩ := hd1) | (go_at_call 28; refine (inside_any _ _ _ _).mono ?_; rintro e w' ⟨rfl, rfl⟩) | (go_at_call 29; refine (areChecks_any T.m T.b T.n lo hi _ _ (hs.below (B := w.heap.size) (by repeat (first | (with_reducible exact Below.refl _ _) | (with_reducible refine below_ov ?_ ?_) | (with_reducible refine Below.setCell ?_ ?_ _) | (with_reducible refine Below.alloc ?_ ?_ _) | (with_reducible refine Below.drew ?_) | (with_reducible refine below_drewN ?_ _) | (refine Below.trans ?_ (Below.mono ‹Below _ _ _› (by first | omega | (simp; done) | (simp; omega)))) | exact Below.refl _ _ | omega | (focus (simp; done)) | (focus (simp; omega)))) hhi) (by simp; omega) (by omega)).mono ?_; rintro e w2 ⟨rfl, hb2⟩; have hz2 := hb2.size; (try (simp at hz2)); obtain ⟨hcw2, hfw2⟩ := bcell hb2; (try (have hy2 : w.heap.size < w2.heap.size := by omega)); (try (have hyy2 : w.heap.size + 1 < w2.heap.size := by omega)); (try (have hyyy2 : w.heap.size + 1 + 1 < w2.heap.size := by omega))))
        go_ret
        exact ⟨ret_bool (by simp [tmB, *]), (by repeat (first | (with_reducible exact Below.refl _ _) | (with_reducible refine below_ov ?_ ?_) | (with_reducible refine Below.setCell ?_ ?_ _) | (with_reducible refine Below.alloc ?_ ?_ _) | (with_reducible refine Below.drew ?_) | (with_reducible refine below_drewN ?_ _) | (refine Below.trans ?_ (Below.mono ‹Below _ _ _› (by first | omega | (simp; done) | (simp; omega)))) | exact Below.refl _ _ | omega | (focus (simp; done)) | (focus (simp; omega))))⟩
set_option maxRecDepth 100000 in
set_option maxHeartbeats 1600000 in
theorem enOne_any (T : Tm) (lo hi : Nat) (vc : Value) (w : World) (hs : Sl w lo hi 2 vc T.n (iiC T.m T.b)) (hhi : hi ≤ w.heap.size) (hf : T.fits) :
    Calls Try.prog 24 #[.agg #[.string T.s, .int .i64 T.v, .int .i64 T.y, vc]] w fun e w' => e = .returned (.bool (tmB T)) ∧ Below w.heap.size w w' := by
  obtain ⟨f1, f2⟩ := hf
  cases hc2_0 : nameB T.s with
  | false =>
    go_enter Try.func24, Try.ntmps24
    go_wp2_with (first | (go_at_call 55; refine (apName_any _ _ f1).mono ?_; rintro e w1 ⟨rfl, hd1⟩; obtain ⟨n1, rfl⟩ := hd1) | (go_at_call 56; refine (l1In_any _ _ _ _).mono ?_; rintro e w' ⟨rfl, rfl⟩) | (go_at_call 31; refine (cyVolume_any _ _).mono ?_; rintro e w' ⟨rfl, rfl⟩))
    go_ret
    exact ⟨ret_bool (by simp [tmB, *]), (by repeat (first | (with_reducible exact Below.refl _ _) | (with_reducible refine below_ov ?_ ?_) | (with_reducible refine Below.setCell ?_ ?_ _) | (with_reducible refine Below.alloc ?_ ?_ _) | (with_reducible refine Below.drew ?_) | (with_reducible refine below_drewN ?_ _) | (refine Below.trans ?_ (Below.mono ‹Below _ _ _› (by first | omega | (simp; done) | (simp; omega)))) | exact Below.refl _ _ | omega | (focus (simp; done)) | (focus (simp; omega))))⟩
  | true =>
    cases hc2_1 : inB T.v 10 3000 with
    | false =>
      go_enter Try.func24, Try.ntmps24
      go_wp2_with (first | (go_at_call 55; refine (apName_any _ _ f1).mono ?_; rintro e w1 ⟨rfl, hd1⟩; obtain ⟨n1, rfl⟩ := hd1) | (go_at_call 56; refine (l1In_any _ _ _ _).mono ?_; rintro e w' ⟨rfl, rfl⟩) | (go_at_call 31; refine (cyVolume_any _ _).mono ?_; rintro e w' ⟨rfl, rfl⟩))
      go_ret
      exact ⟨ret_bool (by simp [tmB, *]), (by repeat (first | (with_reducible exact Below.refl _ _) | (with_reducible refine below_ov ?_ ?_) | (with_reducible refine Below.setCell ?_ ?_ _) | (with_reducible refine Below.alloc ?_ ?_ _) | (with_reducible refine Below.drew ?_) | (with_reducible refine below_drewN ?_ _) | (refine Below.trans ?_ (Below.mono ‹Below _ _ _› (by first | omega | (simp; done) | (simp; omega)))) | exact Below.refl _ _ | omega | (focus (simp; done)) | (focus (simp; omega))))⟩
    | true =>
      obtain ⟨hc2_1l, hc2_1r⟩ := inB_iff.1 hc2_1
      cases hc2_2 : inB T.y 0 300 with
      | false =>
        go_enter Try.func24, Try.ntmps24
        go_wp2_with (first | (go_at_call 55; refine (apName_any _ _ f1).mono ?_; rintro e w1 ⟨rfl, hd1⟩; obtain ⟨n1, rfl⟩ := hd1) | (go_at_call 56; refine (l1In_any _ _ _ _).mono ?_; rintro e w' ⟨rfl, rfl⟩) | (go_at_call 31; refine (cyVolume_any _ _).mono ?_; rintro e w' ⟨rfl, rfl⟩))
        go_ret
        exact ⟨ret_bool (by simp [tmB, *]), (by repeat (first | (with_reducible exact Below.refl _ _) | (with_reducible refine below_ov ?_ ?_) | (with_reducible refine Below.setCell ?_ ?_ _) | (with_reducible refine Below.alloc ?_ ?_ _) | (with_reducible refine Below.drew ?_) | (with_reducible refine below_drewN ?_ _) | (refine Below.trans ?_ (Below.mono ‹Below _ _ _› (by first | omega | (simp; done) | (simp; omega)))) | exact Below.refl _ _ | omega | (focus (simp; done)) | (focus (simp; omega))))⟩
      | true =>
        obtain ⟨hc2_2l, hc2_2r⟩ := inB_iff.1 hc2_2
        go_enter Try.func24, Try.ntmps24
        go_wp2_with (first | (go_at_call 55; refine (apName_any _ _ f1).mono ?_; rintro e w1 ⟨rfl, hd1⟩; obtain ⟨n1, rfl⟩ := hd1) | (go_at_call 56; refine (l1In_any _ _ _ _).mono ?_; rintro e w' ⟨rfl, rfl⟩) | (go_at_call 31; refine (cyVolume_any _ _).mono ?_; rintro e w' ⟨rfl, rfl⟩) | (go_at_call 32; refine (cyChecks_any T.m T.b T.n lo hi _ _ (hs.below (B := w.heap.size) (by repeat (first | (with_reducible exact Below.refl _ _) | (with_reducible refine below_ov ?_ ?_) | (with_reducible refine Below.setCell ?_ ?_ _) | (with_reducible refine Below.alloc ?_ ?_ _) | (with_reducible refine Below.drew ?_) | (with_reducible refine below_drewN ?_ _) | (refine Below.trans ?_ (Below.mono ‹Below _ _ _› (by first | omega | (simp; done) | (simp; omega)))) | exact Below.refl _ _ | omega | (focus (simp; done)) | (focus (simp; omega)))) hhi) (by simp; omega) (by omega)).mono ?_; rintro e w2 ⟨rfl, hb2⟩; have hz2 := hb2.size; (try (simp at hz2)); obtain ⟨hcw2, hfw2⟩ := bcell hb2; (try (have hy2 : w.heap.size < w2.heap.size := by omega)); (try (have hyy2 : w.heap.size + 1 < w2.heap.size := by omega)); (try (have hyyy2 : w.heap.size + 1 + 1 < w2.heap.size := by omega))))
        go_ret
        exact ⟨ret_bool (by simp [tmB, *]), (by repeat (first | (with_reducible exact Below.refl _ _) | (with_reducible refine below_ov ?_ ?_) | (with_reducible refine Below.setCell ?_ ?_ _) | (with_reducible refine Below.alloc ?_ ?_ _) | (with_reducible refine Below.drew ?_) | (with_reducible refine below_drewN ?_ _) | (refine Below.trans ?_ (Below.mono ‹Below _ _ _› (by first | omega | (simp; done) | (simp; omega)))) | exact Below.refl _ _ | omega | (focus (simp; done)) | (focus (simp; omega))))⟩
theorem TmAt.new (T : Tm) (lo hi : Nat) (vc : Value) (w : World) (t : TypeId) (hs : Sl w lo hi 2 vc T.n (iiC T.m T.b)) (hhi : hi ≤ w.heap.size) : TmAt (w.alloc (.cells #[.string T.s, .int .i64 T.v, .int .i64 T.y, vc] t)) w.heap.size 0 T vc lo hi where
  lt := by simp
  c0 := World.cell?_alloc_new _ _ _ _
  c1 := World.cell?_alloc_new _ _ _ _
  c2 := World.cell?_alloc_new _ _ _ _
  c3 := World.cell?_alloc_new _ _ _ _
  sl := hs.below ((Below.refl _ _).alloc (Nat.le_refl _) _) hhi
  hhi := by simp; omega
set_option maxRecDepth 100000 in
set_option maxHeartbeats 1600000 in
theorem IsTeam_impl (T : Tm) (lo hi : Nat) (vc : Value) (w : World) (hs : Sl w lo hi 2 vc T.n (iiC T.m T.b)) (hhi : hi ≤ w.heap.size) (hf : T.fits) :
    Calls Try.prog 10 #[.agg #[.string T.s, .int .i64 T.v, .int .i64 T.y, vc]] w fun e w' => e = .returned (.bool (tmB T)) ∧ Below w.heap.size w w' := by
  go_enter Try.func10, Try.ntmps10
  go_wp2_with fail
  refine (isTeam_any T _ _ lo hi vc _ (TmAt.new T lo hi vc w _ hs hhi) hf).mono ?_
  rintro e w1 ⟨rfl, hb1⟩
  have hz1 := hb1.size
  go_wp2_with fail
  go_ret
  exact ⟨rfl, (by repeat (first | (with_reducible exact Below.refl _ _) | (with_reducible refine below_ov ?_ ?_) | (with_reducible refine Below.setCell ?_ ?_ _) | (with_reducible refine Below.alloc ?_ ?_ _) | (with_reducible refine Below.drew ?_) | (with_reducible refine below_drewN ?_ _) | (refine Below.trans ?_ (Below.mono ‹Below _ _ _› (by first | omega | (simp; done) | (simp; omega)))) | exact Below.refl _ _ | omega | (focus (simp; done)) | (focus (simp; omega))))⟩

end Go.Proofs.Ythkddbonmfoaaaa
