/-
  Walks: the text of a board.
-/
import Derived.Test.YtpakjmiallhgnaaWFirst2
namespace Go.Proofs.Ytpakjmiallhgnaa
set_option linter.unusedVariables false
set_option linter.unusedSimpArgs false
open Go.RowKit

/-- The text of the first k teams. -/
def btS (T : Nat → Tm) (m : Int) : Nat → ByteArray
  | 0 => ⟨#[]⟩
  | k + 1 => btS T m k ++ ((((T k).s ++ ⟨#[58]⟩) ++ stB (T k) m) ++ ⟨#[59]⟩)
def btOk (T : Nat → Tm) (n : Nat) (m : Int) : Bool := bdB T n && inB m 0 600
def btR (T : Nat → Tm) (n : Nat) (m : Int) : ByteArray := if btOk T n m = true then btS T m n else ⟨#[]⟩
theorem stB_size (T : Tm) (m : Int) : (stB T m).size ≤ 10 := by
  unfold stB
  split
  · exact Nat.le_of_ble_eq_true (by kernel_rfl)
  · split
    · exact Nat.le_of_ble_eq_true (by kernel_rfl)
    · exact Nat.le_of_ble_eq_true (by kernel_rfl)
theorem nameB_size {T : Tm} (h : tmB T = true) : T.s.size ≤ 6 := by
  have h1 := (tm_facts h).1
  simp only [nameB, Bool.and_eq_true, inB_iff] at h1
  omega
theorem btS_size {T : Nat → Tm} {m : Int} {n : Nat} (h : ∀ i, i < n → tmB (T i) = true) : ∀ k, k ≤ n → (btS T m k).size ≤ 20 * k
  | 0, _ => by show (0 : Nat) ≤ _; omega
  | k + 1, hk => by
    have h1 := btS_size (m := m) h k (by omega)
    have h2 := nameB_size (h k (by omega))
    have h3 := stB_size (T k) m
    simp only [btS, ByteArray.size_append, ByteArray.size_mk']
    simp
    omega
set_option maxRecDepth 100000 in
set_option maxHeartbeats 1600000 in
theorem BoardText_impl (T : Nat → Tm) (n : Nat) (m : Int) (lo hi : Nat) (v : Value) (w : World) (hv : SlT w lo hi v n T) (hhi : hi ≤ w.heap.size) (hf : tfits T n) :
    Calls Try.prog 20 #[v, .int .i64 m] w fun e w' => e = .returned (.tuple #[.string (btR T n m), .bool (btOk T n m)]) ∧ Below w.heap.size w w' := by
  obtain ⟨A, cap, rfl, hcap⟩ := hv.open_
  cases hB : bdB T n with
  | false =>
    have HF : Hid (btOk T n m = false) := by show _ = _; simp [btOk, hB]
    have HS : Hid (btR T n m = ⟨#[]⟩) := by show _ = _; rw [btR, HF.out]; rfl
    go_enter Try.func20, Try.ntmps20
    go_wp2_with (go_at_call 64; refine (isBoard_any T n lo hi _ _ hv hhi hf).mono ?_; rintro e w1 ⟨rfl, hb1⟩; have hz1 := hb1.size; (try (simp at hz1)); obtain ⟨hcw1, hfw1⟩ := bcell hb1; (try (have hy1 : w.heap.size < w1.heap.size := by omega)); (try (have hyy1 : w.heap.size + 1 < w1.heap.size := by omega)); (try (have hyyy1 : w.heap.size + 1 + 1 < w1.heap.size := by omega)))
    go_ret2
    exact ⟨ret_sb HS.out.symm HF.out.symm, (by repeat (first | (with_reducible exact Below.refl _ _) | (with_reducible refine below_ov ?_ ?_) | (with_reducible refine Below.setCell ?_ ?_ _) | (with_reducible refine Below.alloc ?_ ?_ _) | (with_reducible refine Below.drew ?_) | (with_reducible refine below_drewN ?_ _) | (refine Below.trans ?_ (Below.mono ‹Below _ _ _› (by first | omega | (simp; done) | (simp; omega)))) | exact Below.refl _ _ | omega | (focus (simp; done)) | (focus (simp; omega))))⟩
  | true =>
    have HB := hide hB
    go_enter Try.func20, Try.ntmps20
    go_wp2_with fail
    refine (isBoard_any T n lo hi _ _ (hv.below (B := w.heap.size) (by repeat (first | (with_reducible exact Below.refl _ _) | (with_reducible refine below_ov ?_ ?_) | (with_reducible refine Below.setCell ?_ ?_ _) | (with_reducible refine Below.alloc ?_ ?_ _) | (with_reducible refine Below.drew ?_) | (with_reducible refine below_drewN ?_ _) | (refine Below.trans ?_ (Below.mono ‹Below _ _ _› (by first | omega | (simp; done) | (simp; omega)))) | exact Below.refl _ _ | omega | (focus (simp; done)) | (focus (simp; omega)))) hhi) hhi hf).mono ?_
    rintro e w1 ⟨rfl, hb1⟩
    have hz1 := hb1.size
    rw [hB]
    go_wp2_with fail
    refine (inside_any _ _ _ _).mono ?_
    rintro e w2 ⟨rfl, rfl⟩
    cases hI : inB m 0 600 with
    | false =>
      have HF : Hid (btOk T n m = false) := by show _ = _; simp [btOk, hI]
      have HS : Hid (btR T n m = ⟨#[]⟩) := by show _ = _; rw [btR, HF.out]; rfl
      go_wp2_with fail
      go_ret2
      exact ⟨ret_sb HS.out.symm HF.out.symm, (by repeat (first | (with_reducible exact Below.refl _ _) | (with_reducible refine below_ov ?_ ?_) | (with_reducible refine Below.setCell ?_ ?_ _) | (with_reducible refine Below.alloc ?_ ?_ _) | (with_reducible refine Below.drew ?_) | (with_reducible refine below_drewN ?_ _) | (refine Below.trans ?_ (Below.mono ‹Below _ _ _› (by first | omega | (simp; done) | (simp; omega)))) | exact Below.refl _ _ | omega | (focus (simp; done)) | (focus (simp; omega))))⟩
    | true =>
      have HE : Hid (btOk T n m = true) := by show _ = _; simp [btOk, hI, HB.out]
      have HS : Hid (btR T n m = btS T m n) := by show _ = _; rw [btR, if_pos HE.out]
      have hm := inB_iff.1 hI
      go_wp2_with fail
      have hn : n ≤ 1048576 := hf.1
      go_loopw [6, 18] (fun a i wr => ∃ k : Nat, k ≤ n ∧ i = .int .i64 k ∧ a = .string (btS T m k) ∧ Below w.heap.size w wr) (fun _ i _ => n - (intOf i).toNat)
      case atStart => exact ⟨0, by omega, rfl, rfl, (by repeat (first | (with_reducible exact Below.refl _ _) | (with_reducible refine below_ov ?_ ?_) | (with_reducible refine Below.setCell ?_ ?_ _) | (with_reducible refine Below.alloc ?_ ?_ _) | (with_reducible refine Below.drew ?_) | (with_reducible refine below_drewN ?_ _) | (refine Below.trans ?_ (Below.mono ‹Below _ _ _› (by first | omega | (simp; done) | (simp; omega)))) | exact Below.refl _ _ | omega | (focus (simp; done)) | (focus (simp; omega))))⟩
      case round =>
        obtain ⟨k, hk, rfl, rfl, hb⟩ := hrel
        have hzr := hb.size
        by_cases hkn : k < n
        · obtain ⟨blk, off, ck, rfl, h1, h2, h3⟩ := (hv.below hb hhi).at_ (by omega) (by omega)
          have t0 := hide (h3 k hkn)
          have q0 := (h3 k hkn).c0
          have HK := hide ((bd_facts HB.out).2 k hkn).1
          have l0 : blk < wr.heap.size := by omega
          clear h3
          have s1 := nameB_size HK.out
          have s2 := stB_size (T k) m
          have s3 := btS_size (m := m) (fun i hi => ((bd_facts HB.out).2 i hi).1) k (by omega)
          have hq := (bd_facts HB.out).1
          have b1 : ¬ (9223372036854775807 < (T k).s.size + 1) := by omega
          have b2 : ¬ (9223372036854775807 < (T k).s.size + 1 + (stB (T k) m).size) := by omega
          have b3 : ¬ (9223372036854775807 < (T k).s.size + 1 + (stB (T k) m).size + 1) := by omega
          have b4 : ¬ (9223372036854775807 < (btS T m k).size + ((T k).s.size + 1 + (stB (T k) m).size + 1)) := by omega
          have i1 : ¬ ((9223372036854775807 : Int) < (T k).s.size + 1) := by omega
          have i2 : ¬ ((9223372036854775807 : Int) < (T k).s.size + 1 + (stB (T k) m).size) := by omega
          have i3 : ¬ ((9223372036854775807 : Int) < (T k).s.size + 1 + (stB (T k) m).size + 1) := by omega
          have i4 : ¬ ((9223372036854775807 : Int) < (btS T m k).size + ((T k).s.size + 1 + (stB (T k) m).size + 1)) := by omega
          go_wp2_with fail
          (refine wp_region_below_lit (by kernel_rfl) (by kernel_rfl) ?_; (repeat (first | go_big_quiet_step ((go_at_call 74; exact quiet_ov (state_any (T k) m blk (off + k * 4) lo hi _ _ (t0.out.below (B := wr.heap.size) (by repeat (first | (with_reducible exact Below.refl _ _) | (with_reducible refine below_ov ?_ ?_) | (with_reducible refine Below.setCell ?_ ?_ _) | (with_reducible refine Below.alloc ?_ ?_ _) | (with_reducible refine Below.drew ?_) | (with_reducible refine below_drewN ?_ _) | (refine Below.trans ?_ (Below.mono ‹Below _ _ _› (by first | omega | (simp; done) | (simp; omega)))) | exact Below.refl _ _ | omega | (focus (simp; done)) | (focus (simp; omega)))) (Nat.le_refl _)) HK.out hm.1 hm.2))) | quiet_step ((go_at_call 74; exact quiet_ov (state_any (T k) m blk (off + k * 4) lo hi _ _ (t0.out.below (B := wr.heap.size) (by repeat (first | (with_reducible exact Below.refl _ _) | (with_reducible refine below_ov ?_ ?_) | (with_reducible refine Below.setCell ?_ ?_ _) | (with_reducible refine Below.alloc ?_ ?_ _) | (with_reducible refine Below.drew ?_) | (with_reducible refine below_drewN ?_ _) | (refine Below.trans ?_ (Below.mono ‹Below _ _ _› (by first | omega | (simp; done) | (simp; omega)))) | exact Below.refl _ _ | omega | (focus (simp; done)) | (focus (simp; omega)))) (Nat.le_refl _)) HK.out hm.1 hm.2))))); refine wpQuiet_nil ?_; intro w2 hb2; have hz2 := hb2.size; (try (simp at hz2)); obtain ⟨hcw2, hfw2⟩ := bcell hb2; (try (have hy2 : w.heap.size < w2.heap.size := by omega)); (try (have hyy2 : w.heap.size + 1 < w2.heap.size := by omega)))
          all_goals go_wp2
          go_roundw
          case rel => exact ⟨k + 1, by omega, by go_num, rfl, (by repeat (first | (with_reducible exact Below.refl _ _) | (with_reducible refine below_ov ?_ ?_) | (with_reducible refine Below.setCell ?_ ?_ _) | (with_reducible refine Below.alloc ?_ ?_ _) | (with_reducible refine Below.drew ?_) | (with_reducible refine below_drewN ?_ _) | (refine Below.trans ?_ (Below.mono ‹Below _ _ _› (by first | omega | (simp; done) | (simp; omega)))) | exact Below.refl _ _ | omega | (focus (simp; done)) | (focus (simp; omega))))⟩
          case measure => simp [intOf]; omega
        · obtain rfl : k = n := by omega
          go_wp2_with fail
          go_ret2
          exact ⟨ret_sb HS.out.symm HE.out.symm, (by repeat (first | (with_reducible exact Below.refl _ _) | (with_reducible refine below_ov ?_ ?_) | (with_reducible refine Below.setCell ?_ ?_ _) | (with_reducible refine Below.alloc ?_ ?_ _) | (with_reducible refine Below.drew ?_) | (with_reducible refine below_drewN ?_ _) | (refine Below.trans ?_ (Below.mono ‹Below _ _ _› (by first | omega | (simp; done) | (simp; omega)))) | exact Below.refl _ _ | omega | (focus (simp; done)) | (focus (simp; omega))))⟩

end Go.Proofs.Ytpakjmiallhgnaa
