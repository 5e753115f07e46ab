/-
  Texts of this proof, one behind the other (part 13).
-/
import Derived.Test.YthchfnkljmoenaaQ12
/-
  Walks: the indices of the first periods of long spells.-/
namespace Go.Proofs.Ythchfnkljmoenaa
set_option linter.unusedVariables false
set_option linter.unusedSimpArgs false
open Go.RowKit

/-- The end of the spell with period i, behind k more periods. -/
def enF (c : Nat → ByteArray) (a b : Nat → Int) (i : Nat) : Nat → Int
  | 0 => b i
  | k + 1 => if c (i + 1 + k) = c i ∧ a (i + 1 + k) = enF c a b i k then b (i + 1 + k) else enF c a b i k
theorem en_yes {c : Nat → ByteArray} {a b : Nat → Int} {i k : Nat} (h : c (i + 1 + k) = c i) (h' : a (i + 1 + k) = enF c a b i k) : enF c a b i (k + 1) = b (i + 1 + k) := by rw [enF, if_pos ⟨h, h'⟩]
theorem en_no {c : Nat → ByteArray} {a b : Nat → Int} {i k : Nat} (h : ¬ (c (i + 1 + k) = c i ∧ a (i + 1 + k) = enF c a b i k)) : enF c a b i (k + 1) = enF c a b i k := by rw [enF, if_neg h]
theorem en_bd {c : Nat → ByteArray} {a b : Nat → Int} {n i : Nat} (hp : pdB c a b n = true) : ∀ k, i + 1 + k ≤ n → 0 ≤ enF c a b i k ∧ enF c a b i k ≤ 9999
  | 0, h => by have := (perB_iff.1 ((pd_facts hp).2 i (by omega)).1).2; simp [enF]; omega
  | k + 1, h => by
    have ih := en_bd (i := i) hp k (by omega)
    have := (perB_iff.1 ((pd_facts hp).2 (i + 1 + k) (by omega)).1).2
    rw [enF]
    split <;> omega
set_option maxRecDepth 100000 in
set_option maxHeartbeats 1600000 in
theorem spellEnd_any (c : Nat → ByteArray) (a b : Nat → Int) (n i : Nat) (lo hi : Nat) (v : Value) (w : World) (hv : Sl w lo hi 3 v n (siiC c a b)) (hhi : hi ≤ w.heap.size) (hn : n ≤ 1048576) (hin : i < n) :
    Calls Try.prog 53 #[v, .int .i64 i] w fun e w' => e = .returned (.int .i64 (enF c a b i (n - (i + 1)))) ∧ Below w.heap.size w w' := by
  obtain ⟨A, cap, rfl, hcap, hA⟩ := hv.open_
  obtain ⟨blk, off, rfl, h1, h2, h3⟩ := hA (by omega)
  have i0 : w.cell? ⟨blk, off + i * 3, none⟩ = some (.string (c i)) := h3 i 0 hin (by omega)
  have i2 : w.cell? ⟨blk, off + i * 3 + 2, none⟩ = some (.int .i64 (b i)) := h3 i 2 hin (by omega)
  have H3 := hide h3
  have l5 : (i : Int) + 1 ≤ (n : Int) := by omega
  have l6 : (i : Int) < (n : Int) := by omega
  have l7 : (n : Int) ≤ (cap : Int) := by omega
  clear h3 hv hA
  by_cases hc : cap = i + 1
  · have hni : n = i + 1 := by omega
    subst hc hni
    go_enter Try.func53, Try.ntmps53
    go_wp2_with fail
    go_loopw [5, 18] (fun x k wr => x = .int .i64 (b i) ∧ k = .int .i64 0 ∧ wr = w) (fun _ _ _ => 0)
    case atStart => exact ⟨rfl, rfl, rfl⟩
    case round =>
      obtain ⟨rfl, rfl, rfl⟩ := hrel
      go_wp2_with fail
      go_ret
      exact ⟨ret_int (by simp [enF]), (by repeat (first | (with_reducible exact Below.refl _ _) | (with_reducible refine below_ov ?_ ?_) | (with_reducible refine Below.setCell ?_ ?_ _) | (with_reducible refine Below.alloc ?_ ?_ _) | (with_reducible refine Below.drew ?_) | (with_reducible refine below_drewN ?_ _) | (refine Below.trans ?_ (Below.mono ‹Below _ _ _› (by first | omega | (simp; done) | (simp; omega)))) | exact Below.refl _ _ | omega | (focus (simp; done)) | (focus (simp; omega))))⟩
  · have l8 : ¬ cap = i + 1 := hc
    have H4 : Hid (∀ k u, i + 1 + k < n → u < 3 → w.cell? ⟨blk, off + (i + 1) * 3 + k * 3 + u, none⟩ = some (siiC c a b (i + 1 + k) u)) := fun k u hk hu => by
      have := H3.out (i + 1 + k) u hk hu
      rw [show off + (i + 1 + k) * 3 + u = off + (i + 1) * 3 + k * 3 + u by omega] at this
      exact this
    clear H3 hc
    go_enter Try.func53, Try.ntmps53
    go_wp2_with fail
    go_loopw [5, 18] (fun x j wr => ∃ k : Nat, k ≤ n - (i + 1) ∧ j = .int .i64 k ∧ x = .int .i64 (enF c a b i k) ∧ Below w.heap.size w wr) (fun _ j _ => n - (i + 1) - (intOf j).toNat)
    case atStart => exact ⟨0, by omega, rfl, rfl, Below.refl _ _⟩
    case round =>
      obtain ⟨k, hk, rfl, rfl, hb⟩ := hrel
      have hzr := hb.size
      by_cases hkn : k < n - (i + 1)
      · have j0 := (hb.cell (p := ⟨blk, off + i * 3, none⟩) (by show blk < _; omega)).trans i0
        have c0 : wr.cell? ⟨blk, off + (i + 1) * 3 + k * 3, none⟩ = some (.string (c (i + 1 + k))) := (hb.cell (p := ⟨blk, off + (i + 1) * 3 + k * 3, none⟩) (by show blk < _; omega)).trans (H4.out k 0 (by omega) (by omega))
        have c1 : wr.cell? ⟨blk, off + (i + 1) * 3 + k * 3 + 1, none⟩ = some (.int .i64 (a (i + 1 + k))) := (hb.cell (p := ⟨blk, off + (i + 1) * 3 + k * 3 + 1, none⟩) (by show blk < _; omega)).trans (H4.out k 1 (by omega) (by omega))
        have c2 : wr.cell? ⟨blk, off + (i + 1) * 3 + k * 3 + 2, none⟩ = some (.int .i64 (b (i + 1 + k))) := (hb.cell (p := ⟨blk, off + (i + 1) * 3 + k * 3 + 2, none⟩) (by show blk < _; omega)).trans (H4.out k 2 (by omega) (by omega))
        have l0 : blk < wr.heap.size := by omega
        cases e0 : ((c (i + 1 + k)).toList == (c i).toList) with
        | false =>
          have HG : Hid (enF c a b i (k + 1) = enF c a b i k) := en_no fun h => by rw [str_beq, h.1] at e0; simp at e0
          go_wp2_with fail
          go_quiet (fail)
          go_wp2_with fail
          go_roundw
          case rel => exact ⟨k + 1, by omega, by go_num, by rw [HG.out], (by repeat (first | (with_reducible exact Below.refl _ _) | (with_reducible refine below_ov ?_ ?_) | (with_reducible refine Below.setCell ?_ ?_ _) | (with_reducible refine Below.alloc ?_ ?_ _) | (with_reducible refine Below.drew ?_) | (with_reducible refine below_drewN ?_ _) | (refine Below.trans ?_ (Below.mono ‹Below _ _ _› (by first | omega | (simp; done) | (simp; omega)))) | exact Below.refl _ _ | omega | (focus (simp; done)) | (focus (simp; omega))))⟩
          case measure => simp [intOf]; omega
        | true =>
          cases e1 : (a (i + 1 + k) == enF c a b i k) with
          | false =>
            have HG : Hid (enF c a b i (k + 1) = enF c a b i k) := en_no fun h => by rw [h.2] at e1; simp at e1
            go_wp2_with fail
            go_quiet (fail)
            go_wp2_with fail
            go_roundw
            case rel => exact ⟨k + 1, by omega, by go_num, by rw [HG.out], (by repeat (first | (with_reducible exact Below.refl _ _) | (with_reducible refine below_ov ?_ ?_) | (with_reducible refine Below.setCell ?_ ?_ _) | (with_reducible refine Below.alloc ?_ ?_ _) | (with_reducible refine Below.drew ?_) | (with_reducible refine below_drewN ?_ _) | (refine Below.trans ?_ (Below.mono ‹Below _ _ _› (by first | omega | (simp; done) | (simp; omega)))) | exact Below.refl _ _ | omega | (focus (simp; done)) | (focus (simp; omega))))⟩
            case measure => simp [intOf]; omega
          | true =>
            have HG : Hid (enF c a b i (k + 1) = b (i + 1 + k)) := en_yes (by rw [str_beq] at e0; exact of_decide_eq_true e0) (by simpa using e1)
            go_wp2_with fail
            go_quiet (fail)
            go_wp2_with fail
            go_roundw
            case rel => exact ⟨k + 1, by omega, by go_num, by rw [HG.out], (by repeat (first | (with_reducible exact Below.refl _ _) | (with_reducible refine below_ov ?_ ?_) | (with_reducible refine Below.setCell ?_ ?_ _) | (with_reducible refine Below.alloc ?_ ?_ _) | (with_reducible refine Below.drew ?_) | (with_reducible refine below_drewN ?_ _) | (refine Below.trans ?_ (Below.mono ‹Below _ _ _› (by first | omega | (simp; done) | (simp; omega)))) | exact Below.refl _ _ | omega | (focus (simp; done)) | (focus (simp; omega))))⟩
            case measure => simp [intOf]; omega
      · obtain rfl : k = n - (i + 1) := by omega
        go_wp2_with fail
        go_ret
        exact ⟨rfl, hb⟩
set_option maxRecDepth 100000 in
set_option maxHeartbeats 1600000 in
theorem rfEnd_any (c : Nat → ByteArray) (a b : Nat → Int) (n i : Nat) (lo hi : Nat) (v : Value) (w : World) (hv : Sl w lo hi 3 v n (siiC c a b)) (hhi : hi ≤ w.heap.size) (hn : n ≤ 1048576) (hin : i < n) :
    Calls Try.prog 55 #[v, .int .i64 i] w fun e w' => e = .returned (.int .i64 (enF c a b i (n - (i + 1)))) ∧ Below w.heap.size w w' := by
  obtain ⟨A, cap, rfl, hcap, hA⟩ := hv.open_
  obtain ⟨blk, off, rfl, h1, h2, h3⟩ := hA (by omega)
  have i0 : w.cell? ⟨blk, off + i * 3, none⟩ = some (.string (c i)) := h3 i 0 hin (by omega)
  have i2 : w.cell? ⟨blk, off + i * 3 + 2, none⟩ = some (.int .i64 (b i)) := h3 i 2 hin (by omega)
  have H3 := hide h3
  have l5 : (i : Int) + 1 ≤ (n : Int) := by omega
  have l6 : (i : Int) < (n : Int) := by omega
  have l7 : (n : Int) ≤ (cap : Int) := by omega
  clear h3 hv hA
  by_cases hc : cap = i + 1
  · have hni : n = i + 1 := by omega
    subst hc hni
    go_enter Try.func55, Try.ntmps55
    go_wp2_with fail
    go_loopw [5, 18] (fun x k wr => x = .int .i64 (b i) ∧ k = .int .i64 0 ∧ wr = w) (fun _ _ _ => 0)
    case atStart => exact ⟨rfl, rfl, rfl⟩
    case round =>
      obtain ⟨rfl, rfl, rfl⟩ := hrel
      go_wp2_with fail
      go_ret
      exact ⟨ret_int (by simp [enF]), (by repeat (first | (with_reducible exact Below.refl _ _) | (with_reducible refine below_ov ?_ ?_) | (with_reducible refine Below.setCell ?_ ?_ _) | (with_reducible refine Below.alloc ?_ ?_ _) | (with_reducible refine Below.drew ?_) | (with_reducible refine below_drewN ?_ _) | (refine Below.trans ?_ (Below.mono ‹Below _ _ _› (by first | omega | (simp; done) | (simp; omega)))) | exact Below.refl _ _ | omega | (focus (simp; done)) | (focus (simp; omega))))⟩
  · have l8 : ¬ cap = i + 1 := hc
    have H4 : Hid (∀ k u, i + 1 + k < n → u < 3 → w.cell? ⟨blk, off + (i + 1) * 3 + k * 3 + u, none⟩ = some (siiC c a b (i + 1 + k) u)) := fun k u hk hu => by
      have := H3.out (i + 1 + k) u hk hu
      rw [show off + (i + 1 + k) * 3 + u = off + (i + 1) * 3 + k * 3 + u by omega] at this
      exact this
    clear H3 hc
    go_enter Try.func55, Try.ntmps55
    go_wp2_with fail
    go_loopw [5, 18] (fun x j wr => ∃ k : Nat, k ≤ n - (i + 1) ∧ j = .int .i64 k ∧ x = .int .i64 (enF c a b i k) ∧ Below w.heap.size w wr) (fun _ j _ => n - (i + 1) - (intOf j).toNat)
    case atStart => exact ⟨0, by omega, rfl, rfl, Below.refl _ _⟩
    case round =>
      obtain ⟨k, hk, rfl, rfl, hb⟩ := hrel
      have hzr := hb.size
      by_cases hkn : k < n - (i + 1)
      · have j0 := (hb.cell (p := ⟨blk, off + i * 3, none⟩) (by show blk < _; omega)).trans i0
        have c0 : wr.cell? ⟨blk, off + (i + 1) * 3 + k * 3, none⟩ = some (.string (c (i + 1 + k))) := (hb.cell (p := ⟨blk, off + (i + 1) * 3 + k * 3, none⟩) (by show blk < _; omega)).trans (H4.out k 0 (by omega) (by omega))
        have c1 : wr.cell? ⟨blk, off + (i + 1) * 3 + k * 3 + 1, none⟩ = some (.int .i64 (a (i + 1 + k))) := (hb.cell (p := ⟨blk, off + (i + 1) * 3 + k * 3 + 1, none⟩) (by show blk < _; omega)).trans (H4.out k 1 (by omega) (by omega))
        have c2 : wr.cell? ⟨blk, off + (i + 1) * 3 + k * 3 + 2, none⟩ = some (.int .i64 (b (i + 1 + k))) := (hb.cell (p := ⟨blk, off + (i + 1) * 3 + k * 3 + 2, none⟩) (by show blk < _; omega)).trans (H4.out k 2 (by omega) (by omega))
        have l0 : blk < wr.heap.size := by omega
        cases e0 : ((c (i + 1 + k)).toList == (c i).toList) with
        | false =>
          have HG : Hid (enF c a b i (k + 1) = enF c a b i k) := en_no fun h => by rw [str_beq, h.1] at e0; simp at e0
          go_wp2_with fail
          go_quiet (fail)
          go_wp2_with fail
          go_roundw
          case rel => exact ⟨k + 1, by omega, by go_num, by rw [HG.out], (by repeat (first | (with_reducible exact Below.refl _ _) | (with_reducible refine below_ov ?_ ?_) | (with_reducible refine Below.setCell ?_ ?_ _) | (with_reducible refine Below.alloc ?_ ?_ _) | (with_reducible refine Below.drew ?_) | (with_reducible refine below_drewN ?_ _) | (refine Below.trans ?_ (Below.mono ‹Below _ _ _› (by first | omega | (simp; done) | (simp; omega)))) | exact Below.refl _ _ | omega | (focus (simp; done)) | (focus (simp; omega))))⟩
          case measure => simp [intOf]; omega
        | true =>
          cases e1 : (a (i + 1 + k) == enF c a b i k) with
          | false =>
            have HG : Hid (enF c a b i (k + 1) = enF c a b i k) := en_no fun h => by rw [h.2] at e1; simp at e1
            go_wp2_with fail
            go_quiet (fail)
            go_wp2_with fail
            go_roundw
            case rel => exact ⟨k + 1, by omega, by go_num, by rw [HG.out], (by repeat (first | (with_reducible exact Below.refl _ _) | (with_reducible refine below_ov ?_ ?_) | (with_reducible refine Below.setCell ?_ ?_ _) | (with_reducible refine Below.alloc ?_ ?_ _) | (with_reducible refine Below.drew ?_) | (with_reducible refine below_drewN ?_ _) | (refine Below.trans ?_ (Below.mono ‹Below _ _ _› (by first | omega | (simp; done) | (simp; omega)))) | exact Below.refl _ _ | omega | (focus (simp; done)) | (focus (simp; omega))))⟩
            case measure => simp [intOf]; omega
          | true =>
            have HG : Hid (enF c a b i (k + 1) = b (i + 1 + k)) := en_yes (by rw [str_beq] at e0; exact of_decide_eq_true e0) (by simpa using e1)
            go_wp2_with fail
            go_quiet (fail)
            go_wp2_with fail
            go_roundw
            case rel => exact ⟨k + 1, by omega, by go_num, by rw [HG.out], (by repeat (first | (with_reducible exact Below.refl _ _) | (with_reducible refine below_ov ?_ ?_) | (with_reducible refine Below.setCell ?_ ?_ _) | (with_reducible refine Below.alloc ?_ ?_ _) | (with_reducible refine Below.drew ?_) | (with_reducible refine below_drewN ?_ _) | (refine Below.trans ?_ (Below.mono ‹Below _ _ _› (by first | omega | (simp; done) | (simp; omega)))) | exact Below.refl _ _ | omega | (focus (simp; done)) | (focus (simp; omega))))⟩
            case measure => simp [intOf]; omega
      · obtain rfl : k = n - (i + 1) := by omega
        go_wp2_with fail
        go_ret
        exact ⟨rfl, hb⟩

def lsOk (c : Nat → ByteArray) (a b : Nat → Int) (n : Nat) (q : Int) : Bool := pdB c a b n && inB q 1 720
def lsP (c : Nat → ByteArray) (a b : Nat → Int) (n : Nat) (q : Int) (i : Nat) : Bool := (decide (befI c i < 0) || decide (b (befI c i).toNat < a i)) && decide (q < enF c a b i (n - (i + 1)) - a i)
def lsQ (c : Nat → ByteArray) (a b : Nat → Int) (n : Nat) (q : Int) (i : Nat) : Bool := lsOk c a b n q && lsP c a b n q i
theorem lsQ_no {c : Nat → ByteArray} {a b : Nat → Int} {n : Nat} {q : Int} (h : lsOk c a b n q = false) : ∀ k, flt (lsQ c a b n q) k = []
  | 0 => rfl
  | k + 1 => by rw [flt_no (by simp [lsQ, h]), lsQ_no h k]
theorem lsQ_at {c : Nat → ByteArray} {a b : Nat → Int} {n : Nat} {q : Int} {i : Nat} (h : lsOk c a b n q = true) : lsQ c a b n q i = lsP c a b n q i := by simp [lsQ, h]
theorem rfPrevious_at {c : Nat → ByteArray} {a b : Nat → Int} {n i : Nat} {r : Int} (hr : pvM c b (c i) i = r) (lo hi : Nat) (v : Value) (w : World) (hv : Sl w lo hi 3 v n (siiC c a b)) (hhi : hi ≤ w.heap.size) (hn : n ≤ 1048576) (hp : pdB c a b n = true) (hin : i < n) :
    Calls Try.prog 54 #[v, .int .i64 i] w fun e w' => e = .returned (.int .i64 r) ∧ Below w.heap.size w w' := hr ▸ rfPrevious_any c a b n i lo hi v w hv hhi hn hp hin
set_option maxRecDepth 100000 in
set_option maxHeartbeats 3200000 in
theorem LongSpells_spec (c : Nat → ByteArray) (a b : Nat → Int) (n : Nat) (q : Int) (lo hi : Nat) (v : Value) (w : World) (hv : Sl w lo hi 3 v n (siiC c a b)) (hhi : hi ≤ w.heap.size) (hf : pfits c n) :
    Calls Try.prog 21 #[v, .int .i64 q] w (IdxRes (lsQ c a b n q) n (lsOk c a b n q) w) := by
  obtain ⟨A, cap, rfl, hcap, hA⟩ := hv.open_
  have hn := hf.1
  obtain ⟨ii, hii, iz0, iz1, iz2⟩ := info_parts infoIntN
  cases hc1_0 : pdB c a b n with
  | false =>
    have HX : Hid (lsOk c a b n q = false) := by show _ = _; simp [lsOk, *]
    go_enter Try.func21, Try.ntmps21
    go_wp2_with (first | (go_at_call 40; refine (rfGood_any c a b n lo hi _ _ hv hhi hf).mono ?_; rintro e w1 ⟨rfl, hb1⟩; have hz1 := hb1.size; (try (simp at hz1)); obtain ⟨hcw1, hfw1⟩ := bcell hb1; (try (have hy1 : w.heap.size < w1.heap.size := by omega)); (try (have hyy1 : w.heap.size + 1 < w1.heap.size := by omega)); (try (have hyyy1 : w.heap.size + 1 + 1 < w1.heap.size := by omega))) | (go_at_call 49; refine (rfMost_any _ _).mono ?_; rintro e w' ⟨rfl, rfl⟩))
    go_ret2
    rw [HX.out]
    exact idx_nil (lsQ_no HX.out n) (by repeat (first | (with_reducible exact Below.refl _ _) | (with_reducible refine below_ov ?_ ?_) | (with_reducible refine Below.setCell ?_ ?_ _) | (with_reducible refine Below.alloc ?_ ?_ _) | (with_reducible refine Below.drew ?_) | (with_reducible refine below_drewN ?_ _) | (refine Below.trans ?_ (Below.mono ‹Below _ _ _› (by first | omega | (simp; done) | (simp; omega)))) | exact Below.refl _ _ | omega | (focus (simp; done)) | (focus (simp; omega))))
  | true =>
    cases hc1_1 : inB q 1 720 with
    | false =>
      have HX : Hid (lsOk c a b n q = false) := by show _ = _; simp [lsOk, *]
      go_enter Try.func21, Try.ntmps21
      go_wp2_with (first | (go_at_call 40; refine (rfGood_any c a b n lo hi _ _ hv hhi hf).mono ?_; rintro e w1 ⟨rfl, hb1⟩; have hz1 := hb1.size; (try (simp at hz1)); obtain ⟨hcw1, hfw1⟩ := bcell hb1; (try (have hy1 : w.heap.size < w1.heap.size := by omega)); (try (have hyy1 : w.heap.size + 1 < w1.heap.size := by omega)); (try (have hyyy1 : w.heap.size + 1 + 1 < w1.heap.size := by omega))) | (go_at_call 49; refine (rfMost_any _ _).mono ?_; rintro e w' ⟨rfl, rfl⟩))
      go_ret2
      rw [HX.out]
      exact idx_nil (lsQ_no HX.out n) (by repeat (first | (with_reducible exact Below.refl _ _) | (with_reducible refine below_ov ?_ ?_) | (with_reducible refine Below.setCell ?_ ?_ _) | (with_reducible refine Below.alloc ?_ ?_ _) | (with_reducible refine Below.drew ?_) | (with_reducible refine below_drewN ?_ _) | (refine Below.trans ?_ (Below.mono ‹Below _ _ _› (by first | omega | (simp; done) | (simp; omega)))) | exact Below.refl _ _ | omega | (focus (simp; done)) | (focus (simp; omega))))
    | true =>
      obtain ⟨hc1_1l, hc1_1r⟩ := inB_iff.1 hc1_1
      have HX : Hid (lsOk c a b n q = true) := by show _ = _; simp [lsOk, *]
      have HP : Hid (pdB c a b n = true) := by show _ = _; assumption
      go_enter Try.func21, Try.ntmps21
      go_wp2_with (first | (go_at_call 40; refine (rfGood_any c a b n lo hi _ _ hv hhi hf).mono ?_; rintro e w1 ⟨rfl, hb1⟩; have hz1 := hb1.size; (try (simp at hz1)); obtain ⟨hcw1, hfw1⟩ := bcell hb1; (try (have hy1 : w.heap.size < w1.heap.size := by omega)); (try (have hyy1 : w.heap.size + 1 < w1.heap.size := by omega)); (try (have hyyy1 : w.heap.size + 1 + 1 < w1.heap.size := by omega))) | (go_at_call 49; refine (rfMost_any _ _).mono ?_; rintro e w' ⟨rfl, rfl⟩))
      have hb0 : Below w.heap.size w w1 := (by repeat (first | (with_reducible exact Below.refl _ _) | (with_reducible refine below_ov ?_ ?_) | (with_reducible refine Below.setCell ?_ ?_ _) | (with_reducible refine Below.alloc ?_ ?_ _) | (with_reducible refine Below.drew ?_) | (with_reducible refine below_drewN ?_ _) | (refine Below.trans ?_ (Below.mono ‹Below _ _ _› (by first | omega | (simp; done) | (simp; omega)))) | exact Below.refl _ _ | omega | (focus (simp; done)) | (focus (simp; omega))))
      go_loopw [6, 19] (fun o i wr => ∃ (k : Nat) (B : Option Addr) (cp : Nat), k ≤ n ∧ i = .int .i64 k ∧ o = .slice B (flt (lsQ c a b n q) k).length cp ∧ Hid (wr.ownsRow w.heap.size 3 1 (.slice B (flt (lsQ c a b n q) k).length cp) (flt (lsQ c a b n q) k).length (fltV (lsQ c a b n q) k)) ∧ Below w.heap.size w wr) (fun _ i _ => n - (intOf i).toNat)
      case atStart => exact ⟨0, none, 0, by omega, rfl, rfl, World.ownsRow_nil _ _ _ _, hb0⟩
      case round =>
        obtain ⟨k, B, cp, hk, rfl, rfl, hown, hb⟩ := hrel
        have hzr := hb.size
        have hfl := flt_len (lsQ c a b n q) k
        by_cases hkn : k < n
        · obtain ⟨blk, off, rfl, h1, h2, h3⟩ := (hA.below hb (by omega)) (by omega)
          have c0 : wr.cell? ⟨blk, off + k * 3, none⟩ = some (.string (c k)) := h3 k 0 hkn (by omega)
          have c1 : wr.cell? ⟨blk, off + k * 3 + 1, none⟩ = some (.int .i64 (a k)) := h3 k 1 hkn (by omega)
          have c2 : wr.cell? ⟨blk, off + k * 3 + 2, none⟩ = some (.int .i64 (b k)) := h3 k 2 hkn (by omega)
          have H3 := hide h3
          have l0 : blk < wr.heap.size := by omega
          clear h3 hA
          have hpk := (perB_iff.1 ((pd_facts HP.out).2 k hkn).1).2
          have hn12 := (pd_facts HP.out).1
          have hbd : -1 ≤ befI c k ∧ befI c k < k := lstI_bd _ _
          have hen := en_bd (i := k) HP.out (n - (k + 1)) (by omega)
          by_cases hlt : befI c k < 0
          · have E4 : Hid (befI c k < 0) := hlt
            have HPV : Hid (pvM c b (c k) k = -1) := by show _ = _; rw [pv_eq HP.out hkn, if_pos hlt]
            have dne : ((-1 : Int) != a k) = true := by rw [bne_iff_ne]; omega
            clear hlt
            cases e6 : decide (enF c a b k (n - (k + 1)) - a k > q) with
            | true =>
              have E6 : Hid (lsP c a b n q k = true) := by show _ = _; simp [lsP, E4.out]; have := of_decide_eq_true e6; omega
              have hT : lsQ c a b n q k = true := by rw [lsQ_at HX.out]; exact E6.out
              have HL : Hid ((flt (lsQ c a b n q) (k + 1)).length = (flt (lsQ c a b n q) k).length + 1) := by show _ = _; rw [flt_yes hT]; simp
              have HV : Hid (fltV (lsQ c a b n q) (k + 1) = fltV (lsQ c a b n q) k ++ [.int .i64 (k : Int)]) := by show _ = _; rw [fltV, flt_yes hT]; simp [fltV]
              clear hT
              go_wp2_with fail
              (refine wp_region_below_lit (by kernel_rfl) (by kernel_rfl) ?_; (repeat (first | go_big_quiet_step ((first | (go_at_call 54; exact quiet_ov (rfPrevious_at HPV.out lo hi _ _ (hv.below (B := w.heap.size) (by repeat (first | (with_reducible exact Below.refl _ _) | (with_reducible refine below_ov ?_ ?_) | (with_reducible refine Below.setCell ?_ ?_ _) | (with_reducible refine Below.alloc ?_ ?_ _) | (with_reducible refine Below.drew ?_) | (with_reducible refine below_drewN ?_ _) | (refine Below.trans ?_ (Below.mono ‹Below _ _ _› (by first | omega | (simp; done) | (simp; omega)))) | exact Below.refl _ _ | omega | (focus (simp; done)) | (focus (simp; omega)))) hhi) (by simp [ov]; omega) hn HP.out hkn)) | (go_at_call 55; exact quiet_ov (rfEnd_any c a b n k lo hi _ _ (hv.below (B := w.heap.size) (by repeat (first | (with_reducible exact Below.refl _ _) | (with_reducible refine below_ov ?_ ?_) | (with_reducible refine Below.setCell ?_ ?_ _) | (with_reducible refine Below.alloc ?_ ?_ _) | (with_reducible refine Below.drew ?_) | (with_reducible refine below_drewN ?_ _) | (refine Below.trans ?_ (Below.mono ‹Below _ _ _› (by first | omega | (simp; done) | (simp; omega)))) | exact Below.refl _ _ | omega | (focus (simp; done)) | (focus (simp; omega)))) hhi) (by simp [ov]; omega) hn hkn)))) | quiet_step ((first | (go_at_call 54; exact quiet_ov (rfPrevious_at HPV.out lo hi _ _ (hv.below (B := w.heap.size) (by repeat (first | (with_reducible exact Below.refl _ _) | (with_reducible refine below_ov ?_ ?_) | (with_reducible refine Below.setCell ?_ ?_ _) | (with_reducible refine Below.alloc ?_ ?_ _) | (with_reducible refine Below.drew ?_) | (with_reducible refine below_drewN ?_ _) | (refine Below.trans ?_ (Below.mono ‹Below _ _ _› (by first | omega | (simp; done) | (simp; omega)))) | exact Below.refl _ _ | omega | (focus (simp; done)) | (focus (simp; omega)))) hhi) (by simp [ov]; omega) hn HP.out hkn)) | (go_at_call 55; exact quiet_ov (rfEnd_any c a b n k lo hi _ _ (hv.below (B := w.heap.size) (by repeat (first | (with_reducible exact Below.refl _ _) | (with_reducible refine below_ov ?_ ?_) | (with_reducible refine Below.setCell ?_ ?_ _) | (with_reducible refine Below.alloc ?_ ?_ _) | (with_reducible refine Below.drew ?_) | (with_reducible refine below_drewN ?_ _) | (refine Below.trans ?_ (Below.mono ‹Below _ _ _› (by first | omega | (simp; done) | (simp; omega)))) | exact Below.refl _ _ | omega | (focus (simp; done)) | (focus (simp; omega)))) hhi) (by simp [ov]; omega) hn hkn)))))); refine wpQuiet_nil ?_; intro w6 hb6; have hz6 := hb6.size; (try (simp at hz6)); obtain ⟨hcw6, hfw6⟩ := bcell hb6; (try (have hy6 : w.heap.size < w6.heap.size := by omega)); (try (have hyy6 : w.heap.size + 1 < w6.heap.size := by omega)))
              have ho6 := hide (row_below ((hown.out).alloc _) hb6 (Nat.le_refl _))
              go_wp2_with (at_builtin; refine wpList_append_own _ rfl _ _ 41 rfl w.heap.size 3 ii (.int .i64 0) 1 8 Try.underlying41 hii iz0 iz1 iz2 rfl (by decide) _ _ _ rfl (ho6.out.alloc _) ⟨w6.heap.size, 0, none⟩ 1 1 [.int .i64 (k : Int)] rfl rfl ?_ ?_ ?_ ?_ ?_ ?_)
              · intro i u hu
                match i, hu with
                | 0, hu => simp at hu; subst hu; simp [go_sem, Addr.add]
              · intro u hu; simp at hu; subst hu; rfl
              · unfold maxLen; omega
              · omega
              · simp; omega
              intro v' w7 hown5 hg5 _
              have hb6w : Below w.heap.size w w6 := (by repeat (first | (with_reducible exact Below.refl _ _) | (with_reducible refine below_ov ?_ ?_) | (with_reducible refine Below.setCell ?_ ?_ _) | (with_reducible refine Below.alloc ?_ ?_ _) | (with_reducible refine Below.drew ?_) | (with_reducible refine below_drewN ?_ _) | (refine Below.trans ?_ (Below.mono ‹Below _ _ _› (by first | omega | (simp; done) | (simp; omega)))) | exact Below.refl _ _ | omega | (focus (simp; done)) | (focus (simp; omega))))
              have hb7 : Below w.heap.size w w7 := (hb6w.alloc (by omega) _).grown hg5 (by simp; omega) (fun g hg => (ho6.out.lt g hg).1)
              have hz7 := hb7.size
              obtain ⟨B2, cp2, rfl⟩ := row_form hown5
              have hown6 := hide hown5
              clear hown5 hg5 ho6
              go_wp2_with fail
              go_roundw
              case rel => exact ⟨k + 1, B2, cp2, by omega, by go_num, by rw [HL.out], by rw [HL.out, HV.out]; exact hown6, hb7⟩
              case measure => simp [intOf]; omega
            | false =>
              have E6 : Hid (lsP c a b n q k = false) := by show _ = _; simp [lsP, E4.out]; have := of_decide_eq_false e6; omega
              have hT : lsQ c a b n q k = false := by rw [lsQ_at HX.out]; exact E6.out
              have HL : Hid ((flt (lsQ c a b n q) (k + 1)) = flt (lsQ c a b n q) k) := by show _ = _; rw [flt_no hT]
              have HV : Hid (fltV (lsQ c a b n q) (k + 1) = fltV (lsQ c a b n q) k) := by show _ = _; rw [fltV, flt_no hT]; rfl
              clear hT
              go_wp2_with fail
              (refine wp_region_below_lit (by kernel_rfl) (by kernel_rfl) ?_; (repeat (first | go_big_quiet_step ((first | (go_at_call 54; exact quiet_ov (rfPrevious_at HPV.out lo hi _ _ (hv.below (B := w.heap.size) (by repeat (first | (with_reducible exact Below.refl _ _) | (with_reducible refine below_ov ?_ ?_) | (with_reducible refine Below.setCell ?_ ?_ _) | (with_reducible refine Below.alloc ?_ ?_ _) | (with_reducible refine Below.drew ?_) | (with_reducible refine below_drewN ?_ _) | (refine Below.trans ?_ (Below.mono ‹Below _ _ _› (by first | omega | (simp; done) | (simp; omega)))) | exact Below.refl _ _ | omega | (focus (simp; done)) | (focus (simp; omega)))) hhi) (by simp [ov]; omega) hn HP.out hkn)) | (go_at_call 55; exact quiet_ov (rfEnd_any c a b n k lo hi _ _ (hv.below (B := w.heap.size) (by repeat (first | (with_reducible exact Below.refl _ _) | (with_reducible refine below_ov ?_ ?_) | (with_reducible refine Below.setCell ?_ ?_ _) | (with_reducible refine Below.alloc ?_ ?_ _) | (with_reducible refine Below.drew ?_) | (with_reducible refine below_drewN ?_ _) | (refine Below.trans ?_ (Below.mono ‹Below _ _ _› (by first | omega | (simp; done) | (simp; omega)))) | exact Below.refl _ _ | omega | (focus (simp; done)) | (focus (simp; omega)))) hhi) (by simp [ov]; omega) hn hkn)))) | quiet_step ((first | (go_at_call 54; exact quiet_ov (rfPrevious_at HPV.out lo hi _ _ (hv.below (B := w.heap.size) (by repeat (first | (with_reducible exact Below.refl _ _) | (with_reducible refine below_ov ?_ ?_) | (with_reducible refine Below.setCell ?_ ?_ _) | (with_reducible refine Below.alloc ?_ ?_ _) | (with_reducible refine Below.drew ?_) | (with_reducible refine below_drewN ?_ _) | (refine Below.trans ?_ (Below.mono ‹Below _ _ _› (by first | omega | (simp; done) | (simp; omega)))) | exact Below.refl _ _ | omega | (focus (simp; done)) | (focus (simp; omega)))) hhi) (by simp [ov]; omega) hn HP.out hkn)) | (go_at_call 55; exact quiet_ov (rfEnd_any c a b n k lo hi _ _ (hv.below (B := w.heap.size) (by repeat (first | (with_reducible exact Below.refl _ _) | (with_reducible refine below_ov ?_ ?_) | (with_reducible refine Below.setCell ?_ ?_ _) | (with_reducible refine Below.alloc ?_ ?_ _) | (with_reducible refine Below.drew ?_) | (with_reducible refine below_drewN ?_ _) | (refine Below.trans ?_ (Below.mono ‹Below _ _ _› (by first | omega | (simp; done) | (simp; omega)))) | exact Below.refl _ _ | omega | (focus (simp; done)) | (focus (simp; omega)))) hhi) (by simp [ov]; omega) hn hkn)))))); refine wpQuiet_nil ?_; intro w6 hb6; have hz6 := hb6.size; (try (simp at hz6)); obtain ⟨hcw6, hfw6⟩ := bcell hb6; (try (have hy6 : w.heap.size < w6.heap.size := by omega)); (try (have hyy6 : w.heap.size + 1 < w6.heap.size := by omega)))
              have ho6 := hide (row_below ((hown.out).alloc _) hb6 (Nat.le_refl _))
              go_wp2_with fail
              go_roundw
              case rel => exact ⟨k + 1, B, cp, by omega, by go_num, by rw [HL.out], by rw [HL.out, HV.out]; exact ho6, (by repeat (first | (with_reducible exact Below.refl _ _) | (with_reducible refine below_ov ?_ ?_) | (with_reducible refine Below.setCell ?_ ?_ _) | (with_reducible refine Below.alloc ?_ ?_ _) | (with_reducible refine Below.drew ?_) | (with_reducible refine below_drewN ?_ _) | (refine Below.trans ?_ (Below.mono ‹Below _ _ _› (by first | omega | (simp; done) | (simp; omega)))) | exact Below.refl _ _ | omega | (focus (simp; done)) | (focus (simp; omega))))⟩
              case measure => simp [intOf]; omega
          · obtain ⟨j, hjj⟩ : ∃ j : Nat, befI c k = j := ⟨(befI c k).toNat, by omega⟩
            have hjk : j < k := (befI_facts hjj).1
            have JJ := hide hjj
            have hpj := (perB_iff.1 ((pd_facts HP.out).2 j (by omega)).1).2
            have hble := bef_le HP.out hkn hjj
            have q0 : (0 : Int) ≤ (j : Int) := by omega
            have q1 : (j : Int) < (n : Int) := by omega
            have HPV : Hid (pvM c b (c k) k = b j) := by show _ = _; rw [pv_eq HP.out hkn, hjj, if_neg (by omega), Int.toNat_natCast]
            clear hjj hlt hbd
            by_cases hg : b j < a k
            · have G0 := hide hg
              have dne : (b j != a k) = true := by rw [bne_iff_ne]; omega
              clear hg
              cases e6 : decide (enF c a b k (n - (k + 1)) - a k > q) with
              | true =>
                have E6 : Hid (lsP c a b n q k = true) := by show _ = _; simp [lsP, JJ.out, G0.out]; have := of_decide_eq_true e6; omega
                have hT : lsQ c a b n q k = true := by rw [lsQ_at HX.out]; exact E6.out
                have HL : Hid ((flt (lsQ c a b n q) (k + 1)).length = (flt (lsQ c a b n q) k).length + 1) := by show _ = _; rw [flt_yes hT]; simp
                have HV : Hid (fltV (lsQ c a b n q) (k + 1) = fltV (lsQ c a b n q) k ++ [.int .i64 (k : Int)]) := by show _ = _; rw [fltV, flt_yes hT]; simp [fltV]
                clear hT
                go_wp2_with fail
                (refine wp_region_below_lit (by kernel_rfl) (by kernel_rfl) ?_; (repeat (first | go_big_quiet_step ((first | (go_at_call 54; exact quiet_ov (rfPrevious_at HPV.out lo hi _ _ (hv.below (B := w.heap.size) (by repeat (first | (with_reducible exact Below.refl _ _) | (with_reducible refine below_ov ?_ ?_) | (with_reducible refine Below.setCell ?_ ?_ _) | (with_reducible refine Below.alloc ?_ ?_ _) | (with_reducible refine Below.drew ?_) | (with_reducible refine below_drewN ?_ _) | (refine Below.trans ?_ (Below.mono ‹Below _ _ _› (by first | omega | (simp; done) | (simp; omega)))) | exact Below.refl _ _ | omega | (focus (simp; done)) | (focus (simp; omega)))) hhi) (by simp [ov]; omega) hn HP.out hkn)) | (go_at_call 55; exact quiet_ov (rfEnd_any c a b n k lo hi _ _ (hv.below (B := w.heap.size) (by repeat (first | (with_reducible exact Below.refl _ _) | (with_reducible refine below_ov ?_ ?_) | (with_reducible refine Below.setCell ?_ ?_ _) | (with_reducible refine Below.alloc ?_ ?_ _) | (with_reducible refine Below.drew ?_) | (with_reducible refine below_drewN ?_ _) | (refine Below.trans ?_ (Below.mono ‹Below _ _ _› (by first | omega | (simp; done) | (simp; omega)))) | exact Below.refl _ _ | omega | (focus (simp; done)) | (focus (simp; omega)))) hhi) (by simp [ov]; omega) hn hkn)))) | quiet_step ((first | (go_at_call 54; exact quiet_ov (rfPrevious_at HPV.out lo hi _ _ (hv.below (B := w.heap.size) (by repeat (first | (with_reducible exact Below.refl _ _) | (with_reducible refine below_ov ?_ ?_) | (with_reducible refine Below.setCell ?_ ?_ _) | (with_reducible refine Below.alloc ?_ ?_ _) | (with_reducible refine Below.drew ?_) | (with_reducible refine below_drewN ?_ _) | (refine Below.trans ?_ (Below.mono ‹Below _ _ _› (by first | omega | (simp; done) | (simp; omega)))) | exact Below.refl _ _ | omega | (focus (simp; done)) | (focus (simp; omega)))) hhi) (by simp [ov]; omega) hn HP.out hkn)) | (go_at_call 55; exact quiet_ov (rfEnd_any c a b n k lo hi _ _ (hv.below (B := w.heap.size) (by repeat (first | (with_reducible exact Below.refl _ _) | (with_reducible refine below_ov ?_ ?_) | (with_reducible refine Below.setCell ?_ ?_ _) | (with_reducible refine Below.alloc ?_ ?_ _) | (with_reducible refine Below.drew ?_) | (with_reducible refine below_drewN ?_ _) | (refine Below.trans ?_ (Below.mono ‹Below _ _ _› (by first | omega | (simp; done) | (simp; omega)))) | exact Below.refl _ _ | omega | (focus (simp; done)) | (focus (simp; omega)))) hhi) (by simp [ov]; omega) hn hkn)))))); refine wpQuiet_nil ?_; intro w6 hb6; have hz6 := hb6.size; (try (simp at hz6)); obtain ⟨hcw6, hfw6⟩ := bcell hb6; (try (have hy6 : w.heap.size < w6.heap.size := by omega)); (try (have hyy6 : w.heap.size + 1 < w6.heap.size := by omega)))
                have ho6 := hide (row_below ((hown.out).alloc _) hb6 (Nat.le_refl _))
                go_wp2_with (at_builtin; refine wpList_append_own _ rfl _ _ 41 rfl w.heap.size 3 ii (.int .i64 0) 1 8 Try.underlying41 hii iz0 iz1 iz2 rfl (by decide) _ _ _ rfl (ho6.out.alloc _) ⟨w6.heap.size, 0, none⟩ 1 1 [.int .i64 (k : Int)] rfl rfl ?_ ?_ ?_ ?_ ?_ ?_)
                · intro i u hu
                  match i, hu with
                  | 0, hu => simp at hu; subst hu; simp [go_sem, Addr.add]
                · intro u hu; simp at hu; subst hu; rfl
                · unfold maxLen; omega
                · omega
                · simp; omega
                intro v' w7 hown5 hg5 _
                have hb6w : Below w.heap.size w w6 := (by repeat (first | (with_reducible exact Below.refl _ _) | (with_reducible refine below_ov ?_ ?_) | (with_reducible refine Below.setCell ?_ ?_ _) | (with_reducible refine Below.alloc ?_ ?_ _) | (with_reducible refine Below.drew ?_) | (with_reducible refine below_drewN ?_ _) | (refine Below.trans ?_ (Below.mono ‹Below _ _ _› (by first | omega | (simp; done) | (simp; omega)))) | exact Below.refl _ _ | omega | (focus (simp; done)) | (focus (simp; omega))))
                have hb7 : Below w.heap.size w w7 := (hb6w.alloc (by omega) _).grown hg5 (by simp; omega) (fun g hg => (ho6.out.lt g hg).1)
                have hz7 := hb7.size
                obtain ⟨B2, cp2, rfl⟩ := row_form hown5
                have hown6 := hide hown5
                clear hown5 hg5 ho6
                go_wp2_with fail
                go_roundw
                case rel => exact ⟨k + 1, B2, cp2, by omega, by go_num, by rw [HL.out], by rw [HL.out, HV.out]; exact hown6, hb7⟩
                case measure => simp [intOf]; omega
              | false =>
                have E6 : Hid (lsP c a b n q k = false) := by show _ = _; simp [lsP, JJ.out, G0.out]; have := of_decide_eq_false e6; omega
                have hT : lsQ c a b n q k = false := by rw [lsQ_at HX.out]; exact E6.out
                have HL : Hid ((flt (lsQ c a b n q) (k + 1)) = flt (lsQ c a b n q) k) := by show _ = _; rw [flt_no hT]
                have HV : Hid (fltV (lsQ c a b n q) (k + 1) = fltV (lsQ c a b n q) k) := by show _ = _; rw [fltV, flt_no hT]; rfl
                clear hT
                go_wp2_with fail
                (refine wp_region_below_lit (by kernel_rfl) (by kernel_rfl) ?_; (repeat (first | go_big_quiet_step ((first | (go_at_call 54; exact quiet_ov (rfPrevious_at HPV.out lo hi _ _ (hv.below (B := w.heap.size) (by repeat (first | (with_reducible exact Below.refl _ _) | (with_reducible refine below_ov ?_ ?_) | (with_reducible refine Below.setCell ?_ ?_ _) | (with_reducible refine Below.alloc ?_ ?_ _) | (with_reducible refine Below.drew ?_) | (with_reducible refine below_drewN ?_ _) | (refine Below.trans ?_ (Below.mono ‹Below _ _ _› (by first | omega | (simp; done) | (simp; omega)))) | exact Below.refl _ _ | omega | (focus (simp; done)) | (focus (simp; omega)))) hhi) (by simp [ov]; omega) hn HP.out hkn)) | (go_at_call 55; exact quiet_ov (rfEnd_any c a b n k lo hi _ _ (hv.below (B := w.heap.size) (by repeat (first | (with_reducible exact Below.refl _ _) | (with_reducible refine below_ov ?_ ?_) | (with_reducible refine Below.setCell ?_ ?_ _) | (with_reducible refine Below.alloc ?_ ?_ _) | (with_reducible refine Below.drew ?_) | (with_reducible refine below_drewN ?_ _) | (refine Below.trans ?_ (Below.mono ‹Below _ _ _› (by first | omega | (simp; done) | (simp; omega)))) | exact Below.refl _ _ | omega | (focus (simp; done)) | (focus (simp; omega)))) hhi) (by simp [ov]; omega) hn hkn)))) | quiet_step ((first | (go_at_call 54; exact quiet_ov (rfPrevious_at HPV.out lo hi _ _ (hv.below (B := w.heap.size) (by repeat (first | (with_reducible exact Below.refl _ _) | (with_reducible refine below_ov ?_ ?_) | (with_reducible refine Below.setCell ?_ ?_ _) | (with_reducible refine Below.alloc ?_ ?_ _) | (with_reducible refine Below.drew ?_) | (with_reducible refine below_drewN ?_ _) | (refine Below.trans ?_ (Below.mono ‹Below _ _ _› (by first | omega | (simp; done) | (simp; omega)))) | exact Below.refl _ _ | omega | (focus (simp; done)) | (focus (simp; omega)))) hhi) (by simp [ov]; omega) hn HP.out hkn)) | (go_at_call 55; exact quiet_ov (rfEnd_any c a b n k lo hi _ _ (hv.below (B := w.heap.size) (by repeat (first | (with_reducible exact Below.refl _ _) | (with_reducible refine below_ov ?_ ?_) | (with_reducible refine Below.setCell ?_ ?_ _) | (with_reducible refine Below.alloc ?_ ?_ _) | (with_reducible refine Below.drew ?_) | (with_reducible refine below_drewN ?_ _) | (refine Below.trans ?_ (Below.mono ‹Below _ _ _› (by first | omega | (simp; done) | (simp; omega)))) | exact Below.refl _ _ | omega | (focus (simp; done)) | (focus (simp; omega)))) hhi) (by simp [ov]; omega) hn hkn)))))); refine wpQuiet_nil ?_; intro w6 hb6; have hz6 := hb6.size; (try (simp at hz6)); obtain ⟨hcw6, hfw6⟩ := bcell hb6; (try (have hy6 : w.heap.size < w6.heap.size := by omega)); (try (have hyy6 : w.heap.size + 1 < w6.heap.size := by omega)))
                have ho6 := hide (row_below ((hown.out).alloc _) hb6 (Nat.le_refl _))
                go_wp2_with fail
                go_roundw
                case rel => exact ⟨k + 1, B, cp, by omega, by go_num, by rw [HL.out], by rw [HL.out, HV.out]; exact ho6, (by repeat (first | (with_reducible exact Below.refl _ _) | (with_reducible refine below_ov ?_ ?_) | (with_reducible refine Below.setCell ?_ ?_ _) | (with_reducible refine Below.alloc ?_ ?_ _) | (with_reducible refine Below.drew ?_) | (with_reducible refine below_drewN ?_ _) | (refine Below.trans ?_ (Below.mono ‹Below _ _ _› (by first | omega | (simp; done) | (simp; omega)))) | exact Below.refl _ _ | omega | (focus (simp; done)) | (focus (simp; omega))))⟩
                case measure => simp [intOf]; omega
            · have G0 := hide hg
              have dne : (b j != a k) = false := by rw [bne_eq_false_iff_eq]; omega
              have E6 : Hid (lsP c a b n q k = false) := by show _ = _; simp [lsP, JJ.out]; intro h; exact absurd h (by have := G0.out; omega)
              clear hg
              have hT : lsQ c a b n q k = false := by rw [lsQ_at HX.out]; exact E6.out
              have HL : Hid ((flt (lsQ c a b n q) (k + 1)) = flt (lsQ c a b n q) k) := by show _ = _; rw [flt_no hT]
              have HV : Hid (fltV (lsQ c a b n q) (k + 1) = fltV (lsQ c a b n q) k) := by show _ = _; rw [fltV, flt_no hT]; rfl
              clear hT
              go_wp2_with fail
              (refine wp_region_below_lit (by kernel_rfl) (by kernel_rfl) ?_; (repeat (first | go_big_quiet_step ((first | (go_at_call 54; exact quiet_ov (rfPrevious_at HPV.out lo hi _ _ (hv.below (B := w.heap.size) (by repeat (first | (with_reducible exact Below.refl _ _) | (with_reducible refine below_ov ?_ ?_) | (with_reducible refine Below.setCell ?_ ?_ _) | (with_reducible refine Below.alloc ?_ ?_ _) | (with_reducible refine Below.drew ?_) | (with_reducible refine below_drewN ?_ _) | (refine Below.trans ?_ (Below.mono ‹Below _ _ _› (by first | omega | (simp; done) | (simp; omega)))) | exact Below.refl _ _ | omega | (focus (simp; done)) | (focus (simp; omega)))) hhi) (by simp [ov]; omega) hn HP.out hkn)) | (go_at_call 55; exact quiet_ov (rfEnd_any c a b n k lo hi _ _ (hv.below (B := w.heap.size) (by repeat (first | (with_reducible exact Below.refl _ _) | (with_reducible refine below_ov ?_ ?_) | (with_reducible refine Below.setCell ?_ ?_ _) | (with_reducible refine Below.alloc ?_ ?_ _) | (with_reducible refine Below.drew ?_) | (with_reducible refine below_drewN ?_ _) | (refine Below.trans ?_ (Below.mono ‹Below _ _ _› (by first | omega | (simp; done) | (simp; omega)))) | exact Below.refl _ _ | omega | (focus (simp; done)) | (focus (simp; omega)))) hhi) (by simp [ov]; omega) hn hkn)))) | quiet_step ((first | (go_at_call 54; exact quiet_ov (rfPrevious_at HPV.out lo hi _ _ (hv.below (B := w.heap.size) (by repeat (first | (with_reducible exact Below.refl _ _) | (with_reducible refine below_ov ?_ ?_) | (with_reducible refine Below.setCell ?_ ?_ _) | (with_reducible refine Below.alloc ?_ ?_ _) | (with_reducible refine Below.drew ?_) | (with_reducible refine below_drewN ?_ _) | (refine Below.trans ?_ (Below.mono ‹Below _ _ _› (by first | omega | (simp; done) | (simp; omega)))) | exact Below.refl _ _ | omega | (focus (simp; done)) | (focus (simp; omega)))) hhi) (by simp [ov]; omega) hn HP.out hkn)) | (go_at_call 55; exact quiet_ov (rfEnd_any c a b n k lo hi _ _ (hv.below (B := w.heap.size) (by repeat (first | (with_reducible exact Below.refl _ _) | (with_reducible refine below_ov ?_ ?_) | (with_reducible refine Below.setCell ?_ ?_ _) | (with_reducible refine Below.alloc ?_ ?_ _) | (with_reducible refine Below.drew ?_) | (with_reducible refine below_drewN ?_ _) | (refine Below.trans ?_ (Below.mono ‹Below _ _ _› (by first | omega | (simp; done) | (simp; omega)))) | exact Below.refl _ _ | omega | (focus (simp; done)) | (focus (simp; omega)))) hhi) (by simp [ov]; omega) hn hkn)))))); refine wpQuiet_nil ?_; intro w6 hb6; have hz6 := hb6.size; (try (simp at hz6)); obtain ⟨hcw6, hfw6⟩ := bcell hb6; (try (have hy6 : w.heap.size < w6.heap.size := by omega)); (try (have hyy6 : w.heap.size + 1 < w6.heap.size := by omega)))
              have ho6 := hide (row_below ((hown.out).alloc _) hb6 (Nat.le_refl _))
              go_wp2_with fail
              go_roundw
              case rel => exact ⟨k + 1, B, cp, by omega, by go_num, by rw [HL.out], by rw [HL.out, HV.out]; exact ho6, (by repeat (first | (with_reducible exact Below.refl _ _) | (with_reducible refine below_ov ?_ ?_) | (with_reducible refine Below.setCell ?_ ?_ _) | (with_reducible refine Below.alloc ?_ ?_ _) | (with_reducible refine Below.drew ?_) | (with_reducible refine below_drewN ?_ _) | (refine Below.trans ?_ (Below.mono ‹Below _ _ _› (by first | omega | (simp; done) | (simp; omega)))) | exact Below.refl _ _ | omega | (focus (simp; done)) | (focus (simp; omega))))⟩
              case measure => simp [intOf]; omega
        · obtain rfl : k = n := by omega
          go_wp2_with fail
          go_ret2
          rw [HX.out]
          exact ⟨_, rfl, (own_flt hown.out), hb⟩
set_option maxRecDepth 100000 in
set_option maxHeartbeats 3200000 in
theorem LongSpells_impl (c : Nat → ByteArray) (a b : Nat → Int) (n : Nat) (q : Int) (lo hi : Nat) (v : Value) (w : World) (hv : Sl w lo hi 3 v n (siiC c a b)) (hhi : hi ≤ w.heap.size) (hf : pfits c n) :
    Calls Try.prog 20 #[v, .int .i64 q] w (IdxRes (lsQ c a b n q) n (lsOk c a b n q) w) := by
  obtain ⟨A, cap, rfl, hcap, hA⟩ := hv.open_
  have hn := hf.1
  obtain ⟨ii, hii, iz0, iz1, iz2⟩ := info_parts infoIntN
  cases hc2_0 : pdB c a b n with
  | false =>
    have HX : Hid (lsOk c a b n q = false) := by show _ = _; simp [lsOk, *]
    go_enter Try.func20, Try.ntmps20
    go_wp2_with (first | (go_at_call 30; refine (arePeriods_any c a b n lo hi _ _ hv hhi hf).mono ?_; rintro e w1 ⟨rfl, hb1⟩; have hz1 := hb1.size; (try (simp at hz1)); obtain ⟨hcw1, hfw1⟩ := bcell hb1; (try (have hy1 : w.heap.size < w1.heap.size := by omega)); (try (have hyy1 : w.heap.size + 1 < w1.heap.size := by omega)); (try (have hyyy1 : w.heap.size + 1 + 1 < w1.heap.size := by omega))) | (go_at_call 33; refine (inside_any _ _ _ _).mono ?_; rintro e w' ⟨rfl, rfl⟩))
    go_ret2
    rw [HX.out]
    exact idx_nil (lsQ_no HX.out n) (by repeat (first | (with_reducible exact Below.refl _ _) | (with_reducible refine below_ov ?_ ?_) | (with_reducible refine Below.setCell ?_ ?_ _) | (with_reducible refine Below.alloc ?_ ?_ _) | (with_reducible refine Below.drew ?_) | (with_reducible refine below_drewN ?_ _) | (refine Below.trans ?_ (Below.mono ‹Below _ _ _› (by first | omega | (simp; done) | (simp; omega)))) | exact Below.refl _ _ | omega | (focus (simp; done)) | (focus (simp; omega))))
  | true =>
    cases hc2_1 : inB q 1 720 with
    | false =>
      have HX : Hid (lsOk c a b n q = false) := by show _ = _; simp [lsOk, *]
      go_enter Try.func20, Try.ntmps20
      go_wp2_with (first | (go_at_call 30; refine (arePeriods_any c a b n lo hi _ _ hv hhi hf).mono ?_; rintro e w1 ⟨rfl, hb1⟩; have hz1 := hb1.size; (try (simp at hz1)); obtain ⟨hcw1, hfw1⟩ := bcell hb1; (try (have hy1 : w.heap.size < w1.heap.size := by omega)); (try (have hyy1 : w.heap.size + 1 < w1.heap.size := by omega)); (try (have hyyy1 : w.heap.size + 1 + 1 < w1.heap.size := by omega))) | (go_at_call 33; refine (inside_any _ _ _ _).mono ?_; rintro e w' ⟨rfl, rfl⟩))
      go_ret2
      rw [HX.out]
      exact idx_nil (lsQ_no HX.out n) (by repeat (first | (with_reducible exact Below.refl _ _) | (with_reducible refine below_ov ?_ ?_) | (with_reducible refine Below.setCell ?_ ?_ _) | (with_reducible refine Below.alloc ?_ ?_ _) | (with_reducible refine Below.drew ?_) | (with_reducible refine below_drewN ?_ _) | (refine Below.trans ?_ (Below.mono ‹Below _ _ _› (by first | omega | (simp; done) | (simp; omega)))) | exact Below.refl _ _ | omega | (focus (simp; done)) | (focus (simp; omega))))
    | true =>
      obtain ⟨hc2_1l, hc2_1r⟩ := inB_iff.1 hc2_1
      have HX : Hid (lsOk c a b n q = true) := by show _ = _; simp [lsOk, *]
      have HP : Hid (pdB c a b n = true) := by show _ = _; assumption
      go_enter Try.func20, Try.ntmps20
      go_wp2_with (first | (go_at_call 30; refine (arePeriods_any c a b n lo hi _ _ hv hhi hf).mono ?_; rintro e w1 ⟨rfl, hb1⟩; have hz1 := hb1.size; (try (simp at hz1)); obtain ⟨hcw1, hfw1⟩ := bcell hb1; (try (have hy1 : w.heap.size < w1.heap.size := by omega)); (try (have hyy1 : w.heap.size + 1 < w1.heap.size := by omega)); (try (have hyyy1 : w.heap.size + 1 + 1 < w1.heap.size := by omega))) | (go_at_call 33; refine (inside_any _ _ _ _).mono ?_; rintro e w' ⟨rfl, rfl⟩))
      have hb0 : Below w.heap.size w w1 := (by repeat (first | (with_reducible exact Below.refl _ _) | (with_reducible refine below_ov ?_ ?_) | (with_reducible refine Below.setCell ?_ ?_ _) | (with_reducible refine Below.alloc ?_ ?_ _) | (with_reducible refine Below.drew ?_) | (with_reducible refine below_drewN ?_ _) | (refine Below.trans ?_ (Below.mono ‹Below _ _ _› (by first | omega | (simp; done) | (simp; omega)))) | exact Below.refl _ _ | omega | (focus (simp; done)) | (focus (simp; omega))))
      go_loopw [6, 20] (fun o i wr => ∃ (k : Nat) (B : Option Addr) (cp : Nat), k ≤ n ∧ i = .int .i64 k ∧ o = .slice B (flt (lsQ c a b n q) k).length cp ∧ Hid (wr.ownsRow w.heap.size 3 1 (.slice B (flt (lsQ c a b n q) k).length cp) (flt (lsQ c a b n q) k).length (fltV (lsQ c a b n q) k)) ∧ Below w.heap.size w wr) (fun _ i _ => n - (intOf i).toNat)
      case atStart => exact ⟨0, none, 0, by omega, rfl, rfl, World.ownsRow_nil _ _ _ _, hb0⟩
      case round =>
        obtain ⟨k, B, cp, hk, rfl, rfl, hown, hb⟩ := hrel
        have hzr := hb.size
        have hfl := flt_len (lsQ c a b n q) k
        by_cases hkn : k < n
        · obtain ⟨blk, off, rfl, h1, h2, h3⟩ := (hA.below hb (by omega)) (by omega)
          have c0 : wr.cell? ⟨blk, off + k * 3, none⟩ = some (.string (c k)) := h3 k 0 hkn (by omega)
          have c1 : wr.cell? ⟨blk, off + k * 3 + 1, none⟩ = some (.int .i64 (a k)) := h3 k 1 hkn (by omega)
          have c2 : wr.cell? ⟨blk, off + k * 3 + 2, none⟩ = some (.int .i64 (b k)) := h3 k 2 hkn (by omega)
          have H3 := hide h3
          have l0 : blk < wr.heap.size := by omega
          clear h3 hA
          have hpk := (perB_iff.1 ((pd_facts HP.out).2 k hkn).1).2
          have hn12 := (pd_facts HP.out).1
          have hbd : -1 ≤ befI c k ∧ befI c k < k := lstI_bd _ _
          have hen := en_bd (i := k) HP.out (n - (k + 1)) (by omega)
          go_wp2_with fail
          refine (periodBefore_any c a b n k lo hi _ _ (hv.below (B := w.heap.size) (by repeat (first | (with_reducible exact Below.refl _ _) | (with_reducible refine below_ov ?_ ?_) | (with_reducible refine Below.setCell ?_ ?_ _) | (with_reducible refine Below.alloc ?_ ?_ _) | (with_reducible refine Below.drew ?_) | (with_reducible refine below_drewN ?_ _) | (refine Below.trans ?_ (Below.mono ‹Below _ _ _› (by first | omega | (simp; done) | (simp; omega)))) | exact Below.refl _ _ | omega | (focus (simp; done)) | (focus (simp; omega)))) hhi) (by first | omega | (simp; done) | (simp; omega)) hn hkn).mono ?_
          rintro e w4 ⟨rfl, hb4⟩
          have hz4 := hb4.size
          (try (simp at hz4))
          have ho4 := hide (row_below ((hown.out).alloc _) hb4 (Nat.le_refl _))
          have l4 : wr.heap.size < w4.heap.size := by omega
          have l7 : blk < w4.heap.size := by omega
          have pa1 := (hb4.cell (p := ⟨wr.heap.size, 1, none⟩) (by simp)).trans (World.cell?_alloc_new _ _ _ _)
          simp at pa1
          by_cases hlt : befI c k < 0
          · have E4 : Hid (befI c k < 0) := hlt
            have d0 : decide (befI c k < 0) = true := decide_eq_true hlt
            clear hlt
            cases e6 : decide (enF c a b k (n - (k + 1)) - a k > q) with
            | true =>
              have E6 : Hid (lsP c a b n q k = true) := by show _ = _; simp [lsP, E4.out]; have := of_decide_eq_true e6; omega
              have hT : lsQ c a b n q k = true := by rw [lsQ_at HX.out]; exact E6.out
              have HL : Hid ((flt (lsQ c a b n q) (k + 1)).length = (flt (lsQ c a b n q) k).length + 1) := by show _ = _; rw [flt_yes hT]; simp
              have HV : Hid (fltV (lsQ c a b n q) (k + 1) = fltV (lsQ c a b n q) k ++ [.int .i64 (k : Int)]) := by show _ = _; rw [fltV, flt_yes hT]; simp [fltV]
              clear hT
              go_wp2_with fail
              (refine wp_region_below_lit (by kernel_rfl) (by kernel_rfl) ?_; (repeat (first | go_big_quiet_step ((go_at_call 53; exact quiet_ov (spellEnd_any c a b n k lo hi _ _ (hv.below (B := w.heap.size) (by repeat (first | (with_reducible exact Below.refl _ _) | (with_reducible refine below_ov ?_ ?_) | (with_reducible refine Below.setCell ?_ ?_ _) | (with_reducible refine Below.alloc ?_ ?_ _) | (with_reducible refine Below.drew ?_) | (with_reducible refine below_drewN ?_ _) | (refine Below.trans ?_ (Below.mono ‹Below _ _ _› (by first | omega | (simp; done) | (simp; omega)))) | exact Below.refl _ _ | omega | (focus (simp; done)) | (focus (simp; omega)))) hhi) (by simp [ov]; omega) hn hkn))) | quiet_step ((go_at_call 53; exact quiet_ov (spellEnd_any c a b n k lo hi _ _ (hv.below (B := w.heap.size) (by repeat (first | (with_reducible exact Below.refl _ _) | (with_reducible refine below_ov ?_ ?_) | (with_reducible refine Below.setCell ?_ ?_ _) | (with_reducible refine Below.alloc ?_ ?_ _) | (with_reducible refine Below.drew ?_) | (with_reducible refine below_drewN ?_ _) | (refine Below.trans ?_ (Below.mono ‹Below _ _ _› (by first | omega | (simp; done) | (simp; omega)))) | exact Below.refl _ _ | omega | (focus (simp; done)) | (focus (simp; omega)))) hhi) (by simp [ov]; omega) hn hkn))))); refine wpQuiet_nil ?_; intro w6 hb6; have hz6 := hb6.size; (try (simp at hz6)); obtain ⟨hcw6, hfw6⟩ := bcell hb6; (try (have hy6 : w.heap.size < w6.heap.size := by omega)); (try (have hyy6 : w.heap.size + 1 < w6.heap.size := by omega)))
              have ho6 := hide (row_below ho4.out hb6 (Nat.le_refl _))
              go_wp2_with (at_builtin; refine wpList_append_own _ rfl _ _ 41 rfl w.heap.size 3 ii (.int .i64 0) 1 8 Try.underlying41 hii iz0 iz1 iz2 rfl (by decide) _ _ _ rfl (ho6.out.alloc _) ⟨w6.heap.size, 0, none⟩ 1 1 [.int .i64 (k : Int)] rfl rfl ?_ ?_ ?_ ?_ ?_ ?_)
              · intro i u hu
                match i, hu with
                | 0, hu => simp at hu; subst hu; simp [go_sem, Addr.add]
              · intro u hu; simp at hu; subst hu; rfl
              · unfold maxLen; omega
              · omega
              · simp; omega
              intro v' w7 hown5 hg5 _
              have hb6w : Below w.heap.size w w6 := (by repeat (first | (with_reducible exact Below.refl _ _) | (with_reducible refine below_ov ?_ ?_) | (with_reducible refine Below.setCell ?_ ?_ _) | (with_reducible refine Below.alloc ?_ ?_ _) | (with_reducible refine Below.drew ?_) | (with_reducible refine below_drewN ?_ _) | (refine Below.trans ?_ (Below.mono ‹Below _ _ _› (by first | omega | (simp; done) | (simp; omega)))) | exact Below.refl _ _ | omega | (focus (simp; done)) | (focus (simp; omega))))
              have hb7 : Below w.heap.size w w7 := (hb6w.alloc (by omega) _).grown hg5 (by simp; omega) (fun g hg => (ho6.out.lt g hg).1)
              have hz7 := hb7.size
              obtain ⟨B2, cp2, rfl⟩ := row_form hown5
              have hown6 := hide hown5
              clear hown5 hg5 ho6
              go_wp2_with fail
              go_roundw
              case rel => exact ⟨k + 1, B2, cp2, by omega, by go_num, by rw [HL.out], by rw [HL.out, HV.out]; exact hown6, hb7⟩
              case measure => simp [intOf]; omega
            | false =>
              have E6 : Hid (lsP c a b n q k = false) := by show _ = _; simp [lsP, E4.out]; have := of_decide_eq_false e6; omega
              have hT : lsQ c a b n q k = false := by rw [lsQ_at HX.out]; exact E6.out
              have HL : Hid ((flt (lsQ c a b n q) (k + 1)) = flt (lsQ c a b n q) k) := by show _ = _; rw [flt_no hT]
              have HV : Hid (fltV (lsQ c a b n q) (k + 1) = fltV (lsQ c a b n q) k) := by show _ = _; rw [fltV, flt_no hT]; rfl
              clear hT
              go_wp2_with fail
              (refine wp_region_below_lit (by kernel_rfl) (by kernel_rfl) ?_; (repeat (first | go_big_quiet_step ((go_at_call 53; exact quiet_ov (spellEnd_any c a b n k lo hi _ _ (hv.below (B := w.heap.size) (by repeat (first | (with_reducible exact Below.refl _ _) | (with_reducible refine below_ov ?_ ?_) | (with_reducible refine Below.setCell ?_ ?_ _) | (with_reducible refine Below.alloc ?_ ?_ _) | (with_reducible refine Below.drew ?_) | (with_reducible refine below_drewN ?_ _) | (refine Below.trans ?_ (Below.mono ‹Below _ _ _› (by first | omega | (simp; done) | (simp; omega)))) | exact Below.refl _ _ | omega | (focus (simp; done)) | (focus (simp; omega)))) hhi) (by simp [ov]; omega) hn hkn))) | quiet_step ((go_at_call 53; exact quiet_ov (spellEnd_any c a b n k lo hi _ _ (hv.below (B := w.heap.size) (by repeat (first | (with_reducible exact Below.refl _ _) | (with_reducible refine below_ov ?_ ?_) | (with_reducible refine Below.setCell ?_ ?_ _) | (with_reducible refine Below.alloc ?_ ?_ _) | (with_reducible refine Below.drew ?_) | (with_reducible refine below_drewN ?_ _) | (refine Below.trans ?_ (Below.mono ‹Below _ _ _› (by first | omega | (simp; done) | (simp; omega)))) | exact Below.refl _ _ | omega | (focus (simp; done)) | (focus (simp; omega)))) hhi) (by simp [ov]; omega) hn hkn))))); refine wpQuiet_nil ?_; intro w6 hb6; have hz6 := hb6.size; (try (simp at hz6)); obtain ⟨hcw6, hfw6⟩ := bcell hb6; (try (have hy6 : w.heap.size < w6.heap.size := by omega)); (try (have hyy6 : w.heap.size + 1 < w6.heap.size := by omega)))
              have ho6 := hide (row_below ho4.out hb6 (Nat.le_refl _))
              go_wp2_with fail
              go_roundw
              case rel => exact ⟨k + 1, B, cp, by omega, by go_num, by rw [HL.out], by rw [HL.out, HV.out]; exact ho6, (by repeat (first | (with_reducible exact Below.refl _ _) | (with_reducible refine below_ov ?_ ?_) | (with_reducible refine Below.setCell ?_ ?_ _) | (with_reducible refine Below.alloc ?_ ?_ _) | (with_reducible refine Below.drew ?_) | (with_reducible refine below_drewN ?_ _) | (refine Below.trans ?_ (Below.mono ‹Below _ _ _› (by first | omega | (simp; done) | (simp; omega)))) | exact Below.refl _ _ | omega | (focus (simp; done)) | (focus (simp; omega))))⟩
              case measure => simp [intOf]; omega
          · obtain ⟨j, hjj⟩ : ∃ j : Nat, befI c k = j := ⟨(befI c k).toNat, by omega⟩
            have hjk : j < k := (befI_facts hjj).1
            have JJ := hide hjj
            have hpj := (perB_iff.1 ((pd_facts HP.out).2 j (by omega)).1).2
            have hble := bef_le HP.out hkn hjj
            have q0 : (0 : Int) ≤ (j : Int) := by omega
            have q1 : (j : Int) < (n : Int) := by omega
            have pj : w4.cell? ⟨blk, off + j * 3 + 2, none⟩ = some (.int .i64 (b j)) := (hb4.cell (p := ⟨blk, off + j * 3 + 2, none⟩) (by simp; omega)).trans ((World.cell?_alloc_lt _ _ _ l0).trans (H3.out j 2 (by omega) (by omega)))
            have d0 : decide ((j : Int) < 0) = false := decide_eq_false (by omega)
            rw [hjj]
            clear hjj hlt hbd
            by_cases hg : b j < a k
            · have G0 := hide hg
              have d1 : decide (b j < a k) = true := decide_eq_true hg
              clear hg
              cases e6 : decide (enF c a b k (n - (k + 1)) - a k > q) with
              | true =>
                have E6 : Hid (lsP c a b n q k = true) := by show _ = _; simp [lsP, JJ.out, G0.out]; have := of_decide_eq_true e6; omega
                have hT : lsQ c a b n q k = true := by rw [lsQ_at HX.out]; exact E6.out
                have HL : Hid ((flt (lsQ c a b n q) (k + 1)).length = (flt (lsQ c a b n q) k).length + 1) := by show _ = _; rw [flt_yes hT]; simp
                have HV : Hid (fltV (lsQ c a b n q) (k + 1) = fltV (lsQ c a b n q) k ++ [.int .i64 (k : Int)]) := by show _ = _; rw [fltV, flt_yes hT]; simp [fltV]
                clear hT
                go_wp2_with fail
                (refine wp_region_below_lit (by kernel_rfl) (by kernel_rfl) ?_; (repeat (first | go_big_quiet_step ((go_at_call 53; exact quiet_ov (spellEnd_any c a b n k lo hi _ _ (hv.below (B := w.heap.size) (by repeat (first | (with_reducible exact Below.refl _ _) | (with_reducible refine below_ov ?_ ?_) | (with_reducible refine Below.setCell ?_ ?_ _) | (with_reducible refine Below.alloc ?_ ?_ _) | (with_reducible refine Below.drew ?_) | (with_reducible refine below_drewN ?_ _) | (refine Below.trans ?_ (Below.mono ‹Below _ _ _› (by first | omega | (simp; done) | (simp; omega)))) | exact Below.refl _ _ | omega | (focus (simp; done)) | (focus (simp; omega)))) hhi) (by simp [ov]; omega) hn hkn))) | quiet_step ((go_at_call 53; exact quiet_ov (spellEnd_any c a b n k lo hi _ _ (hv.below (B := w.heap.size) (by repeat (first | (with_reducible exact Below.refl _ _) | (with_reducible refine below_ov ?_ ?_) | (with_reducible refine Below.setCell ?_ ?_ _) | (with_reducible refine Below.alloc ?_ ?_ _) | (with_reducible refine Below.drew ?_) | (with_reducible refine below_drewN ?_ _) | (refine Below.trans ?_ (Below.mono ‹Below _ _ _› (by first | omega | (simp; done) | (simp; omega)))) | exact Below.refl _ _ | omega | (focus (simp; done)) | (focus (simp; omega)))) hhi) (by simp [ov]; omega) hn hkn))))); refine wpQuiet_nil ?_; intro w6 hb6; have hz6 := hb6.size; (try (simp at hz6)); obtain ⟨hcw6, hfw6⟩ := bcell hb6; (try (have hy6 : w.heap.size < w6.heap.size := by omega)); (try (have hyy6 : w.heap.size + 1 < w6.heap.size := by omega)))
                have ho6 := hide (row_below ho4.out hb6 (Nat.le_refl _))
                go_wp2_with (at_builtin; refine wpList_append_own _ rfl _ _ 41 rfl w.heap.size 3 ii (.int .i64 0) 1 8 Try.underlying41 hii iz0 iz1 iz2 rfl (by decide) _ _ _ rfl (ho6.out.alloc _) ⟨w6.heap.size, 0, none⟩ 1 1 [.int .i64 (k : Int)] rfl rfl ?_ ?_ ?_ ?_ ?_ ?_)
                · intro i u hu
                  match i, hu with
                  | 0, hu => simp at hu; subst hu; simp [go_sem, Addr.add]
                · intro u hu; simp at hu; subst hu; rfl
                · unfold maxLen; omega
                · omega
                · simp; omega
                intro v' w7 hown5 hg5 _
                have hb6w : Below w.heap.size w w6 := (by repeat (first | (with_reducible exact Below.refl _ _) | (with_reducible refine below_ov ?_ ?_) | (with_reducible refine Below.setCell ?_ ?_ _) | (with_reducible refine Below.alloc ?_ ?_ _) | (with_reducible refine Below.drew ?_) | (with_reducible refine below_drewN ?_ _) | (refine Below.trans ?_ (Below.mono ‹Below _ _ _› (by first | omega | (simp; done) | (simp; omega)))) | exact Below.refl _ _ | omega | (focus (simp; done)) | (focus (simp; omega))))
                have hb7 : Below w.heap.size w w7 := (hb6w.alloc (by omega) _).grown hg5 (by simp; omega) (fun g hg => (ho6.out.lt g hg).1)
                have hz7 := hb7.size
                obtain ⟨B2, cp2, rfl⟩ := row_form hown5
                have hown6 := hide hown5
                clear hown5 hg5 ho6
                go_wp2_with fail
                go_roundw
                case rel => exact ⟨k + 1, B2, cp2, by omega, by go_num, by rw [HL.out], by rw [HL.out, HV.out]; exact hown6, hb7⟩
                case measure => simp [intOf]; omega
              | false =>
                have E6 : Hid (lsP c a b n q k = false) := by show _ = _; simp [lsP, JJ.out, G0.out]; have := of_decide_eq_false e6; omega
                have hT : lsQ c a b n q k = false := by rw [lsQ_at HX.out]; exact E6.out
                have HL : Hid ((flt (lsQ c a b n q) (k + 1)) = flt (lsQ c a b n q) k) := by show _ = _; rw [flt_no hT]
                have HV : Hid (fltV (lsQ c a b n q) (k + 1) = fltV (lsQ c a b n q) k) := by show _ = _; rw [fltV, flt_no hT]; rfl
                clear hT
                go_wp2_with fail
                (refine wp_region_below_lit (by kernel_rfl) (by kernel_rfl) ?_; (repeat (first | go_big_quiet_step ((go_at_call 53; exact quiet_ov (spellEnd_any c a b n k lo hi _ _ (hv.below (B := w.heap.size) (by repeat (first | (with_reducible exact Below.refl _ _) | (with_reducible refine below_ov ?_ ?_) | (with_reducible refine Below.setCell ?_ ?_ _) | (with_reducible refine Below.alloc ?_ ?_ _) | (with_reducible refine Below.drew ?_) | (with_reducible refine below_drewN ?_ _) | (refine Below.trans ?_ (Below.mono ‹Below _ _ _› (by first | omega | (simp; done) | (simp; omega)))) | exact Below.refl _ _ | omega | (focus (simp; done)) | (focus (simp; omega)))) hhi) (by simp [ov]; omega) hn hkn))) | quiet_step ((go_at_call 53; exact quiet_ov (spellEnd_any c a b n k lo hi _ _ (hv.below (B := w.heap.size) (by repeat (first | (with_reducible exact Below.refl _ _) | (with_reducible refine below_ov ?_ ?_) | (with_reducible refine Below.setCell ?_ ?_ _) | (with_reducible refine Below.alloc ?_ ?_ _) | (with_reducible refine Below.drew ?_) | (with_reducible refine below_drewN ?_ _) | (refine Below.trans ?_ (Below.mono ‹Below _ _ _› (by first | omega | (simp; done) | (simp; omega)))) | exact Below.refl _ _ | omega | (focus (simp; done)) | (focus (simp; omega)))) hhi) (by simp [ov]; omega) hn hkn))))); refine wpQuiet_nil ?_; intro w6 hb6; have hz6 := hb6.size; (try (simp at hz6)); obtain ⟨hcw6, hfw6⟩ := bcell hb6; (try (have hy6 : w.heap.size < w6.heap.size := by omega)); (try (have hyy6 : w.heap.size + 1 < w6.heap.size := by omega)))
                have ho6 := hide (row_below ho4.out hb6 (Nat.le_refl _))
                go_wp2_with fail
                go_roundw
                case rel => exact ⟨k + 1, B, cp, by omega, by go_num, by rw [HL.out], by rw [HL.out, HV.out]; exact ho6, (by repeat (first | (with_reducible exact Below.refl _ _) | (with_reducible refine below_ov ?_ ?_) | (with_reducible refine Below.setCell ?_ ?_ _) | (with_reducible refine Below.alloc ?_ ?_ _) | (with_reducible refine Below.drew ?_) | (with_reducible refine below_drewN ?_ _) | (refine Below.trans ?_ (Below.mono ‹Below _ _ _› (by first | omega | (simp; done) | (simp; omega)))) | exact Below.refl _ _ | omega | (focus (simp; done)) | (focus (simp; omega))))⟩
                case measure => simp [intOf]; omega
            · have G0 := hide hg
              have d1 : decide (b j < a k) = false := decide_eq_false hg
              have E6 : Hid (lsP c a b n q k = false) := by show _ = _; simp [lsP, JJ.out]; intro h; exact absurd h (by have := G0.out; omega)
              clear hg
              have hT : lsQ c a b n q k = false := by rw [lsQ_at HX.out]; exact E6.out
              have HL : Hid ((flt (lsQ c a b n q) (k + 1)) = flt (lsQ c a b n q) k) := by show _ = _; rw [flt_no hT]
              have HV : Hid (fltV (lsQ c a b n q) (k + 1) = fltV (lsQ c a b n q) k) := by show _ = _; rw [fltV, flt_no hT]; rfl
              clear hT
              go_wp2_with fail
              (refine wp_region_below_lit (by kernel_rfl) (by kernel_rfl) ?_; (repeat (first | go_big_quiet_step ((go_at_call 53; exact quiet_ov (spellEnd_any c a b n k lo hi _ _ (hv.below (B := w.heap.size) (by repeat (first | (with_reducible exact Below.refl _ _) | (with_reducible refine below_ov ?_ ?_) | (with_reducible refine Below.setCell ?_ ?_ _) | (with_reducible refine Below.alloc ?_ ?_ _) | (with_reducible refine Below.drew ?_) | (with_reducible refine below_drewN ?_ _) | (refine Below.trans ?_ (Below.mono ‹Below _ _ _› (by first | omega | (simp; done) | (simp; omega)))) | exact Below.refl _ _ | omega | (focus (simp; done)) | (focus (simp; omega)))) hhi) (by simp [ov]; omega) hn hkn))) | quiet_step ((go_at_call 53; exact quiet_ov (spellEnd_any c a b n k lo hi _ _ (hv.below (B := w.heap.size) (by repeat (first | (with_reducible exact Below.refl _ _) | (with_reducible refine below_ov ?_ ?_) | (with_reducible refine Below.setCell ?_ ?_ _) | (with_reducible refine Below.alloc ?_ ?_ _) | (with_reducible refine Below.drew ?_) | (with_reducible refine below_drewN ?_ _) | (refine Below.trans ?_ (Below.mono ‹Below _ _ _› (by first | omega | (simp; done) | (simp; omega)))) | exact Below.refl _ _ | omega | (focus (simp; done)) | (focus (simp; omega)))) hhi) (by simp [ov]; omega) hn hkn))))); refine wpQuiet_nil ?_; intro w6 hb6; have hz6 := hb6.size; (try (simp at hz6)); obtain ⟨hcw6, hfw6⟩ := bcell hb6; (try (have hy6 : w.heap.size < w6.heap.size := by omega)); (try (have hyy6 : w.heap.size + 1 < w6.heap.size := by omega)))
              have ho6 := hide (row_below ho4.out hb6 (Nat.le_refl _))
              go_wp2_with fail
              go_roundw
              case rel => exact ⟨k + 1, B, cp, by omega, by go_num, by rw [HL.out], by rw [HL.out, HV.out]; exact ho6, (by repeat (first | (with_reducible exact Below.refl _ _) | (with_reducible refine below_ov ?_ ?_) | (with_reducible refine Below.setCell ?_ ?_ _) | (with_reducible refine Below.alloc ?_ ?_ _) | (with_reducible refine Below.drew ?_) | (with_reducible refine below_drewN ?_ _) | (refine Below.trans ?_ (Below.mono ‹Below _ _ _› (by first | omega | (simp; done) | (simp; omega)))) | exact Below.refl _ _ | omega | (focus (simp; done)) | (focus (simp; omega))))⟩
              case measure => simp [intOf]; omega
        · obtain rfl : k = n := by omega
          go_wp2_with fail
          go_ret2
          rw [HX.out]
          exact ⟨_, rfl, (own_flt hown.out), hb⟩

end Go.Proofs.Ythchfnkljmoenaa
