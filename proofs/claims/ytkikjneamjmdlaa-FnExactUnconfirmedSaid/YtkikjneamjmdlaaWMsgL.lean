/-
  Walks: lists of messages, of the reference: the one with a name and a number, how many of a name.
-/
import Derived.Test.YtkikjneamjmdlaaWMsg
import Derived.Test.YtkikjneamjmdlaaDMessage
import Derived.Test.YtkikjneamjmdlaaPMsg
namespace Go.Proofs.Ytkikjneamjmdlaa
set_option linter.unusedVariables false
set_option linter.unusedSimpArgs false
open Go.RowKit

set_option maxRecDepth 100000 in
set_option maxHeartbeats 1600000 in
theorem raFind_any (f : Nat → ByteArray) (m : Nat → Int) (g : Nat → ByteArray) (n lo hi : Nat) (v : Value) (x : ByteArray) (y : Int) (w : World) (hv : Sl w lo hi 3 v n (sisC f m g)) (hhi : hi ≤ w.heap.size) (hn : n ≤ 4611686018427387904) :
    Calls Try.prog 15 #[v, .string x, .int .i64 y] w fun e w' => e = .returned (.int .i64 (fstI (mk1 f m x y) n)) ∧ Below w.heap.size w w' := by
  obtain ⟨A, cap, rfl, hcap, hA⟩ := hv.open_
  clear hv
  go_enter Try.func15, Try.ntmps15
  go_wp2_with fail
  go_loopw [11] (fun i wr => ∃ k : Nat, k ≤ n ∧ i = .int .i64 k ∧ Hid (∀ j, j < k → mk1 f m x y j = false) ∧ Below w.heap.size w wr) (fun i _ => n - (intOf i).toNat)
  case atStart => exact ⟨0, by omega, rfl, fun j hj => by omega, Below.refl _ _⟩
  case round =>
    obtain ⟨k, hk, rfl, hj, hb⟩ := hrel
    have hzr := hb.size
    by_cases hkn : k < n
    · obtain ⟨blk, off, rfl, h1, h2, h3⟩ := (hA.below hb (by omega)) (by omega)
      have c0 : wr.cell? ⟨blk, off + k * 3, none⟩ = some (.string (f k)) := h3 k 0 hkn (by omega)
      have c1 : wr.cell? ⟨blk, off + k * 3 + 1, none⟩ = some (.int .i64 (m k)) := h3 k 1 hkn (by omega)
      have c2 : wr.cell? ⟨blk, off + k * 3 + 2, none⟩ = some (.string (g k)) := h3 k 2 hkn (by omega)
      clear h3 hA
      cases e0 : ((f k).toList == x.toList) with
      | false =>
        have HG : Hid (mk1 f m x y k = false) := by
          show mk1 f m x y k = false
          rw [str_beq] at e0; simp [mk1, e0]
        go_wp2_with fail
        go_roundw
        case rel => exact ⟨k + 1, by omega, by go_num, upto_snocF hj.out HG.out, (by repeat (first | (with_reducible exact Below.refl _ _) | (with_reducible refine below_ov ?_ ?_) | (with_reducible refine Below.setCell ?_ ?_ _) | (with_reducible refine Below.alloc ?_ ?_ _) | (with_reducible refine Below.drew ?_) | (with_reducible refine below_drewN ?_ _) | (refine Below.trans ?_ (Below.mono ‹Below _ _ _› (by first | omega | (simp; done) | (simp; omega)))) | exact Below.refl _ _ | omega | (focus (simp; done)) | (focus (simp; omega))))⟩
        case measure => simp [intOf]; omega
      | true =>
        cases e1 : (m k == y) with
        | false =>
          have HG : Hid (mk1 f m x y k = false) := by
            show mk1 f m x y k = false
            simp only [mk1, Bool.and_eq_false_iff, decide_eq_false_iff_not]; right; simpa using e1
          go_wp2_with fail
          go_roundw
          case rel => exact ⟨k + 1, by omega, by go_num, upto_snocF hj.out HG.out, (by repeat (first | (with_reducible exact Below.refl _ _) | (with_reducible refine below_ov ?_ ?_) | (with_reducible refine Below.setCell ?_ ?_ _) | (with_reducible refine Below.alloc ?_ ?_ _) | (with_reducible refine Below.drew ?_) | (with_reducible refine below_drewN ?_ _) | (refine Below.trans ?_ (Below.mono ‹Below _ _ _› (by first | omega | (simp; done) | (simp; omega)))) | exact Below.refl _ _ | omega | (focus (simp; done)) | (focus (simp; omega))))⟩
          case measure => simp [intOf]; omega
        | true =>
          have HG : Hid (fstI (mk1 f m x y) n = k) := by
            refine fstI_at hkn hj.out ?_
            rw [str_beq] at e0
            simp only [mk1, Bool.and_eq_true, decide_eq_true_eq]
            exact ⟨of_decide_eq_true e0, by simpa using e1⟩
          go_wp2_with fail
          go_ret
          exact ⟨ret_int HG.out.symm, (by repeat (first | (with_reducible exact Below.refl _ _) | (with_reducible refine below_ov ?_ ?_) | (with_reducible refine Below.setCell ?_ ?_ _) | (with_reducible refine Below.alloc ?_ ?_ _) | (with_reducible refine Below.drew ?_) | (with_reducible refine below_drewN ?_ _) | (refine Below.trans ?_ (Below.mono ‹Below _ _ _› (by first | omega | (simp; done) | (simp; omega)))) | exact Below.refl _ _ | omega | (focus (simp; done)) | (focus (simp; omega))))⟩
    · obtain rfl : k = n := by omega
      go_wp2_with fail
      go_ret
      exact ⟨ret_int (fstI_none hj.out).symm, hb⟩
set_option maxRecDepth 100000 in
set_option maxHeartbeats 1600000 in
theorem raCount_any (f : Nat → ByteArray) (m : Nat → Int) (g : Nat → ByteArray) (n lo hi : Nat) (v : Value) (x : ByteArray) (w : World) (hv : Sl w lo hi 3 v n (sisC f m g)) (hhi : hi ≤ w.heap.size) (hn : n ≤ 4611686018427387904) :
    Calls Try.prog 26 #[v, .string x] w fun e w' => e = .returned (.int .i64 (cntF (nm f x) n : Nat)) ∧ Below w.heap.size w w' := by
  obtain ⟨A, cap, rfl, hcap, hA⟩ := hv.open_
  clear hv
  go_enter Try.func26, Try.ntmps26
  go_wp2_with fail
  go_loopw [5, 10] (fun c i wr => ∃ k : Nat, k ≤ n ∧ i = .int .i64 k ∧ c = .int .i64 (cntF (nm f x) k : Nat) ∧ Below w.heap.size w wr) (fun _ i _ => n - (intOf i).toNat)
  case atStart => exact ⟨0, by omega, rfl, rfl, Below.refl _ _⟩
  case round =>
    obtain ⟨k, hk, rfl, rfl, hb⟩ := hrel
    have hzr := hb.size
    have hle := cntF_le (nm f x) k
    by_cases hkn : k < n
    · obtain ⟨blk, off, rfl, h1, h2, h3⟩ := (hA.below hb (by omega)) (by omega)
      have c0 : wr.cell? ⟨blk, off + k * 3, none⟩ = some (.string (f k)) := h3 k 0 hkn (by omega)
      have c1 : wr.cell? ⟨blk, off + k * 3 + 1, none⟩ = some (.int .i64 (m k)) := h3 k 1 hkn (by omega)
      have c2 : wr.cell? ⟨blk, off + k * 3 + 2, none⟩ = some (.string (g k)) := h3 k 2 hkn (by omega)
      clear h3 hA
      cases e0 : ((f k).toList == x.toList) with
      | false =>
        have HG : Hid (cntF (nm f x) (k + 1) = cntF (nm f x) k) := by
          show cntF (nm f x) (k + 1) = cntF (nm f x) k
          rw [str_beq] at e0; simp [cntF, nm, e0]
        go_wp2_with fail
        go_roundw
        case rel => exact ⟨k + 1, by omega, by go_num, by rw [HG.out], (by repeat (first | (with_reducible exact Below.refl _ _) | (with_reducible refine below_ov ?_ ?_) | (with_reducible refine Below.setCell ?_ ?_ _) | (with_reducible refine Below.alloc ?_ ?_ _) | (with_reducible refine Below.drew ?_) | (with_reducible refine below_drewN ?_ _) | (refine Below.trans ?_ (Below.mono ‹Below _ _ _› (by first | omega | (simp; done) | (simp; omega)))) | exact Below.refl _ _ | omega | (focus (simp; done)) | (focus (simp; omega))))⟩
        case measure => simp [intOf]; omega
      | true =>
        have HG : Hid (cntF (nm f x) (k + 1) = cntF (nm f x) k + 1) := by
          show cntF (nm f x) (k + 1) = cntF (nm f x) k + 1
          rw [str_beq] at e0; simp [cntF, nm, of_decide_eq_true e0]
        go_wp2_with fail
        go_roundw
        case rel => exact ⟨k + 1, by omega, by go_num, by rw [HG.out]; go_num, (by repeat (first | (with_reducible exact Below.refl _ _) | (with_reducible refine below_ov ?_ ?_) | (with_reducible refine Below.setCell ?_ ?_ _) | (with_reducible refine Below.alloc ?_ ?_ _) | (with_reducible refine Below.drew ?_) | (with_reducible refine below_drewN ?_ _) | (refine Below.trans ?_ (Below.mono ‹Below _ _ _› (by first | omega | (simp; done) | (simp; omega)))) | exact Below.refl _ _ | omega | (focus (simp; done)) | (focus (simp; omega))))⟩
        case measure => simp [intOf]; omega
    · obtain rfl : k = n := by omega
      go_wp2_with fail
      go_ret
      exact ⟨rfl, hb⟩
theorem raFind_at {f : Nat → ByteArray} {m : Nat → Int} {g : Nat → ByteArray} {n : Nat} {x : ByteArray} {y q : Int} (hq : fstI (mk1 f m x y) n = q) (lo hi : Nat) (v : Value) (w : World) (hv : Sl w lo hi 3 v n (sisC f m g)) (hhi : hi ≤ w.heap.size) (hn : n ≤ 4611686018427387904) :
    Calls Try.prog 15 #[v, .string x, .int .i64 y] w fun e w' => e = .returned (.int .i64 q) ∧ Below w.heap.size w w' := hq ▸ raFind_any f m g n lo hi v x y w hv hhi hn
set_option maxRecDepth 100000 in
set_option maxHeartbeats 3200000 in
theorem raWithin_any (f : Nat → ByteArray) (m : Nat → Int) (g : Nat → ByteArray) (n : Nat) (fS : Nat → ByteArray) (mS : Nat → Int) (gS : Nat → ByteArray) (nS lo hi : Nat) (v u : Value) (w : World)
    (hv : Sl w lo hi 3 v n (sisC f m g)) (hu : Sl w lo hi 3 u nS (sisC fS mS gS)) (hhi : hi ≤ w.heap.size) (hn : n ≤ 4611686018427387904) (hnS : nS ≤ 4611686018427387904) :
    Calls Try.prog 27 #[v, u] w fun e w' => e = .returned (.bool (allB (wi fS mS gS nS f m g) n)) ∧ Below w.heap.size w w' := by
  obtain ⟨A, cap, rfl, hcap, hA⟩ := hv.open_
  obtain ⟨A', cap', rfl, hcap', hA'⟩ := hu.open_
  clear hv hu
  go_enter Try.func27, Try.ntmps27
  go_wp2_with fail
  go_loopw [10] (fun i wr => ∃ k : Nat, k ≤ n ∧ i = .int .i64 k ∧ Hid (∀ j, j < k → wi fS mS gS nS f m g j = true) ∧ Below w.heap.size w wr) (fun i _ => n - (intOf i).toNat)
  case atStart => exact ⟨0, by omega, rfl, fun j hj => by omega, Below.refl _ _⟩
  case round =>
    obtain ⟨k, hk, rfl, hj, hb⟩ := hrel
    have hzr := hb.size
    by_cases hkn : k < n
    · have hpre := (hA.less (Nat.le_of_lt hkn))
      obtain ⟨blk, off, rfl, h1, h2, h3⟩ := (hA.below hb (by omega)) (by omega)
      have c0 : wr.cell? ⟨blk, off + k * 3, none⟩ = some (.string (f k)) := h3 k 0 hkn (by omega)
      have c1 : wr.cell? ⟨blk, off + k * 3 + 1, none⟩ = some (.int .i64 (m k)) := h3 k 1 hkn (by omega)
      have c2 : wr.cell? ⟨blk, off + k * 3 + 2, none⟩ = some (.string (g k)) := h3 k 2 hkn (by omega)
      clear h3
      rcases fstI_cases (mk1 fS mS (f k) (m k)) nS with ⟨hq, hnone⟩ | ⟨q, hqn, hq, hpq, _⟩
      · have HF : Hid (allB (wi fS mS gS nS f m g) n = false) := allB_false hkn (by simp [wi, hq])
        go_wp2_with fail
        refine (raFind_any fS mS gS nS lo hi _ (f k) (m k) _ (SlA.shut (hA'.below (B := w.heap.size) (by repeat (first | (with_reducible exact Below.refl _ _) | (with_reducible refine below_ov ?_ ?_) | (with_reducible refine Below.setCell ?_ ?_ _) | (with_reducible refine Below.alloc ?_ ?_ _) | (with_reducible refine Below.drew ?_) | (with_reducible refine below_drewN ?_ _) | (refine Below.trans ?_ (Below.mono ‹Below _ _ _› (by first | omega | (simp; done) | (simp; omega)))) | exact Below.refl _ _ | omega | (focus (simp; done)) | (focus (simp; omega)))) hhi) hcap') (by simp; omega) hnS).mono ?_
        rintro e w1 ⟨rfl, hb1⟩
        rw [hq]
        have hz1 := hb1.size
        simp at hz1
        have x0 := box_cell hb1 (by simp) 0 rfl
        have x1 := box_cell hb1 (by simp) 1 rfl
        have x2 := box_cell hb1 (by simp) 2 rfl
        go_wp2_with fail
        (refine wp_region_below_lit (by kernel_rfl) (by kernel_rfl) ?_; (repeat (first | go_big_quiet_step (fail) | quiet_step (fail))); refine wpQuiet_nil ?_; intro w2 hb2; have hz2 := hb2.size; (try (simp at hz2)); obtain ⟨hcw2, hfw2⟩ := bcell hb2; (try (have hy2 : w.heap.size < w2.heap.size := by omega)); (try (have hyy2 : w.heap.size + 1 < w2.heap.size := by omega)))
        go_wp2
        go_ret
        exact ⟨ret_bool HF.out.symm, (by repeat (first | (with_reducible exact Below.refl _ _) | (with_reducible refine below_ov ?_ ?_) | (with_reducible refine Below.setCell ?_ ?_ _) | (with_reducible refine Below.alloc ?_ ?_ _) | (with_reducible refine Below.drew ?_) | (with_reducible refine below_drewN ?_ _) | (refine Below.trans ?_ (Below.mono ‹Below _ _ _› (by first | omega | (simp; done) | (simp; omega)))) | exact Below.refl _ _ | omega | (focus (simp; done)) | (focus (simp; omega))))⟩
      · obtain ⟨blk', off', rfl, h1', h2', h3'⟩ := (hA'.below hb (by omega)) (by omega)
        obtain ⟨p1, p2⟩ := mk1_iff.1 hpq
        have d0 : wr.cell? ⟨blk', off' + q * 3, none⟩ = some (.string (f k)) := (h3' q 0 hqn (by omega)).trans (by simp [sisC, p1])
        have d1 : wr.cell? ⟨blk', off' + q * 3 + 1, none⟩ = some (.int .i64 (m k)) := (h3' q 1 hqn (by omega)).trans (by simp [sisC, p2])
        have d2 : wr.cell? ⟨blk', off' + q * 3 + 2, none⟩ = some (.string (gS q)) := h3' q 2 hqn (by omega)
        clear h3'
        go_wp2_with fail
        refine (raFind_any fS mS gS nS lo hi _ (f k) (m k) _ (SlA.shut (hA'.below (B := w.heap.size) (by repeat (first | (with_reducible exact Below.refl _ _) | (with_reducible refine below_ov ?_ ?_) | (with_reducible refine Below.setCell ?_ ?_ _) | (with_reducible refine Below.alloc ?_ ?_ _) | (with_reducible refine Below.drew ?_) | (with_reducible refine below_drewN ?_ _) | (refine Below.trans ?_ (Below.mono ‹Below _ _ _› (by first | omega | (simp; done) | (simp; omega)))) | exact Below.refl _ _ | omega | (focus (simp; done)) | (focus (simp; omega)))) hhi) hcap') (by simp; omega) hnS).mono ?_
        rintro e w1 ⟨rfl, hb1⟩
        rw [hq]
        have hz1 := hb1.size
        simp at hz1
        have x0 := box_cell hb1 (by simp) 0 rfl
        have x1 := box_cell hb1 (by simp) 1 rfl
        have x2 := box_cell hb1 (by simp) 2 rfl
        simp at x0 x1 x2
        have y0 : w1.cell? ⟨blk', off' + q * 3, none⟩ = some (.string (f k)) := (hb1.cell (p := ⟨blk', _, none⟩) (by simp; omega)).trans ((World.cell?_alloc_lt _ _ _ (by show blk' < wr.heap.size; omega)).trans d0)
        have y1 : w1.cell? ⟨blk', off' + q * 3 + 1, none⟩ = some (.int .i64 (m k)) := (hb1.cell (p := ⟨blk', _, none⟩) (by simp; omega)).trans ((World.cell?_alloc_lt _ _ _ (by show blk' < wr.heap.size; omega)).trans d1)
        have y2 : w1.cell? ⟨blk', off' + q * 3 + 2, none⟩ = some (.string (gS q)) := (hb1.cell (p := ⟨blk', _, none⟩) (by simp; omega)).trans ((World.cell?_alloc_lt _ _ _ (by show blk' < wr.heap.size; omega)).trans d2)
        have l1 : blk' < w1.heap.size := by omega
        have l2 : wr.heap.size < w1.heap.size := by omega
        have l3 : blk < w1.heap.size := by omega
        have l4 : k ≤ cap := by omega
        have l5 : (k : Int) ≤ (cap : Int) := by omega
        have l6 : ¬ cap < k := by omega
        cases e2 : ((gS q).toList == (g k).toList) with
        | false =>
          have HF : Hid (allB (wi fS mS gS nS f m g) n = false) := by
            refine allB_false hkn ?_
            rw [str_beq] at e2
            simp at e2
            simp [wi, hq, eq3, sisE, e2]
          go_wp2_with fail
          (refine wp_region_below_lit (by kernel_rfl) (by kernel_rfl) ?_; (repeat (first | go_big_quiet_step (fail) | quiet_step (fail))); refine wpQuiet_nil ?_; intro w2 hb2; have hz2 := hb2.size; (try (simp at hz2)); obtain ⟨hcw2, hfw2⟩ := bcell hb2; (try (have hy2 : w.heap.size < w2.heap.size := by omega)); (try (have hyy2 : w.heap.size + 1 < w2.heap.size := by omega)))
          go_wp2
          go_ret
          exact ⟨ret_bool HF.out.symm, (by repeat (first | (with_reducible exact Below.refl _ _) | (with_reducible refine below_ov ?_ ?_) | (with_reducible refine Below.setCell ?_ ?_ _) | (with_reducible refine Below.alloc ?_ ?_ _) | (with_reducible refine Below.drew ?_) | (with_reducible refine below_drewN ?_ _) | (refine Below.trans ?_ (Below.mono ‹Below _ _ _› (by first | omega | (simp; done) | (simp; omega)))) | exact Below.refl _ _ | omega | (focus (simp; done)) | (focus (simp; omega))))⟩
        | true =>
          rw [str_beq] at e2
          have e3 := of_decide_eq_true e2
          have e4 : ((gS q).toList == (g k).toList) = true := by rw [e3]; exact beq_self_eq_true _
          rcases fstI_cases (mk1 f m (f k) (m k)) k with ⟨hr, _⟩ | ⟨r, hrk, hr, _, _⟩
          · have HG : Hid (wi fS mS gS nS f m g k = true) := by
              show wi fS mS gS nS f m g k = true
              simp [wi, hq, eq3, sisE, e3, p1, p2, hr]
            go_wp2_with fail
            (refine wp_region_below_lit (by kernel_rfl) (by kernel_rfl) ?_; (repeat (first | go_big_quiet_step ((go_at_call 15; exact quiet_ov (raFind_at hr lo hi _ _ (SlA.shut (hpre.below (B := w.heap.size) (by repeat (first | (with_reducible exact Below.refl _ _) | (with_reducible refine below_ov ?_ ?_) | (with_reducible refine Below.setCell ?_ ?_ _) | (with_reducible refine Below.alloc ?_ ?_ _) | (with_reducible refine Below.drew ?_) | (with_reducible refine below_drewN ?_ _) | (refine Below.trans ?_ (Below.mono ‹Below _ _ _› (by first | omega | (simp; done) | (simp; omega)))) | exact Below.refl _ _ | omega | (focus (simp; done)) | (focus (simp; omega)))) hhi) (by omega)) (by simp [ov]; omega) (by omega)))) | quiet_step ((go_at_call 15; exact quiet_ov (raFind_at hr lo hi _ _ (SlA.shut (hpre.below (B := w.heap.size) (by repeat (first | (with_reducible exact Below.refl _ _) | (with_reducible refine below_ov ?_ ?_) | (with_reducible refine Below.setCell ?_ ?_ _) | (with_reducible refine Below.alloc ?_ ?_ _) | (with_reducible refine Below.drew ?_) | (with_reducible refine below_drewN ?_ _) | (refine Below.trans ?_ (Below.mono ‹Below _ _ _› (by first | omega | (simp; done) | (simp; omega)))) | exact Below.refl _ _ | omega | (focus (simp; done)) | (focus (simp; omega)))) hhi) (by omega)) (by simp [ov]; omega) (by omega)))))); refine wpQuiet_nil ?_; intro w2 hb2; have hz2 := hb2.size; (try (simp at hz2)); obtain ⟨hcw2, hfw2⟩ := bcell hb2; (try (have hy2 : w.heap.size < w2.heap.size := by omega)); (try (have hyy2 : w.heap.size + 1 < w2.heap.size := by omega)))
            go_wp2
            go_roundw
            case rel => exact ⟨k + 1, by omega, by go_num, upto_snoc hj.out HG.out, (by repeat (first | (with_reducible exact Below.refl _ _) | (with_reducible refine below_ov ?_ ?_) | (with_reducible refine Below.setCell ?_ ?_ _) | (with_reducible refine Below.alloc ?_ ?_ _) | (with_reducible refine Below.drew ?_) | (with_reducible refine below_drewN ?_ _) | (refine Below.trans ?_ (Below.mono ‹Below _ _ _› (by first | omega | (simp; done) | (simp; omega)))) | exact Below.refl _ _ | omega | (focus (simp; done)) | (focus (simp; omega))))⟩
            case measure => simp [intOf]; omega
          · have HF : Hid (allB (wi fS mS gS nS f m g) n = false) := allB_false hkn (by simp [wi, hr])
            go_wp2_with fail
            (refine wp_region_below_lit (by kernel_rfl) (by kernel_rfl) ?_; (repeat (first | go_big_quiet_step ((go_at_call 15; exact quiet_ov (raFind_at hr lo hi _ _ (SlA.shut (hpre.below (B := w.heap.size) (by repeat (first | (with_reducible exact Below.refl _ _) | (with_reducible refine below_ov ?_ ?_) | (with_reducible refine Below.setCell ?_ ?_ _) | (with_reducible refine Below.alloc ?_ ?_ _) | (with_reducible refine Below.drew ?_) | (with_reducible refine below_drewN ?_ _) | (refine Below.trans ?_ (Below.mono ‹Below _ _ _› (by first | omega | (simp; done) | (simp; omega)))) | exact Below.refl _ _ | omega | (focus (simp; done)) | (focus (simp; omega)))) hhi) (by omega)) (by simp [ov]; omega) (by omega)))) | quiet_step ((go_at_call 15; exact quiet_ov (raFind_at hr lo hi _ _ (SlA.shut (hpre.below (B := w.heap.size) (by repeat (first | (with_reducible exact Below.refl _ _) | (with_reducible refine below_ov ?_ ?_) | (with_reducible refine Below.setCell ?_ ?_ _) | (with_reducible refine Below.alloc ?_ ?_ _) | (with_reducible refine Below.drew ?_) | (with_reducible refine below_drewN ?_ _) | (refine Below.trans ?_ (Below.mono ‹Below _ _ _› (by first | omega | (simp; done) | (simp; omega)))) | exact Below.refl _ _ | omega | (focus (simp; done)) | (focus (simp; omega)))) hhi) (by omega)) (by simp [ov]; omega) (by omega)))))); refine wpQuiet_nil ?_; intro w2 hb2; have hz2 := hb2.size; (try (simp at hz2)); obtain ⟨hcw2, hfw2⟩ := bcell hb2; (try (have hy2 : w.heap.size < w2.heap.size := by omega)); (try (have hyy2 : w.heap.size + 1 < w2.heap.size := by omega)))
            go_wp2
            go_ret
            exact ⟨ret_bool HF.out.symm, (by repeat (first | (with_reducible exact Below.refl _ _) | (with_reducible refine below_ov ?_ ?_) | (with_reducible refine Below.setCell ?_ ?_ _) | (with_reducible refine Below.alloc ?_ ?_ _) | (with_reducible refine Below.drew ?_) | (with_reducible refine below_drewN ?_ _) | (refine Below.trans ?_ (Below.mono ‹Below _ _ _› (by first | omega | (simp; done) | (simp; omega)))) | exact Below.refl _ _ | omega | (focus (simp; done)) | (focus (simp; omega))))⟩
    · obtain rfl : k = n := by omega
      go_wp2_with fail
      go_ret
      exact ⟨ret_bool (allB_iff.2 hj.out).symm, hb⟩

end Go.Proofs.Ytkikjneamjmdlaa
