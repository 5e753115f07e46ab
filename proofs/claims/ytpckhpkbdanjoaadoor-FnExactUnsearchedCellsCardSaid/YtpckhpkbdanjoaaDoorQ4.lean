/-
  Texts of this proof, one behind the other (part 4).
-/
import Derived.Test.YtpckhpkbdanjoaaDoorQ3
import Derived.BigRegion
import Derived.Laws.StructEq
import Derived.Deep.Onto
import Derived.Deep.LoopGhost
import Derived.Deep.DeepAppendRoom
/-
  Walks: a number among numbers (the reference's), a cell among cells (the library's).-/
namespace Go.Proofs.YtpckhpkbdanjoaaDoor
set_option linter.unusedVariables false
set_option linter.unusedSimpArgs false
open Go.RowKit

def hasN (f : Nat → Int) (x : Int) (m : Nat) : Bool := decide (0 ≤ fstI (fun t => decide (f t = x)) m)
def hasC (p q : Nat → Int) (x y : Int) (m : Nat) : Bool := decide (0 ≤ fstI (fun t => decide (p t = x) && decide (q t = y)) m)
theorem some_iff {f : Nat → Bool} {m : Nat} : decide (0 ≤ fstI f m) = true ↔ ∃ t, t < m ∧ f t = true := by
  rw [decide_eq_true_eq]
  rcases fstI_cases f m with ⟨h1, h2⟩ | ⟨k, h1, h2, h3, _⟩
  · rw [h1]
    constructor
    · intro h; omega
    · rintro ⟨t, ht, h⟩
      rw [h2 t ht] at h
      cases h
  · rw [h2]
    exact ⟨fun _ => ⟨k, h1, h3⟩, fun _ => by omega⟩
theorem flt_has {P : Nat → Bool} : ∀ {N k : Nat}, k ∈ flt P N ↔ k < N ∧ P k = true
  | 0, k => by simp [flt]
  | N + 1, k => by
    rw [flt, List.mem_append, flt_has]
    by_cases h : P N = true
    · rw [if_pos h]
      simp only [List.mem_singleton]
      constructor
      · rintro (⟨h1, h2⟩ | rfl)
        · exact ⟨by omega, h2⟩
        · exact ⟨by omega, h⟩
      · rintro ⟨h1, h2⟩
        by_cases e : k = N
        · exact .inr e
        · exact .inl ⟨by omega, h2⟩
    · rw [if_neg h]
      simp only [List.not_mem_nil, or_false]
      constructor
      · rintro ⟨h1, h2⟩; exact ⟨by omega, h2⟩
      · rintro ⟨h1, h2⟩
        by_cases e : k = N
        · subst e; exact absurd h2 h
        · exact ⟨by omega, h2⟩
theorem flt_at {P : Nat → Bool} {N k : Nat} (hk : k < N) : (∃ t, t < (flt P N).length ∧ fltI P N t = k) ↔ P k = true := by
  constructor
  · rintro ⟨t, ht, e⟩
    have hm : (flt P N).getD t 0 ∈ flt P N := by
      simp only [List.getD]
      rw [List.getElem?_eq_getElem ht]
      exact List.getElem_mem ht
    have e2 : (flt P N).getD t 0 = k := by rw [fltI] at e; exact Int.ofNat_inj.1 e
    rw [e2] at hm
    exact (flt_has.1 hm).2
  · intro h
    obtain ⟨t, ht, e⟩ := List.getElem_of_mem (flt_has.2 ⟨hk, h⟩)
    refine ⟨t, ht, ?_⟩
    rw [fltI]
    simp only [List.getD]
    rw [List.getElem?_eq_getElem ht, e]
    rfl
theorem hasN_flt {P : Nat → Bool} {N k : Nat} (hk : k < N) : hasN (fltI P N) k (flt P N).length = P k := by
  rw [Bool.eq_iff_iff, hasN, some_iff, ← flt_at hk]
  simp only [decide_eq_true_eq]
theorem hasC_flt {W : Nat} {P : Nat → Bool} {N k : Nat} (hW : 0 < W) (hk : k < N) : hasC (rI W P N) (cI W P N) ((k : Int) / (W : Int)) ((k : Int) % (W : Int)) (flt P N).length = P k := by
  rw [Bool.eq_iff_iff, hasC, some_iff, ← flt_at hk]
  constructor
  · rintro ⟨t, ht, e⟩
    obtain ⟨e1, e2⟩ : rI W P N t = (k : Int) / (W : Int) ∧ cI W P N t = (k : Int) % (W : Int) := by simpa using e
    refine ⟨t, ht, ?_⟩
    have a := Int.mul_ediv_add_emod (fltI P N t) W
    have b := Int.mul_ediv_add_emod (k : Int) W
    rw [rI] at e1
    rw [cI] at e2
    rw [e1, e2] at a
    omega
  · rintro ⟨t, ht, e⟩
    refine ⟨t, ht, ?_⟩
    have h1 : rI W P N t = (k : Int) / (W : Int) := by rw [rI, e]
    have h2 : cI W P N t = (k : Int) % (W : Int) := by rw [cI, e]
    simp [h1, h2]
set_option maxRecDepth 100000 in
set_option maxHeartbeats 1600000 in
theorem l1Has_any (f : Nat → Int) (m : Nat) (x : Int) (lo hi : Nat) (v : Value) (w : World) (hv : Sl w lo hi 1 v m (iC f)) (hhi : hi ≤ w.heap.size) (hm : m ≤ 1048576) :
    Calls Tryd.prog 71 #[v, .int .i64 x] w fun e w' => e = .returned (.bool (hasN f x m)) ∧ w = w' := by
  obtain ⟨A, cap, rfl, hcap, hA⟩ := hv.open_
  clear hv
  go_enter Tryd.func71, Tryd.ntmps71
  go_wp2_with fail
  go_loopw [9] (fun i wr => ∃ k : Nat, k ≤ m ∧ i = .int .i64 k ∧ Hid (∀ j, j < k → decide (f j = x) = false) ∧ w = wr) (fun i _ => m - (intOf i).toNat)
  case atStart => exact ⟨0, by omega, rfl, fun j hj => by omega, rfl⟩
  case round =>
    obtain ⟨k, hk, rfl, hj, rfl⟩ := hrel
    by_cases hkn : k < m
    · obtain ⟨blk, off, rfl, h1, h2, h3⟩ := hA (by omega)
      have c0 : w.cell? ⟨blk, off + k, none⟩ = some (.int .i64 (f k)) := by
        have := h3 k 0 hkn (by omega)
        simpa [iC] using this
      have l0 : blk < w.heap.size := by omega
      clear h3 hA
      by_cases e : f k = x
      · have d0 : (f k == x) = true := by simp [e]
        have HG : Hid (hasN f x m = true) := by show _ = _; rw [hasN, fstI_at hkn hj.out (by simp [e])]; exact decide_eq_true (by omega)
        go_wp2_with fail
        go_ret
        exact ⟨ret_bool HG.out.symm, rfl⟩
      · have d0 : (f k == x) = false := by simp [e]
        have HN : Hid (∀ j, j < k + 1 → decide (f j = x) = false) := upto_snocF (p := fun j => decide (f j = x)) hj.out (decide_eq_false e)
        go_wp2_with fail
        go_roundw
        case rel => exact ⟨k + 1, by omega, by go_num, HN.out, trivial⟩
        case measure => simp [intOf]; omega
    · obtain rfl : k = m := by omega
      have HG : Hid (hasN f x k = false) := by show _ = _; rw [hasN, fstI_none hj.out]; rfl
      go_wp2_with fail
      go_ret
      exact ⟨ret_bool HG.out.symm, rfl⟩
set_option maxRecDepth 100000 in
set_option maxHeartbeats 1600000 in
theorem IndexCell_any (p q : Nat → Int) (m : Nat) (x y : Int) (lo hi : Nat) (v : Value) (w : World) (hv : Sl w lo hi 2 v m (iiC p q)) (hhi : hi ≤ w.heap.size) (hm : m ≤ 1048576) :
    Calls Tryd.prog 95 #[v, .agg #[.int .i64 x, .int .i64 y]] w fun e w' => e = .returned (.int .i64 (fstI (fun t => decide (p t = x) && decide (q t = y)) m)) ∧ Below w.heap.size w w' := by
  obtain ⟨A, cap, rfl, hcap, hA⟩ := hv.open_
  clear hv
  have B0 : Below w.heap.size w (w.alloc (.cells #[.int .i64 x, .int .i64 y] 38)) := (Below.refl _ _).alloc (Nat.le_refl _) _
  have N0 : (w.alloc (.cells #[.int .i64 x, .int .i64 y] 38)).cell? ⟨w.heap.size, 0, none⟩ = some (.int .i64 x) := World.cell?_alloc_new _ _ _ _
  have N1 : (w.alloc (.cells #[.int .i64 x, .int .i64 y] 38)).cell? ⟨w.heap.size, 1, none⟩ = some (.int .i64 y) := World.cell?_alloc_new _ _ _ _
  go_enter Tryd.func95, Tryd.ntmps95
  go_wp2_with fail
  go_loopw [8] (fun i wr => ∃ k : Nat, k ≤ m ∧ i = .int .i64 k ∧ Hid (∀ j, j < k → (decide (p j = x) && decide (q j = y)) = false) ∧ Hid (Below w.heap.size w wr) ∧ Hid (wr.cell? ⟨w.heap.size, 0, none⟩ = some (.int .i64 x) ∧ wr.cell? ⟨w.heap.size, 1, none⟩ = some (.int .i64 y) ∧ w.heap.size < wr.heap.size)) (fun i _ => m - (intOf i).toNat)
  case atStart => exact ⟨0, by omega, rfl, fun j hj => by omega, B0, ⟨N0, N1, by simp⟩⟩
  case round =>
    obtain ⟨k, hk, rfl, hj, HB, HX⟩ := hrel
    clear N0 N1 B0
    by_cases hkn : k < m
    · obtain ⟨blk, off, rfl, h1, h2, h3⟩ := (hA.below HB.out (by omega)) (by omega)
      have hz := HB.out.size
      have c0 : wr.cell? ⟨blk, off + k * 2, none⟩ = some (.int .i64 (p k)) := by simpa [iiC] using h3 k 0 hkn (by omega)
      have c1 : wr.cell? ⟨blk, off + k * 2 + 1, none⟩ = some (.int .i64 (q k)) := by simpa [iiC] using h3 k 1 hkn (by omega)
      obtain ⟨x0, x1, xl⟩ := HX.out
      have lb : blk < wr.heap.size := by omega
      clear h3 hA
      by_cases e1 : x = p k
      · by_cases e2 : y = q k
        · have HG : Hid (fstI (fun t => decide (p t = x) && decide (q t = y)) m = k) := fstI_at hkn hj.out (by simp [e1, e2])
          go_wp2_with fail
          (refine wp_region_below_lit (by kernel_rfl) (by kernel_rfl) ?_; (repeat (first | go_big_quiet_step (fail) | quiet_step (fail))); refine wpQuiet_nil ?_; intro w2 hb2; have hz2 := hb2.size; (try (simp at hz2)); obtain ⟨hcw2, hfw2⟩ := bcell hb2; (try (have hy2 : w.heap.size < w2.heap.size := by omega)); (try (have hyy2 : w.heap.size + 1 < w2.heap.size := by omega)))
          go_wp2_with fail
          go_ret
          exact ⟨ret_int HG.out.symm, HB.out.trans (hb2.mono hz)⟩
        · have e2' : ¬ q k = y := fun h => e2 h.symm
          have HN : Hid (∀ j, j < k + 1 → (decide (p j = x) && decide (q j = y)) = false) := upto_snocF (p := fun j => decide (p j = x) && decide (q j = y)) hj.out (by simp [e2'])
          go_wp2_with fail
          (refine wp_region_below_lit (by kernel_rfl) (by kernel_rfl) ?_; (repeat (first | go_big_quiet_step (fail) | quiet_step (fail))); refine wpQuiet_nil ?_; intro w2 hb2; have hz2 := hb2.size; (try (simp at hz2)); obtain ⟨hcw2, hfw2⟩ := bcell hb2; (try (have hy2 : w.heap.size < w2.heap.size := by omega)); (try (have hyy2 : w.heap.size + 1 < w2.heap.size := by omega)))
          have HB2 : Hid (Below w.heap.size w w2) := HB.out.trans (hb2.mono hz)
          have HX2 : Hid (w2.cell? ⟨w.heap.size, 0, none⟩ = some (.int .i64 x) ∧ w2.cell? ⟨w.heap.size, 1, none⟩ = some (.int .i64 y) ∧ w.heap.size < w2.heap.size) := ⟨(hb2.cell (p := ⟨w.heap.size, 0, none⟩) xl).trans x0, (hb2.cell (p := ⟨w.heap.size, 1, none⟩) xl).trans x1, by omega⟩
          clear x0 x1 c0 c1 hcw2 hfw2 hb2
          go_wp2_with fail
          go_roundw
          case rel => exact ⟨k + 1, by omega, by go_num, HN.out, HB2.out, HX2.out⟩
          case measure => simp [intOf]; omega
      · have e1' : ¬ p k = x := fun h => e1 h.symm
        have HN : Hid (∀ j, j < k + 1 → (decide (p j = x) && decide (q j = y)) = false) := upto_snocF (p := fun j => decide (p j = x) && decide (q j = y)) hj.out (by simp [e1'])
        go_wp2_with fail
        (refine wp_region_below_lit (by kernel_rfl) (by kernel_rfl) ?_; (repeat (first | go_big_quiet_step (fail) | quiet_step (fail))); refine wpQuiet_nil ?_; intro w2 hb2; have hz2 := hb2.size; (try (simp at hz2)); obtain ⟨hcw2, hfw2⟩ := bcell hb2; (try (have hy2 : w.heap.size < w2.heap.size := by omega)); (try (have hyy2 : w.heap.size + 1 < w2.heap.size := by omega)))
        have HB2 : Hid (Below w.heap.size w w2) := HB.out.trans (hb2.mono hz)
        have HX2 : Hid (w2.cell? ⟨w.heap.size, 0, none⟩ = some (.int .i64 x) ∧ w2.cell? ⟨w.heap.size, 1, none⟩ = some (.int .i64 y) ∧ w.heap.size < w2.heap.size) := ⟨(hb2.cell (p := ⟨w.heap.size, 0, none⟩) xl).trans x0, (hb2.cell (p := ⟨w.heap.size, 1, none⟩) xl).trans x1, by omega⟩
        clear x0 x1 c0 c1 hcw2 hfw2 hb2
        go_wp2_with fail
        go_roundw
        case rel => exact ⟨k + 1, by omega, by go_num, HN.out, HB2.out, HX2.out⟩
        case measure => simp [intOf]; omega
    · obtain rfl : k = m := by omega
      have HG : Hid (fstI (fun t => decide (p t = x) && decide (q t = y)) k = -1) := fstI_none hj.out
      go_wp2_with fail
      go_ret
      exact ⟨ret_int HG.out.symm, HB.out⟩
set_option maxHeartbeats 800000 in
theorem ContainsCell_any (p q : Nat → Int) (m : Nat) (x y : Int) (lo hi : Nat) (v : Value) (w : World) (hv : Sl w lo hi 2 v m (iiC p q)) (hhi : hi ≤ w.heap.size) (hm : m ≤ 1048576) :
    Calls Tryd.prog 69 #[v, .agg #[.int .i64 x, .int .i64 y]] w fun e w' => e = .returned (.bool (hasC p q x y m)) ∧ Below w.heap.size w w' := by
  obtain ⟨A, cap, rfl, hcap, _⟩ := id hv.open_
  go_enter Tryd.func69, Tryd.ntmps69
  go_wp2_with fail
  refine (IndexCell_any p q m x y lo hi _ _ (hv.below (B := w.heap.size) (by repeat (first | (with_reducible exact Below.refl _ _) | (with_reducible refine below_ov ?_ ?_) | (with_reducible refine Below.setCell ?_ ?_ _) | (with_reducible refine Below.alloc ?_ ?_ _) | (with_reducible refine Below.drew ?_) | (with_reducible refine below_drewN ?_ _) | (refine Below.trans ?_ (Below.mono ‹Below _ _ _› (by first | omega | (simp; done) | (simp; omega)))) | exact Below.refl _ _ | omega | (focus (simp; done)) | (focus (simp; omega)))) hhi) (by first | omega | (simp; done) | (simp; omega)) hm).mono ?_
  rintro e w2 ⟨rfl, hb2⟩
  have hz2 := hb2.size
  go_wp2_with fail
  go_ret
  exact ⟨ret_bool (by first | rfl | (simp [hasC, ge_iff_le])), (by repeat (first | (with_reducible exact Below.refl _ _) | (with_reducible refine below_ov ?_ ?_) | (with_reducible refine Below.setCell ?_ ?_ _) | (with_reducible refine Below.alloc ?_ ?_ _) | (with_reducible refine Below.drew ?_) | (with_reducible refine below_drewN ?_ _) | (refine Below.trans ?_ (Below.mono ‹Below _ _ _› (by first | omega | (simp; done) | (simp; omega)))) | exact Below.refl _ _ | omega | (focus (simp; done)) | (focus (simp; omega))))⟩

end Go.Proofs.YtpckhpkbdanjoaaDoor

/-
  Plain words: a way with one hand at a wall. No program in sight.-/
namespace Go.Proofs.YtpckhpkbdanjoaaDoor
set_option linter.unusedVariables false
set_option linter.unusedSimpArgs false

/-- The turns in their order. -/
def trn (b : Bool) (i : Nat) : Nat := if b = true then (if i = 0 then 3 else i - 1) else (if i = 0 then 1 else if i = 1 then 0 else if i = 2 then 3 else 2)
theorem trn_lt (b : Bool) {i : Nat} (hi : i < 4) : trn b i < 4 := by
  have h : i = 0 ∨ i = 1 ∨ i = 2 ∨ i = 3 := by omega
  cases b <;> rcases h with rfl | rfl | rfl | rfl <;> decide
def hdI (b : Bool) (l i : Nat) : Nat := (l + trn b i) % 4
theorem hdI_lt (b : Bool) (l i : Nat) : hdI b l i < 4 := Nat.mod_lt _ (by omega)
/-- The direction chosen among the first k turns, or -1. -/
def hdJ (F : Nat → ByteArray) (n : Nat) (b : Bool) (p : Int × Int) (l : Nat) : Nat → Int
  | 0 => -1
  | k + 1 => if hdJ F n b p l k < 0 ∧ opP F n (stp p (hdI b l k)) = true then (hdI b l k : Nat) else hdJ F n b p l k
section
variable {F : Nat → ByteArray} {n : Nat} {b : Bool} {p : Int × Int} {l : Nat}
theorem hdJ_bd : ∀ k, -1 ≤ hdJ F n b p l k ∧ hdJ F n b p l k < 4
  | 0 => by simp [hdJ]
  | k + 1 => by
    rw [hdJ]
    split
    · have := hdI_lt b l k; omega
    · exact hdJ_bd k
theorem hdJ_no : ∀ {k : Nat}, (∀ i, i < k → opP F n (stp p (hdI b l i)) = false) → hdJ F n b p l k = -1
  | 0, _ => rfl
  | k + 1, h => by
    rw [hdJ, if_neg (by rw [h k (by omega)]; simp)]
    exact hdJ_no fun i hi => h i (by omega)
theorem hdJ_stay {k : Nat} (h : 0 ≤ hdJ F n b p l k) : ∀ {m : Nat}, k ≤ m → hdJ F n b p l m = hdJ F n b p l k
  | 0, hm => by obtain rfl : k = 0 := by omega
                rfl
  | m + 1, hm => by
    rcases Nat.lt_or_ge m k with h1 | h1
    · obtain rfl : k = m + 1 := by omega
      rfl
    · rw [hdJ, hdJ_stay h h1, if_neg (by omega)]
theorem hdJ_hit {j : Nat} (hj : j < 4) (h : ∀ i, i < j → opP F n (stp p (hdI b l i)) = false) (h1 : opP F n (stp p (hdI b l j)) = true) : hdJ F n b p l 4 = (hdI b l j : Nat) := by
  have e : hdJ F n b p l (j + 1) = (hdI b l j : Nat) := by
    rw [hdJ, if_pos ⟨by rw [hdJ_no h]; omega, h1⟩]
  rw [hdJ_stay (k := j + 1) (by omega) (by omega), e]
theorem hdJ_some : ∀ {k : Nat}, 0 ≤ hdJ F n b p l k → opP F n (stp p (hdJ F n b p l k).toNat) = true
  | 0, h => by simp [hdJ] at h
  | k + 1, h => by
    rw [hdJ] at h ⊢
    split at h
    · rename_i hc
      rw [if_pos hc]
      exact hc.2
    · rename_i hc
      rw [if_neg hc]
      exact hdJ_some h
end
/-- Where one is after t steps, and where one looks. -/
def hwS (F : Nat → ByteArray) (n : Nat) (b : Bool) (a : Int × Int) : Nat → (Int × Int) × Nat
  | 0 => (a, 0)
  | t + 1 => (stp (hwS F n b a t).1 (hdJ F n b (hwS F n b a t).1 (hwS F n b a t).2 4).toNat, (hdJ F n b (hwS F n b a t).1 (hwS F n b a t).2 4).toNat)
def hwP (F : Nat → ByteArray) (n : Nat) (b : Bool) (a : Int × Int) (t : Nat) : Int × Int := (hwS F n b a t).1
def hwL (F : Nat → ByteArray) (n : Nat) (b : Bool) (a : Int × Int) (t : Nat) : Nat := (hwS F n b a t).2
def hwJ (F : Nat → ByteArray) (n : Nat) (b : Bool) (a : Int × Int) (t : Nat) : Int := hdJ F n b (hwP F n b a t) (hwL F n b a t) 4
def hwCd (F : Nat → ByteArray) (n : Nat) (b : Bool) (a : Int × Int) (t : Nat) : Nat := 4 * ixF F (hwP F n b a t) + (hwJ F n b a t).toNat
/-- The steps that were made before. -/
def hwD (F : Nat → ByteArray) (n : Nat) (b : Bool) (a : Int × Int) : Nat → Nat → Bool
  | 0 => fun _ => false
  | t + 1 => orP (hwD F n b a t) (hwCd F n b a t)
/-- Here the way ends. -/
def hwX (F : Nat → ByteArray) (n : Nat) (b : Bool) (a : Int × Int) (t : Nat) : Bool := decide (hwJ F n b a t < 0) || hwD F n b a t (hwCd F n b a t)
def hwK (F : Nat → ByteArray) (n : Nat) (b : Bool) (a : Int × Int) : Nat := (fstI (hwX F n b a) (4 * (n * (F 0).size) + 1)).toNat
section
variable {F : Nat → ByteArray} {n : Nat} {b : Bool} {a : Int × Int} {t : Nat}
theorem hwP_zero : hwP F n b a 0 = a := rfl
theorem hwL_zero : hwL F n b a 0 = 0 := rfl
theorem hwP_next : hwP F n b a (t + 1) = stp (hwP F n b a t) (hwJ F n b a t).toNat := by simp only [hwP, hwS, hwJ, hwL]
theorem hwL_next : hwL F n b a (t + 1) = (hwJ F n b a t).toNat := by simp only [hwL, hwS, hwJ, hwP]
theorem hwJ_bd (t : Nat) : -1 ≤ hwJ F n b a t ∧ hwJ F n b a t < 4 := hdJ_bd 4
theorem hwL_lt : ∀ t, hwL F n b a t < 4
  | 0 => by rw [hwL_zero]; omega
  | t + 1 => by rw [hwL_next]; have := hwJ_bd (F := F) (n := n) (b := b) (a := a) t; omega
/-- As long as the way goes on it stays on open cells. -/
theorem hwP_open (ha : opP F n a = true) : ∀ {t : Nat}, (∀ s, s < t → hwX F n b a s = false) → opP F n (hwP F n b a t) = true
  | 0, _ => ha
  | t + 1, h => by
    have h1 := h t (by omega)
    simp only [hwX, Bool.or_eq_false_iff, decide_eq_false_iff_not] at h1
    have h2 : 0 ≤ hwJ F n b a t := by have := h1.1; omega
    obtain ⟨J, hJ⟩ : ∃ J, J = hwJ F n b a t := ⟨_, rfl⟩
    have h3 : 0 ≤ J → opP F n (stp (hwP F n b a t) J.toNat) = true := by
      rw [hJ, hwJ]
      exact fun h => hdJ_some h
    rw [← hJ] at h2
    rw [hwP_next, ← hJ]
    exact h3 h2
theorem hwC_lt (hp : opP F n (hwP F n b a t) = true) : hwCd F n b a t < 4 * (n * (F 0).size) := by
  have h1 := ix_lt hp
  have := hwJ_bd (F := F) (n := n) (b := b) (a := a) t
  unfold hwCd
  omega
theorem flt_or_len {p : Nat → Bool} {x n : Nat} (h : p x = false) (hx : x < n) : (flt (orP p x) n).length = (flt p n).length + 1 := by
  rw [flt_or h hx, flt_split p x n (by omega), List.length_append, List.length_append, List.length_cons]
  omega
theorem flt_none (n : Nat) : flt (fun _ => false) n = [] := by
  induction n with
  | zero => rfl
  | succ n ih => rw [flt, ih]; rfl
theorem hwD_len (ha : opP F n a = true) : ∀ {t : Nat}, (∀ s, s < t → hwX F n b a s = false) → (flt (hwD F n b a t) (4 * (n * (F 0).size))).length = t
  | 0, _ => by rw [hwD, flt_none]; rfl
  | t + 1, h => by
    have h1 := h t (by omega)
    simp only [hwX, Bool.or_eq_false_iff] at h1
    rw [hwD, flt_or_len h1.2 (hwC_lt (hwP_open ha fun s hs => h s (by omega))), hwD_len ha fun s hs => h s (by omega)]
/-- There are no more steps than places to look from. -/
theorem hw_le (ha : opP F n a = true) (h : ∀ s, s < t → hwX F n b a s = false) : t ≤ 4 * (n * (F 0).size) := by
  have h1 := hwD_len ha h
  have h2 := flt_len (hwD F n b a t) (4 * (n * (F 0).size))
  omega
theorem hwK_at (ha : opP F n a = true) (h : ∀ s, s < t → hwX F n b a s = false) (hx : hwX F n b a t = true) : hwK F n b a = t := by
  have h1 := hw_le ha h
  rw [hwK, fstI_at (k := t) (by omega) h hx]
  omega
theorem hwK_facts (ha : opP F n a = true) : hwK F n b a ≤ 4 * (n * (F 0).size) ∧ hwX F n b a (hwK F n b a) = true ∧ ∀ s, s < hwK F n b a → hwX F n b a s = false := by
  rcases fstI_cases (hwX F n b a) (4 * (n * (F 0).size) + 1) with ⟨h1, h2⟩ | ⟨k, h1, h2, h3, h4⟩
  · have := hw_le (b := b) ha (t := 4 * (n * (F 0).size) + 1) h2
    omega
  · have e : hwK F n b a = k := by rw [hwK, h2]; omega
    rw [e]
    exact ⟨by omega, h3, h4⟩
end

end Go.Proofs.YtpckhpkbdanjoaaDoor

/-
  Walks: the library's search of a list of cells, at the closures of SearchedCells.-/
namespace Go.Proofs.YtpckhpkbdanjoaaDoor
set_option linter.unusedVariables false
set_option linter.unusedSimpArgs false
open Go.RowKit

set_option maxHeartbeats 800000 in
theorem near1_any (x y a b : Int) (rb cb : Nat) (w : World) (hr : w.cell? ⟨rb, 0, none⟩ = some (.int .i64 x)) (hc : w.cell? ⟨cb, 0, none⟩ = some (.int .i64 y)) (lr : rb < w.heap.size) (lc : cb < w.heap.size)
    (hx : 0 ≤ x) (hx' : x ≤ 1000) (hy : 0 ≤ y) (hy' : y ≤ 1000) (hp : (0 ≤ a ∧ a ≤ 1000) ∧ 0 ≤ b ∧ b ≤ 1000) :
    Calls Tryd.prog 94 #[.agg #[.int .i64 a, .int .i64 b], .pointer (some ⟨rb, 0, none⟩), .pointer (some ⟨cb, 0, none⟩)] w fun e w' => e = .returned (.bool (nearB x y a b)) ∧ Below w.heap.size w w' := by
  have z1 : IntKind.i64.wrap (a - x) = a - x := IntWalk.i64_in _ (by omega)
  have z2 : IntKind.i64.wrap (b - y) = b - y := IntWalk.i64_in _ (by omega)
  cases e1 : inB (a - x) (-1) 1 with
  | false =>
    have HG : Hid (nearB x y a b = false) := by show _ = _; rw [nearB, e1]; rfl
    go_enter Tryd.func94, Tryd.ntmps94
    go_wp2_with (first | (go_at_call 68; refine (inside_any _ _ _ _).mono ?_; rintro e w' ⟨rfl, rfl⟩))
    go_ret
    exact ⟨ret_bool HG.out.symm, (by repeat (first | (with_reducible exact Below.refl _ _) | (with_reducible refine below_ov ?_ ?_) | (with_reducible refine Below.setCell ?_ ?_ _) | (with_reducible refine Below.alloc ?_ ?_ _) | (with_reducible refine Below.drew ?_) | (with_reducible refine below_drewN ?_ _) | (refine Below.trans ?_ (Below.mono ‹Below _ _ _› (by first | omega | (simp; done) | (simp; omega)))) | exact Below.refl _ _ | omega | (focus (simp; done)) | (focus (simp; omega))))⟩
  | true =>
    have HG : Hid (nearB x y a b = inB (b - y) (-1) 1) := by show _ = _; rw [nearB, e1]; rfl
    go_enter Tryd.func94, Tryd.ntmps94
    go_wp2_with (first | (go_at_call 68; refine (inside_any _ _ _ _).mono ?_; rintro e w' ⟨rfl, rfl⟩))
    go_ret
    exact ⟨ret_bool HG.out.symm, (by repeat (first | (with_reducible exact Below.refl _ _) | (with_reducible refine below_ov ?_ ?_) | (with_reducible refine Below.setCell ?_ ?_ _) | (with_reducible refine Below.alloc ?_ ?_ _) | (with_reducible refine Below.drew ?_) | (with_reducible refine below_drewN ?_ _) | (refine Below.trans ?_ (Below.mono ‹Below _ _ _› (by first | omega | (simp; done) | (simp; omega)))) | exact Below.refl _ _ | omega | (focus (simp; done)) | (focus (simp; omega))))⟩
set_option maxRecDepth 100000 in
set_option maxHeartbeats 1600000 in
theorem IndexFuncN_any (x y : Int) (rb cb : Nat) (p q : Nat → Int) (m lo2 hi2 : Nat) (u : Value) (w : World) (hu : Sl w lo2 hi2 2 u m (iiC p q)) (hhi2 : hi2 ≤ w.heap.size) (hm : m ≤ 1048576) (hr : w.cell? ⟨rb, 0, none⟩ = some (.int .i64 x)) (hc : w.cell? ⟨cb, 0, none⟩ = some (.int .i64 y)) (lr : rb < w.heap.size) (lc : cb < w.heap.size) (hx : 0 ≤ x) (hx' : x ≤ 1000) (hy : 0 ≤ y) (hy' : y ≤ 1000) (hp : ∀ t, t < m → (0 ≤ p t ∧ p t ≤ 1000) ∧ 0 ≤ q t ∧ q t ≤ 1000) :
    Calls Tryd.prog 93 #[u, .func (.func 94) #[] #[.pointer (some ⟨rb, 0, none⟩), .pointer (some ⟨cb, 0, none⟩)]] w fun e w' => e = .returned (.int .i64 (fstI (fun t => nearB x y (p t) (q t)) m)) ∧ Below w.heap.size w w' := by
  obtain ⟨A, cap, rfl, hcap, hA⟩ := hu.open_
  clear hu
  go_enter Tryd.func93, Tryd.ntmps93
  go_wp2_with fail
  go_loopw [8] (fun i wr => ∃ k : Nat, k ≤ m ∧ i = .int .i64 k ∧ Hid (∀ j, j < k → (fun t => nearB x y (p t) (q t)) j = false) ∧ Below w.heap.size w wr) (fun i _ => m - (intOf i).toNat)
  case atStart => exact ⟨0, by omega, rfl, fun j hj => by omega, Below.refl _ _⟩
  case round =>
    obtain ⟨k, hk, rfl, hj, hb⟩ := hrel
    have hzr := hb.size
    by_cases hkn : k < m
    · obtain ⟨blk, off, rfl, h1, h2, h3⟩ := (hA.below hb (by omega)) (by omega)
      have c0 : wr.cell? ⟨blk, off + k * 2, none⟩ = some (.int .i64 (p k)) := by simpa [iiC] using h3 k 0 hkn (by omega)
      have c1 : wr.cell? ⟨blk, off + k * 2 + 1, none⟩ = some (.int .i64 (q k)) := by simpa [iiC] using h3 k 1 hkn (by omega)
      clear h3 hA
      obtain ⟨tst, htst⟩ : ∃ b, (fun t => nearB x y (p t) (q t)) k = b := ⟨_, rfl⟩
      have HT := hide htst
      have hcon := near1_any x y (p k) (q k) rb cb wr ((hb.cell (p := ⟨rb, 0, none⟩) lr).trans hr) ((hb.cell (p := ⟨cb, 0, none⟩) lc).trans hc) (by omega) (by omega) hx hx' hy hy' (hp k hkn)
      rw [show nearB x y (p k) (q k) = tst from htst] at hcon
      clear htst
      cases tst with
      | false =>
        go_wp2_with fail
        refine hcon.mono ?_
        rintro e w2 ⟨rfl, hb2⟩
        have hz2 := hb2.size
        have hbw : Below w.heap.size w w2 := hb.trans (hb2.mono hzr)
        go_wp2_with fail
        go_roundw
        case rel => exact ⟨k + 1, by omega, by go_num, upto_snocF hj.out HT.out, hbw⟩
        case measure => simp [intOf]; omega
      | true =>
        have HG : Hid (fstI (fun t => nearB x y (p t) (q t)) m = k) := fstI_at hkn hj.out HT.out
        go_wp2_with fail
        refine hcon.mono ?_
        rintro e w2 ⟨rfl, hb2⟩
        have hbw : Below w.heap.size w w2 := hb.trans (hb2.mono hzr)
        go_wp2_with fail
        go_ret
        exact ⟨ret_int HG.out.symm, hbw⟩
    · obtain rfl : k = m := by omega
      go_wp2_with fail
      go_ret
      exact ⟨ret_int (fstI_none hj.out).symm, hb⟩
set_option maxHeartbeats 800000 in
theorem ContainsFuncN_any (x y : Int) (rb cb : Nat) (p q : Nat → Int) (m lo2 hi2 : Nat) (u : Value) (w : World) (hu : Sl w lo2 hi2 2 u m (iiC p q)) (hhi2 : hi2 ≤ w.heap.size) (hm : m ≤ 1048576) (hr : w.cell? ⟨rb, 0, none⟩ = some (.int .i64 x)) (hc : w.cell? ⟨cb, 0, none⟩ = some (.int .i64 y)) (lr : rb < w.heap.size) (lc : cb < w.heap.size) (hx : 0 ≤ x) (hx' : x ≤ 1000) (hy : 0 ≤ y) (hy' : y ≤ 1000) (hp : ∀ t, t < m → (0 ≤ p t ∧ p t ≤ 1000) ∧ 0 ≤ q t ∧ q t ≤ 1000) :
    Calls Tryd.prog 57 #[u, .func (.func 94) #[] #[.pointer (some ⟨rb, 0, none⟩), .pointer (some ⟨cb, 0, none⟩)]] w fun e w' => e = .returned (.bool (decide (0 ≤ fstI (fun t => nearB x y (p t) (q t)) m))) ∧ Below w.heap.size w w' := by
  obtain ⟨A, cap, rfl, hcap, hA⟩ := id hu.open_
  go_enter Tryd.func57, Tryd.ntmps57
  go_wp2_with fail
  refine (IndexFuncN_any x y rb cb p q m lo2 hi2 _ w hu hhi2 hm hr hc lr lc hx hx' hy hy' hp).mono ?_
  rintro e w2 ⟨rfl, hb2⟩
  go_wp2_with fail
  go_ret
  exact ⟨ret_bool (by first | rfl | (simp [ge_iff_le])), hb2⟩
set_option maxHeartbeats 800000 in
theorem nopen1_any (F : Nat → ByteArray) (n lo hi : Nat) (v : Value) (a b : Int) (fb : Nat) (w : World) (hv : Sl w lo hi 1 v n (sC F)) (hhi : hi ≤ w.heap.size) (hg : flB F n = true) (hf : w.cell? ⟨fb, 0, none⟩ = some v) (lf : fb < w.heap.size) :
    Calls Tryd.prog 58 #[.agg #[.int .i64 a, .int .i64 b], .pointer (some ⟨fb, 0, none⟩)] w fun e w' => e = .returned (.bool (!opB F n a b)) ∧ Below w.heap.size w w' := by
  obtain ⟨A, cap, rfl, hcap, hA⟩ := id hv.open_
  go_enter Tryd.func58, Tryd.ntmps58
  go_wp2_with fail
  refine (isOpen_any F n a b lo hi _ _ (hv.below (B := w.heap.size) (by repeat (first | (with_reducible exact Below.refl _ _) | (with_reducible refine below_ov ?_ ?_) | (with_reducible refine Below.setCell ?_ ?_ _) | (with_reducible refine Below.alloc ?_ ?_ _) | (with_reducible refine Below.drew ?_) | (with_reducible refine below_drewN ?_ _) | (refine Below.trans ?_ (Below.mono ‹Below _ _ _› (by first | omega | (simp; done) | (simp; omega)))) | exact Below.refl _ _ | omega | (focus (simp; done)) | (focus (simp; omega)))) hhi) (by first | omega | (simp; done) | (simp; omega)) hg).mono ?_
  rintro e w1 ⟨rfl, hb1⟩
  have hz1 := hb1.size
  go_wp2_with fail
  go_ret
  exact ⟨rfl, (by repeat (first | (with_reducible exact Below.refl _ _) | (with_reducible refine below_ov ?_ ?_) | (with_reducible refine Below.setCell ?_ ?_ _) | (with_reducible refine Below.alloc ?_ ?_ _) | (with_reducible refine Below.drew ?_) | (with_reducible refine below_drewN ?_ _) | (refine Below.trans ?_ (Below.mono ‹Below _ _ _› (by first | omega | (simp; done) | (simp; omega)))) | exact Below.refl _ _ | omega | (focus (simp; done)) | (focus (simp; omega))))⟩
set_option maxRecDepth 100000 in
set_option maxHeartbeats 1600000 in
theorem IndexFuncO_any (F : Nat → ByteArray) (n lo hi : Nat) (v : Value) (fb : Nat) (p q : Nat → Int) (m lo2 hi2 : Nat) (u : Value) (w : World) (hu : Sl w lo2 hi2 2 u m (iiC p q)) (hhi2 : hi2 ≤ w.heap.size) (hm : m ≤ 1048576) (hv : Sl w lo hi 1 v n (sC F)) (hhi : hi ≤ w.heap.size) (hg : flB F n = true) (hf : w.cell? ⟨fb, 0, none⟩ = some v) (lf : fb < w.heap.size) :
    Calls Tryd.prog 93 #[u, .func (.func 58) #[] #[.pointer (some ⟨fb, 0, none⟩)]] w fun e w' => e = .returned (.int .i64 (fstI (fun t => !opB F n (p t) (q t)) m)) ∧ Below w.heap.size w w' := by
  obtain ⟨A, cap, rfl, hcap, hA⟩ := hu.open_
  clear hu
  go_enter Tryd.func93, Tryd.ntmps93
  go_wp2_with fail
  go_loopw [8] (fun i wr => ∃ k : Nat, k ≤ m ∧ i = .int .i64 k ∧ Hid (∀ j, j < k → (fun t => !opB F n (p t) (q t)) j = false) ∧ Below w.heap.size w wr) (fun i _ => m - (intOf i).toNat)
  case atStart => exact ⟨0, by omega, rfl, fun j hj => by omega, Below.refl _ _⟩
  case round =>
    obtain ⟨k, hk, rfl, hj, hb⟩ := hrel
    have hzr := hb.size
    by_cases hkn : k < m
    · obtain ⟨blk, off, rfl, h1, h2, h3⟩ := (hA.below hb (by omega)) (by omega)
      have c0 : wr.cell? ⟨blk, off + k * 2, none⟩ = some (.int .i64 (p k)) := by simpa [iiC] using h3 k 0 hkn (by omega)
      have c1 : wr.cell? ⟨blk, off + k * 2 + 1, none⟩ = some (.int .i64 (q k)) := by simpa [iiC] using h3 k 1 hkn (by omega)
      clear h3 hA
      obtain ⟨tst, htst⟩ : ∃ b, (fun t => !opB F n (p t) (q t)) k = b := ⟨_, rfl⟩
      have HT := hide htst
      have hcon := nopen1_any F n lo hi v (p k) (q k) fb wr (hv.below (B := w.heap.size) hb hhi) (by omega) hg ((hb.cell (p := ⟨fb, 0, none⟩) lf).trans hf) (by omega)
      rw [show (!opB F n (p k) (q k)) = tst from htst] at hcon
      clear htst
      cases tst with
      | false =>
        go_wp2_with fail
        refine hcon.mono ?_
        rintro e w2 ⟨rfl, hb2⟩
        have hz2 := hb2.size
        have hbw : Below w.heap.size w w2 := hb.trans (hb2.mono hzr)
        go_wp2_with fail
        go_roundw
        case rel => exact ⟨k + 1, by omega, by go_num, upto_snocF hj.out HT.out, hbw⟩
        case measure => simp [intOf]; omega
      | true =>
        have HG : Hid (fstI (fun t => !opB F n (p t) (q t)) m = k) := fstI_at hkn hj.out HT.out
        go_wp2_with fail
        refine hcon.mono ?_
        rintro e w2 ⟨rfl, hb2⟩
        have hbw : Below w.heap.size w w2 := hb.trans (hb2.mono hzr)
        go_wp2_with fail
        go_ret
        exact ⟨ret_int HG.out.symm, hbw⟩
    · obtain rfl : k = m := by omega
      go_wp2_with fail
      go_ret
      exact ⟨ret_int (fstI_none hj.out).symm, hb⟩
set_option maxHeartbeats 800000 in
theorem ContainsFuncO_any (F : Nat → ByteArray) (n lo hi : Nat) (v : Value) (fb : Nat) (p q : Nat → Int) (m lo2 hi2 : Nat) (u : Value) (w : World) (hu : Sl w lo2 hi2 2 u m (iiC p q)) (hhi2 : hi2 ≤ w.heap.size) (hm : m ≤ 1048576) (hv : Sl w lo hi 1 v n (sC F)) (hhi : hi ≤ w.heap.size) (hg : flB F n = true) (hf : w.cell? ⟨fb, 0, none⟩ = some v) (lf : fb < w.heap.size) :
    Calls Tryd.prog 57 #[u, .func (.func 58) #[] #[.pointer (some ⟨fb, 0, none⟩)]] w fun e w' => e = .returned (.bool (decide (0 ≤ fstI (fun t => !opB F n (p t) (q t)) m))) ∧ Below w.heap.size w w' := by
  obtain ⟨A, cap, rfl, hcap, hA⟩ := id hu.open_
  go_enter Tryd.func57, Tryd.ntmps57
  go_wp2_with fail
  refine (IndexFuncO_any F n lo hi v fb p q m lo2 hi2 _ w hu hhi2 hm hv hhi hg hf lf).mono ?_
  rintro e w2 ⟨rfl, hb2⟩
  go_wp2_with fail
  go_ret
  exact ⟨ret_bool (by first | rfl | (simp [ge_iff_le])), hb2⟩

end Go.Proofs.YtpckhpkbdanjoaaDoor

/-
  Walks: the reference puts a number into an increasing list.-/
namespace Go.Proofs.YtpckhpkbdanjoaaDoor
set_option linter.unusedVariables false
set_option linter.unusedSimpArgs false
open Go.RowKit

theorem infoIntP : (Tryd.prog.info? 3).map (fun i => (i.zero, i.size, i.bytes)) = some (some (.int .i64 0), 1, 8) := by kernel_rfl
/-- A row of the call's own that holds the places that pass a test. -/
def PRowI (w : World) (base : Nat) (v : Value) (P : Nat → Bool) (N : Nat) : Prop := w.ownsRow base 3 1 v (flt P N).length (fltV P N)
theorem fltV_or {p : Nat → Bool} {x n : Nat} (h : p x = false) (hx : x < n) : fltV (orP p x) n = fltV p x ++ [.int .i64 (x : Nat)] ++ (fltR p x n).map (fun (i : Nat) => Value.int .i64 (i : Int)) ∧ (flt (orP p x) n).length = (flt p x).length + 1 + (fltR p x n).length := by
  rw [fltV, flt_or h hx]
  constructor
  · simp [fltV]
  · simp; omega
theorem fltV_cell {P : Nat → Bool} {N j y : Nat} (h : (flt P N)[j]? = some y) : (fltV P N)[j]? = some (.int .i64 (y : Int)) := by
  rw [fltV, List.getElem?_map, h]
  rfl
theorem fltV_split (p : Nat → Bool) {x n : Nat} (h : x ≤ n) : fltV p n = fltV p x ++ (fltR p x n).map (fun (i : Nat) => Value.int .i64 (i : Int)) ∧ (flt p n).length = (flt p x).length + (fltR p x n).length := by
  rw [fltV, flt_split p x n h]
  exact ⟨by simp [fltV], by simp⟩
set_option maxRecDepth 100000 in
set_option maxHeartbeats 3200000 in
theorem l1Put_some (P : Nat → Bool) (N x base n g cap : Nat) (w : World) (hn : (flt P N).length = n) (hv : PRowI w base (.slice (some ⟨g, 0, none⟩) n cap) P N) (hx : x < N) (hN : N ≤ 1000) (hb0 : base ≤ w.heap.size) :
    Calls Tryd.prog 90 #[.slice (some ⟨g, 0, none⟩) n cap, .int .i64 x] w fun e w' => ∃ v', e = .returned v' ∧ PRowI w' base v' (orP P x) N ∧ Below w.heap.size w w' := by
  obtain ⟨ii, hii, iz0, iz1, iz2⟩ := info_parts infoIntP
  obtain ⟨K, hK⟩ : ∃ K, (flt P x).length = K := ⟨_, rfl⟩
  have hKn : K ≤ n := by rw [← hK, ← hn, flt_split P x N (by omega)]; simp
  have hn1000 : n ≤ 1000 := by have := flt_len P N; omega
  have hnc : n ≤ cap ∧ cap ≤ maxLen := by
    rcases hv.2 with ⟨h0, _⟩ | ⟨g', cap', cur, h0, _, _, h1, h2, _⟩
    · cases h0
    · cases h0; exact ⟨by rw [← hn]; exact h1, h2⟩
  obtain ⟨hcap, hcm⟩ := hnc
  unfold maxLen at hcm
  have hgl : g < w.heap.size := (hv.lt g rfl).2
  have HC : Hid (∀ (j : Nat) u, (fltV P N)[j]? = some u → w.cell? ⟨g, j, none⟩ = some u) := fun j u hu => by
    have := hv.cells rfl j u hu
    rwa [Addr.add_lit, Nat.zero_add] at this
  have HLo : Hid (∀ j, j < K → ∃ y : Nat, w.cell? ⟨g, j, none⟩ = some (.int .i64 y) ∧ y < x) := fun j hj => by
    obtain ⟨y, h1, h2⟩ := flt_below (p := P) (x := x) (n := N) (j := j) (by omega) (by omega)
    exact ⟨y, HC.out j _ (fltV_cell h1), h2⟩
  have HUp : Hid (K < n → ∃ y : Nat, w.cell? ⟨g, K, none⟩ = some (.int .i64 y) ∧ x ≤ y ∧ (y = x ↔ P x = true)) := fun h => by
    have h1 : K < (flt P N).length := by omega
    have h2 := List.getElem?_eq_getElem h1
    refine ⟨(flt P N)[K], HC.out K _ (fltV_cell h2), flt_above (x := x) (by omega) (by omega) h2, ?_⟩
    have h3 := flt_head (p := P) (x := x) (n := N) hx
    rw [hK, h2] at h3
    simpa using h3
  have HEnd : Hid (K = n → P x = false) := fun h => by
    cases hp : P x with
    | false => rfl
    | true =>
      have h3 := (flt_head (p := P) (x := x) (n := N) hx).2 hp
      rw [hK, List.getElem?_eq_none (by omega)] at h3
      cases h3
  have HN := hide hn
  have HV := hide hv
  have HK := hide hK
  clear hv hn hK
  go_enter Tryd.func90, Tryd.ntmps90
  go_wp2_with fail
  go_loopg [5] (K + 1) (fun gn i wr => ∃ k : Nat, k ≤ K ∧ K - k < gn ∧ i = .int .i64 k ∧ Below w.heap.size w wr)
  case atStart => exact ⟨0, by omega, by omega, rfl, Below.refl _ _⟩
  case round =>
    obtain ⟨k, hk, hgn, rfl, hb⟩ := hrel
    have hzr := hb.size
    have l0 : g < wr.heap.size := by omega
    by_cases hkK : k < K
    · obtain ⟨y, hy, hyx⟩ := HLo.out k hkK
      have c0 : wr.cell? ⟨g, k, none⟩ = some (.int .i64 (y : Nat)) := (hb.cell (p := ⟨g, k, none⟩) hgl).trans hy
      have d1 : decide ((k : Int) < (n : Int)) = true := decide_eq_true (by omega)
      have d1' : decide (k < n) = true := decide_eq_true (by omega)
      have d2 : decide ((y : Int) < (x : Int)) = true := decide_eq_true (by omega)
      have d2' : decide (y < x) = true := decide_eq_true (by omega)
      clear hy
      go_wp2_with fail
      go_roundg (K - k)
      case measure => omega
      case rel => exact ⟨k + 1, by omega, by omega, by go_num, hb⟩
    · obtain rfl : k = K := by omega
      cases hp : P x with
      | true =>
        have hkn : k < n := by
          rcases Nat.lt_or_ge k n with h | h
          · exact h
          · have := HEnd.out (by omega)
            rw [hp] at this
            cases this
        obtain ⟨y, hy, _, hyx⟩ := HUp.out hkn
        have e := hyx.2 hp
        rw [e] at hy
        have c0 : wr.cell? ⟨g, k, none⟩ = some (.int .i64 (x : Nat)) := (hb.cell (p := ⟨g, k, none⟩) hgl).trans hy
        have d1 : decide ((k : Int) < (n : Int)) = true := decide_eq_true (by omega)
        have d1' : decide (k < n) = true := decide_eq_true hkn
        have HE : Hid (PRowI wr base (.slice (some ⟨g, 0, none⟩) n cap) (orP P x) N) := by
          show PRowI _ _ _ _ _
          rw [PRowI, fltV, orP_same hp]
          exact row_below HV.out hb (Nat.le_refl _)
        clear hy hyx e
        go_wp2_with fail
        go_ret
        exact ⟨_, rfl, HE.out, hb⟩
      | false =>
        have HO := hide (fltV_or hp hx)
        have hrs := (fltV_split P (Nat.le_of_lt hx)).2
        by_cases hkn : k < n
        · obtain ⟨y, hy, hy1, hy2⟩ := HUp.out hkn
          have hyx : x < y := by
            rcases Nat.lt_or_ge x y with h | h
            · exact h
            · have := hy2.1 (by omega)
              rw [hp] at this
              cases this
          have c0 : wr.cell? ⟨g, k, none⟩ = some (.int .i64 (y : Nat)) := (hb.cell (p := ⟨g, k, none⟩) hgl).trans hy
          have d1 : decide ((k : Int) < (n : Int)) = true := decide_eq_true (by omega)
          have d1' : decide (k < n) = true := decide_eq_true hkn
          have d2 : decide ((y : Int) < (x : Int)) = false := decide_eq_false (by omega)
          have d2' : decide (y < x) = false := decide_eq_false (by omega)
          have d3 : ((y : Int) == (x : Int)) = false := by simp; omega
          have d3' : (y == x) = false := by simp; omega
          have hck : ¬ cap = k := by omega
          clear hy hy1 hy2
          have r1 : (wr.alloc (.cells #[] 3)).ownsRow wr.heap.size 3 1 (.slice (some ⟨wr.heap.size, 0, none⟩) 0 0) 0 [] := by simpa using World.ownsRow_made wr (base := wr.heap.size) (e := 3) (size := 1) #[] 0 (by simp) (Nat.zero_le _) rfl
          go_wp2_with (at_builtin; refine wpList_append_own _ rfl _ _ 48 rfl wr.heap.size 3 ii (.int .i64 0) 1 8 Tryd.underlying48 hii iz0 iz1 iz2 rfl (by decide) _ 0 [] rfl r1 ⟨g, 0, none⟩ k cap (fltV P x) rfl ?_ ?_ ?_ ?_ ?_ ?_ ?_)
          · simp [fltV, HK.out]
          · intro j u hu
            rw [Addr.add_lit, Nat.zero_add]
            refine (World.cell?_alloc_lt _ _ _ l0).trans ((hb.cell (p := ⟨g, j, none⟩) hgl).trans (HC.out j u ?_))
            rw [(fltV_split P (Nat.le_of_lt hx)).1, List.getElem?_append_left]
            · exact hu
            · exact (List.getElem?_eq_some_iff.1 hu).1
          · intro u hu
            obtain ⟨i, _, rfl⟩ := List.mem_map.1 hu
            rfl
          · unfold maxLen; omega
          · omega
          · simp
          intro v2 w2 hown2 hg2 _
          have hb2 : Below wr.heap.size wr w2 := ((Below.refl wr.heap.size wr).alloc (Nat.le_refl _) _).grown hg2 (by simp) (fun q hq => (r1.lt q hq).1)
          have hz2 := hb2.size
          obtain ⟨B2, c2, rfl⟩ := row_form hown2
          go_wp2_with (at_builtin; refine wpList_append_own _ rfl _ _ 48 rfl wr.heap.size 3 ii (.int .i64 0) 1 8 Tryd.underlying48 hii iz0 iz1 iz2 rfl (by decide) _ k (fltV P x) rfl (hown2.alloc _) ⟨w2.heap.size, 0, none⟩ 1 1 [.int .i64 (x : Nat)] rfl rfl ?_ ?_ ?_ ?_ ?_ ?_)
          · intro i u hu
            match i, hu with
            | 0, hu => simp at hu; subst hu; simp [go_sem, Addr.add]
          · intro u hu; simp at hu; subst hu; rfl
          · unfold maxLen; omega
          · omega
          · simp; omega
          intro v3 w3 hown3 hg3 _
          have hb3 : Below wr.heap.size wr w3 := (hb2.alloc hz2 _).grown hg3 (by simp; omega) (fun q hq => (hown2.lt q hq).1)
          have hz3 := hb3.size
          obtain ⟨B3, c3, rfl⟩ := row_form hown3
          have hsl : ∀ W, (Instr.slice 48 (.slice (some ⟨g, 0, none⟩) n cap) (some (.int .i64 (k : Nat))) none none).run Tryd.prog W = .ok (.slice (some ⟨g, k, none⟩) (n - k) (cap - k)) W := fun W => by
            simp [go_sem, Tryd.underlying48, hck]
            omega
          go_wp2_with (at_builtin; refine wpList_append_own _ rfl _ _ 48 rfl wr.heap.size 3 ii (.int .i64 0) 1 8 Tryd.underlying48 hii iz0 iz1 iz2 rfl (by decide) _ _ _ rfl hown3 ⟨g, k, none⟩ _ _ ((fltR P x N).map (fun (i : Nat) => Value.int .i64 (i : Int))) rfl ?_ ?_ ?_ ?_ ?_ ?_ ?_)
          · simp
            have := HN.out
            have := HK.out
            omega
          · intro j u hu
            rw [Addr.add_lit]
            refine (hb3.cell (p := ⟨g, k + j, none⟩) l0).trans ((hb.cell (p := ⟨g, k + j, none⟩) hgl).trans (HC.out (k + j) u ?_))
            rw [(fltV_split P (Nat.le_of_lt hx)).1, List.getElem?_append_right (by simp [fltV, HK.out])]
            have e : (fltV P x).length = k := by simp [fltV, HK.out]
            rw [e, Nat.add_sub_cancel_left]
            exact hu
          · intro u hu
            obtain ⟨i, _, rfl⟩ := List.mem_map.1 hu
            rfl
          · unfold maxLen; omega
          · omega
          · omega
          intro v4 w4 hown4 hg4 _
          have hb4 : Below wr.heap.size wr w4 := hb3.grown hg4 hz3 (fun q hq => (hown3.lt q hq).1)
          have HF : Hid (PRowI w4 base v4 (orP P x) N) := by
            show PRowI _ _ _ _ _
            have e : (flt (orP P x) N).length = k + 1 + (n - k) := by
              rw [HO.out.2, HK.out]
              have := HN.out
              have := HK.out
              omega
            rw [PRowI, e, HO.out.1]
            have h5 := hown4.mono (show base ≤ wr.heap.size by omega)
            simpa using h5
          have hbw : Below w.heap.size w w4 := hb.trans (hb4.mono hzr)
          clear hown2 hown3 hown4 hg2 hg3 hg4
          go_wp2_with fail
          go_ret
          exact ⟨_, rfl, HF.out, hbw⟩
        · have HKN : Hid (n = k) := by show _ = _; omega
          have d1 : decide ((k : Int) < (n : Int)) = false := decide_eq_false (by omega)
          have d1' : decide (k < n) = false := decide_eq_false hkn
          have hkn2 : k ≤ n := hKn
          by_cases hck : cap = k
          · obtain rfl : k = cap := hck.symm
            clear hck
            have r1 : (wr.alloc (.cells #[] 3)).ownsRow wr.heap.size 3 1 (.slice (some ⟨wr.heap.size, 0, none⟩) 0 0) 0 [] := by simpa using World.ownsRow_made wr (base := wr.heap.size) (e := 3) (size := 1) #[] 0 (by simp) (Nat.zero_le _) rfl
            go_wp2_with (at_builtin; refine wpList_append_own _ rfl _ _ 48 rfl wr.heap.size 3 ii (.int .i64 0) 1 8 Tryd.underlying48 hii iz0 iz1 iz2 rfl (by decide) _ 0 [] rfl r1 ⟨g, 0, none⟩ k k (fltV P x) rfl ?_ ?_ ?_ ?_ ?_ ?_ ?_)
            · simp [fltV, HK.out]
            · intro j u hu
              rw [Addr.add_lit, Nat.zero_add]
              refine (World.cell?_alloc_lt _ _ _ l0).trans ((hb.cell (p := ⟨g, j, none⟩) hgl).trans (HC.out j u ?_))
              rw [(fltV_split P (Nat.le_of_lt hx)).1, List.getElem?_append_left]
              · exact hu
              · exact (List.getElem?_eq_some_iff.1 hu).1
            · intro u hu
              obtain ⟨i, _, rfl⟩ := List.mem_map.1 hu
              rfl
            · unfold maxLen; omega
            · omega
            · simp
            intro v2 w2 hown2 hg2 _
            have hb2 : Below wr.heap.size wr w2 := ((Below.refl wr.heap.size wr).alloc (Nat.le_refl _) _).grown hg2 (by simp) (fun q hq => (r1.lt q hq).1)
            have hz2 := hb2.size
            obtain ⟨B2, c2, rfl⟩ := row_form hown2
            go_wp2_with (at_builtin; refine wpList_append_own _ rfl _ _ 48 rfl wr.heap.size 3 ii (.int .i64 0) 1 8 Tryd.underlying48 hii iz0 iz1 iz2 rfl (by decide) _ k (fltV P x) rfl (hown2.alloc _) ⟨w2.heap.size, 0, none⟩ 1 1 [.int .i64 (x : Nat)] rfl rfl ?_ ?_ ?_ ?_ ?_ ?_)
            · intro i u hu
              match i, hu with
              | 0, hu => simp at hu; subst hu; simp [go_sem, Addr.add]
            · intro u hu; simp at hu; subst hu; rfl
            · unfold maxLen; omega
            · omega
            · simp; omega
            intro v3 w3 hown3 hg3 _
            have hb3 : Below wr.heap.size wr w3 := (hb2.alloc hz2 _).grown hg3 (by simp; omega) (fun q hq => (hown2.lt q hq).1)
            have hz3 := hb3.size
            obtain ⟨B3, c3, rfl⟩ := row_form hown3
            have hsl : ∀ W, (Instr.slice 48 (.slice (some ⟨g, 0, none⟩) n k) (some (.int .i64 (k : Nat))) none none).run Tryd.prog W = .ok (.slice (some ⟨g, 0, none⟩) (n - k) 0) W := fun W => by
              simp [go_sem, Tryd.underlying48]
              omega
            go_wp2_with (at_builtin; refine wpList_append_own _ rfl _ _ 48 rfl wr.heap.size 3 ii (.int .i64 0) 1 8 Tryd.underlying48 hii iz0 iz1 iz2 rfl (by decide) _ _ _ rfl hown3 ⟨g, 0, none⟩ _ _ ((fltR P x N).map (fun (i : Nat) => Value.int .i64 (i : Int))) rfl ?_ ?_ ?_ ?_ ?_ ?_ ?_)
            · have := HN.out
              have := HK.out
              have := HKN.out
              have e : (fltR P x N).length = 0 := by omega
              simp [List.eq_nil_of_length_eq_zero e]
            · intro j u hu
              have h0 := (List.getElem?_eq_some_iff.1 hu).1
              simp at h0
              have := HN.out
              have := HK.out
              have := HKN.out
              omega
            · intro u hu
              obtain ⟨i, _, rfl⟩ := List.mem_map.1 hu
              rfl
            · unfold maxLen; omega
            · omega
            · omega
            intro v4 w4 hown4 hg4 _
            have hb4 : Below wr.heap.size wr w4 := hb3.grown hg4 hz3 (fun q hq => (hown3.lt q hq).1)
            have HF : Hid (PRowI w4 base v4 (orP P x) N) := by
              show PRowI _ _ _ _ _
              have e : (flt (orP P x) N).length = k + 1 + (n - k) := by
                rw [HO.out.2, HK.out]
                have := HN.out
                have := HK.out
                omega
              rw [PRowI, e, HO.out.1]
              have h5 := hown4.mono (show base ≤ wr.heap.size by omega)
              rw [show k + 1 + (n - k) = k + 1 by have := HKN.out; omega]
              simpa using h5
            have hbw : Below w.heap.size w w4 := hb.trans (hb4.mono hzr)
            clear hown2 hown3 hown4 hg2 hg3 hg4
            go_wp2_with fail
            go_ret
            exact ⟨_, rfl, HF.out, hbw⟩
          · skip
            have r1 : (wr.alloc (.cells #[] 3)).ownsRow wr.heap.size 3 1 (.slice (some ⟨wr.heap.size, 0, none⟩) 0 0) 0 [] := by simpa using World.ownsRow_made wr (base := wr.heap.size) (e := 3) (size := 1) #[] 0 (by simp) (Nat.zero_le _) rfl
            go_wp2_with (at_builtin; refine wpList_append_own _ rfl _ _ 48 rfl wr.heap.size 3 ii (.int .i64 0) 1 8 Tryd.underlying48 hii iz0 iz1 iz2 rfl (by decide) _ 0 [] rfl r1 ⟨g, 0, none⟩ k cap (fltV P x) rfl ?_ ?_ ?_ ?_ ?_ ?_ ?_)
            · simp [fltV, HK.out]
            · intro j u hu
              rw [Addr.add_lit, Nat.zero_add]
              refine (World.cell?_alloc_lt _ _ _ l0).trans ((hb.cell (p := ⟨g, j, none⟩) hgl).trans (HC.out j u ?_))
              rw [(fltV_split P (Nat.le_of_lt hx)).1, List.getElem?_append_left]
              · exact hu
              · exact (List.getElem?_eq_some_iff.1 hu).1
            · intro u hu
              obtain ⟨i, _, rfl⟩ := List.mem_map.1 hu
              rfl
            · unfold maxLen; omega
            · omega
            · simp
            intro v2 w2 hown2 hg2 _
            have hb2 : Below wr.heap.size wr w2 := ((Below.refl wr.heap.size wr).alloc (Nat.le_refl _) _).grown hg2 (by simp) (fun q hq => (r1.lt q hq).1)
            have hz2 := hb2.size
            obtain ⟨B2, c2, rfl⟩ := row_form hown2
            go_wp2_with (at_builtin; refine wpList_append_own _ rfl _ _ 48 rfl wr.heap.size 3 ii (.int .i64 0) 1 8 Tryd.underlying48 hii iz0 iz1 iz2 rfl (by decide) _ k (fltV P x) rfl (hown2.alloc _) ⟨w2.heap.size, 0, none⟩ 1 1 [.int .i64 (x : Nat)] rfl rfl ?_ ?_ ?_ ?_ ?_ ?_)
            · intro i u hu
              match i, hu with
              | 0, hu => simp at hu; subst hu; simp [go_sem, Addr.add]
            · intro u hu; simp at hu; subst hu; rfl
            · unfold maxLen; omega
            · omega
            · simp; omega
            intro v3 w3 hown3 hg3 _
            have hb3 : Below wr.heap.size wr w3 := (hb2.alloc hz2 _).grown hg3 (by simp; omega) (fun q hq => (hown2.lt q hq).1)
            have hz3 := hb3.size
            obtain ⟨B3, c3, rfl⟩ := row_form hown3
            have hsl : ∀ W, (Instr.slice 48 (.slice (some ⟨g, 0, none⟩) n cap) (some (.int .i64 (k : Nat))) none none).run Tryd.prog W = .ok (.slice (some ⟨g, k, none⟩) (n - k) (cap - k)) W := fun W => by
              simp [go_sem, Tryd.underlying48, hck]
              omega
            go_wp2_with (at_builtin; refine wpList_append_own _ rfl _ _ 48 rfl wr.heap.size 3 ii (.int .i64 0) 1 8 Tryd.underlying48 hii iz0 iz1 iz2 rfl (by decide) _ _ _ rfl hown3 ⟨g, k, none⟩ _ _ ((fltR P x N).map (fun (i : Nat) => Value.int .i64 (i : Int))) rfl ?_ ?_ ?_ ?_ ?_ ?_ ?_)
            · simp
              have := HN.out
              have := HK.out
              omega
            · intro j u hu
              rw [Addr.add_lit]
              refine (hb3.cell (p := ⟨g, k + j, none⟩) l0).trans ((hb.cell (p := ⟨g, k + j, none⟩) hgl).trans (HC.out (k + j) u ?_))
              rw [(fltV_split P (Nat.le_of_lt hx)).1, List.getElem?_append_right (by simp [fltV, HK.out])]
              have e : (fltV P x).length = k := by simp [fltV, HK.out]
              rw [e, Nat.add_sub_cancel_left]
              exact hu
            · intro u hu
              obtain ⟨i, _, rfl⟩ := List.mem_map.1 hu
              rfl
            · unfold maxLen; omega
            · omega
            · omega
            intro v4 w4 hown4 hg4 _
            have hb4 : Below wr.heap.size wr w4 := hb3.grown hg4 hz3 (fun q hq => (hown3.lt q hq).1)
            have HF : Hid (PRowI w4 base v4 (orP P x) N) := by
              show PRowI _ _ _ _ _
              have e : (flt (orP P x) N).length = k + 1 + (n - k) := by
                rw [HO.out.2, HK.out]
                have := HN.out
                have := HK.out
                omega
              rw [PRowI, e, HO.out.1]
              have h5 := hown4.mono (show base ≤ wr.heap.size by omega)
              simpa using h5
            have hbw : Below w.heap.size w w4 := hb.trans (hb4.mono hzr)
            clear hown2 hown3 hown4 hg2 hg3 hg4
            go_wp2_with fail
            go_ret
            exact ⟨_, rfl, HF.out, hbw⟩

end Go.Proofs.YtpckhpkbdanjoaaDoor

/-
  An append of one row of the call's own onto another.-/
namespace Go.Proofs.YtpckhpkbdanjoaaDoor
set_option linter.unusedVariables false
set_option linter.unusedSimpArgs false
open Go.RowKit

theorem run_append_rows {P : Program} (w : World) (base base2 : Nat) (t ty e : TypeId) (i : TypeInfo) (z : Value) (size bytes : Nat) (ht : P.underlying t = some (.slice e)) (hi : P.info? e = some i) (hz : i.zero = some z)
    (hsize : i.size = size) (hby : i.bytes = bytes) (hzs : z.cells.size = size) (hsz : 0 < size)
    (v u : Value) (n m : Nat) (xs ys : List Value) (hown : w.ownsRow base e size v n xs) (hown2 : w.ownsRow base2 e size u m ys) (h1 : ∀ u ∈ ys, u.oneCell' = true)
    (h63 : n + m ≤ maxLen) (hbytes : (n + m) * bytes ≤ 140737488355328) (hbase : base ≤ w.heap.size) :
    ∃ v' w', (Builtin.append_ #[t, t] ty #[v, u]).run P w = .ok v' w' ∧ w'.ownsRow base e size v' (n + m) (xs ++ ys) ∧ w.grownBy w' v.ownBlock := by
  rcases hown2.2 with ⟨rfl, rfl⟩ | ⟨g, cap, cur, rfl, hbg, hg, hnc, hcm, hcs, htake⟩
  · have hy : ys = [] := List.eq_nil_of_length_eq_zero (by simpa using hown2.1)
    subst hy
    refine ⟨v, w, ?_, by simpa using hown, ⟨rfl, rfl, rfl, Nat.le_refl _, fun _ _ _ => rfl⟩⟩
    rcases hown.2 with ⟨rfl, rfl⟩ | ⟨g, cap, cur, rfl, hbg, hg, hnc, hcm, hcs, htake⟩
    · simp [Builtin.append_, run_underlying ht, sizeOf, typeInfo, hi, Builtin.lenOf, Builtin.firstCells, loadCells, loadCellsFrom]
    · simp [Builtin.append_, run_underlying ht, sizeOf, typeInfo, hi, Builtin.lenOf, Builtin.firstCells, loadCells, loadCellsFrom, storeCells, hnc]
  · obtain ⟨v', w', r1, r2, r3, _⟩ := run_append_own (P := P) w base t ty e i z size bytes ht hi hz hsize hby hzs hsz v n xs hown ⟨g, 0, none⟩ m cap ys hown2.1 (hown2.cells rfl) h1 h63 hbytes hbase
    exact ⟨v', w', r1, r2, r3⟩

end Go.Proofs.YtpckhpkbdanjoaaDoor

/-
  Walks: the reference puts a number into an increasing list, the list that is nil.-/
namespace Go.Proofs.YtpckhpkbdanjoaaDoor
set_option linter.unusedVariables false
set_option linter.unusedSimpArgs false
open Go.RowKit

theorem wpList_append_rows {P : Program} {ops : Array Oper} {rest : List Oper} {o : Oper} {a : Act} {w : World} {Q : Exit → Act → World → Prop} (hgd : o.guard = none) (s x : Operand) (t : TypeId)
    (ho : o.op = .call { callee := .builtin .append, args := #[s, x], argTypes := #[t, t] })
    (base base2 : Nat) (e : TypeId) (i : TypeInfo) (z : Value) (size bytes : Nat) (ht : P.underlying t = some (.slice e)) (hi : P.info? e = some i) (hz : i.zero = some z)
    (hsize : i.size = size) (hby : i.bytes = bytes) (hzs : z.cells.size = size) (hsz : 0 < size)
    (v u : Value) (n m : Nat) (xs ys : List Value) (hs : a.eval s = v) (hx : a.eval x = u) (hown : w.ownsRow base e size v n xs) (hown2 : w.ownsRow base2 e size u m ys) (h1 : ∀ u ∈ ys, u.oneCell' = true)
    (h63 : n + m ≤ maxLen) (hbytes : (n + m) * bytes ≤ 140737488355328) (hbase : base ≤ w.heap.size)
    (h : ∀ v' w', w'.ownsRow base e size v' (n + m) (xs ++ ys) → w.grownBy w' v.ownBlock → wpList P ops Q rest (a.put o.dst v') w') :
    wpList P ops Q (o :: rest) a w := by
  refine wpList_plain hgd fun K hK => ?_
  obtain ⟨v', w', hr, h2, h3⟩ := run_append_rows (P := P) w base base2 t o.type e i z size bytes ht hi hz hsize hby hzs hsz v u n m xs ys hown hown2 h1 h63 hbytes hbase
  unfold Oper.wp execOp
  simp only [ho, resolve, invoke, builtin, Sem.run_bind, Sem.run_pure, Result.andThen_ok, List.map_toArray, List.map_cons, List.map_nil, hs, hx, hr]
  exact hK _ _ (h v' w' h2 h3)

set_option maxRecDepth 100000 in
set_option maxHeartbeats 3200000 in
theorem l1Put_nil (P : Nat → Bool) (N x base : Nat) (w : World) (hn : (flt P N).length = 0) (hx : x < N) (hN : N ≤ 1000) (hb0 : base ≤ w.heap.size) :
    Calls Tryd.prog 90 #[.slice none 0 0, .int .i64 x] w fun e w' => ∃ v', e = .returned v' ∧ PRowI w' base v' (orP P x) N ∧ Below w.heap.size w w' := by
  obtain ⟨ii, hii, iz0, iz1, iz2⟩ := info_parts infoIntP
  have hp : P x = false := by
    cases h : P x with
    | false => rfl
    | true =>
      have h3 := (flt_head (p := P) (x := x) (n := N) hx).2 h
      rw [List.getElem?_eq_none (by omega)] at h3
      cases h3
  have HO := hide (fltV_or hp hx)
  have hrs := (fltV_split P (Nat.le_of_lt hx)).2
  have hl1 : (flt P x).length = 0 := by omega
  have hl2 : (fltR P x N).length = 0 := by omega
  have HE : Hid (fltV (orP P x) N = [.int .i64 (x : Nat)] ∧ (flt (orP P x) N).length = 1) := by
    refine ⟨?_, ?_⟩
    · rw [HO.out.1, fltV, List.eq_nil_of_length_eq_zero hl1, List.eq_nil_of_length_eq_zero hl2]; rfl
    · rw [HO.out.2, hl1, hl2]
  go_enter Tryd.func90, Tryd.ntmps90
  go_wp2_with fail
  go_loopg [5] 1 (fun gn i wr => 0 < gn ∧ i = .int .i64 0 ∧ Below w.heap.size w wr)
  case atStart => exact ⟨by omega, rfl, Below.refl _ _⟩
  case round =>
    obtain ⟨hgn, rfl, hb⟩ := hrel
    have hzr := hb.size
    have r1 : (wr.alloc (.cells #[] 3)).ownsRow wr.heap.size 3 1 (.slice (some ⟨wr.heap.size, 0, none⟩) 0 0) 0 [] := by simpa using World.ownsRow_made wr (base := wr.heap.size) (e := 3) (size := 1) #[] 0 (by simp) (Nat.zero_le _) rfl
    go_wp2_with (at_builtin; refine wpList_append_rows rfl _ _ 48 rfl wr.heap.size wr.heap.size 3 ii (.int .i64 0) 1 8 Tryd.underlying48 hii iz0 iz1 iz2 rfl (by decide) _ _ 0 0 [] [] rfl rfl r1 (World.ownsRow_nil _ _ _ _) ?_ ?_ ?_ ?_ ?_)
    · simp
    · unfold maxLen; omega
    · omega
    · simp
    intro v2 w2 hown2 hg2
    have hb2 : Below wr.heap.size wr w2 := ((Below.refl wr.heap.size wr).alloc (Nat.le_refl _) _).grown hg2 (by simp) (fun q hq => (r1.lt q hq).1)
    have hz2 := hb2.size
    obtain ⟨B2, c2, rfl⟩ := row_form hown2
    go_wp2_with (at_builtin; refine wpList_append_own _ rfl _ _ 48 rfl wr.heap.size 3 ii (.int .i64 0) 1 8 Tryd.underlying48 hii iz0 iz1 iz2 rfl (by decide) _ _ [] rfl (hown2.alloc _) ⟨w2.heap.size, 0, none⟩ 1 1 [.int .i64 (x : Nat)] rfl rfl ?_ ?_ ?_ ?_ ?_ ?_)
    · intro i u hu
      match i, hu with
      | 0, hu => simp at hu; subst hu; simp [go_sem, Addr.add]
    · intro u hu; simp at hu; subst hu; rfl
    · unfold maxLen; omega
    · omega
    · simp; omega
    intro v3 w3 hown3 hg3 _
    have hb3 : Below wr.heap.size wr w3 := (hb2.alloc hz2 _).grown hg3 (by simp; omega) (fun q hq => (hown2.lt q hq).1)
    have hz3 := hb3.size
    obtain ⟨B3, c3, rfl⟩ := row_form hown3
    have hsl : ∀ W, (Instr.slice 48 (.slice none 0 0) (some (.int .i64 0)) none none).run Tryd.prog W = .ok (.slice none 0 0) W := fun W => by
      simp [go_sem, Tryd.underlying48]
    go_wp2_with (at_builtin; refine wpList_append_rows rfl _ _ 48 rfl wr.heap.size wr.heap.size 3 ii (.int .i64 0) 1 8 Tryd.underlying48 hii iz0 iz1 iz2 rfl (by decide) _ _ _ 0 _ [] rfl rfl hown3 (World.ownsRow_nil _ _ _ _) ?_ ?_ ?_ ?_ ?_)
    · simp
    · unfold maxLen; omega
    · omega
    · omega
    intro v4 w4 hown4 hg4
    have hb4 : Below wr.heap.size wr w4 := hb3.grown hg4 hz3 (fun q hq => (hown3.lt q hq).1)
    have HF : Hid (PRowI w4 base v4 (orP P x) N) := by
      show PRowI _ _ _ _ _
      rw [PRowI, HE.out.1, HE.out.2]
      have h5 := hown4.mono (show base ≤ wr.heap.size by omega)
      simpa using h5
    have hbw : Below w.heap.size w w4 := hb.trans (hb4.mono hzr)
    clear hown2 hown3 hown4 hg2 hg3 hg4
    go_wp2_with fail
    go_ret
    exact ⟨_, rfl, HF.out, hbw⟩
theorem l1Put_any (P : Nat → Bool) (N x base : Nat) (v : Value) (w : World) (hv : PRowI w base v P N) (hx : x < N) (hN : N ≤ 1000) (hb0 : base ≤ w.heap.size) :
    Calls Tryd.prog 90 #[v, .int .i64 x] w fun e w' => ∃ v', e = .returned v' ∧ PRowI w' base v' (orP P x) N ∧ Below w.heap.size w w' := by
  rcases hv.2 with ⟨h0, h1⟩ | ⟨g, cap, cur, h0, _⟩
  · subst h0
    exact l1Put_nil P N x base w h1 hx hN hb0
  · subst h0
    exact l1Put_some P N x base _ g cap w rfl hv hx hN hb0

end Go.Proofs.YtpckhpkbdanjoaaDoor
