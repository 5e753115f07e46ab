/-
  Walks: drawn arguments of the laws on cylinders.
-/
import Derived.Test.YteoolhoncgaapaaWDrwC
namespace Go.Proofs.Yteoolhoncgaapaa
set_option linter.unusedVariables false
set_option linter.unusedSimpArgs false
open Go.RowKit

/-- The cells of a list of bytes. -/
def bC (f : Nat → Int) : Nat → Nat → Value := fun i _ => .int .u8 (f i)
/-- Bytes that are read. -/
structure Code (w : World) (v : Value) : Prop where
  is : ∃ (n hi : Nat) (f : Nat → Int), Sl w 0 hi 1 v n (bC f) ∧ hi ≤ w.heap.size ∧ n ≤ 9223372036854775807 ∧ ∀ i, i < n → 0 ≤ f i ∧ f i ≤ 255
theorem Code.below {w w' : World} {v : Value} {B : Nat} (h : Code w v) (hb : Below B w w') (hB : w.heap.size ≤ B) : Code w' v := by
  obtain ⟨n, hi, f, h1, h2, h3, h4⟩ := h.is
  exact ⟨n, hi, f, h1.below hb (by omega), by have := hb.size; omega, h3, h4⟩
theorem Code.form {w : World} {v : Value} (h : Code w v) : ∃ A n cap, v = .slice A n cap := by
  obtain ⟨n, hi, f, h1, _⟩ := h.is
  obtain ⟨A, cap, e, _⟩ := h1.open_
  exact ⟨A, n, cap, e⟩
/-- The cursor's beginning. -/
theorem Cu.start {w : World} {v : Value} (h : Code w v) (t : TypeId) : Cu (w.alloc (.cells #[v, .int .i64 0, .int .u64 0] t)) w.heap.size 0 := by
  obtain ⟨n, hi, f, h1, h2, h3, h4⟩ := h.is
  obtain ⟨A, cap, rfl, hcap, hA⟩ := h1.open_
  refine ⟨0, Nat.le_refl _, A, n, cap, f, 0, World.cell?_alloc_new _ _ _ _, World.cell?_alloc_new _ _ _ _, World.cell?_alloc_new _ _ _ _, fun o => by simp [go_sem], by omega, h3, h4, fun hn => ?_, by simp⟩
  obtain ⟨b, off, e, _, hlt, hc⟩ := hA hn
  refine ⟨b, off, e, by omega, by simp; omega, fun i hi' => ?_⟩
  have h5 := hc i 0 hi' (by omega)
  simp only [Nat.mul_one, Nat.add_zero] at h5
  exact (World.cell?_alloc_lt _ _ _ (by show b < _; omega)).trans h5

set_option maxRecDepth 100000 in
set_option maxHeartbeats 3200000 in
theorem DrawMustTurn_any (v : Value) (w : World) (h : Code w v) :
    Calls Try.prog 49 #[v] w fun e w' => ∃ x y r a s : Int, e = .returned (.tuple #[.agg #[.int .i64 x, .int .i64 y], .int .i64 r, .int .i64 a, .int .i64 s]) ∧ Below w.heap.size w w' := by
  obtain ⟨A, n, cap, rfl⟩ := h.form
  have hC0 : Cu ((w.alloc (.cells #[.int .i64 0, .int .i64 0] 26)).alloc (.cells #[.slice A n cap, .int .i64 0, .int .u64 0] 75)) (w.heap.size + 1) 0 := by
    have := Cu.start (h.below ((Below.refl _ _).alloc (Nat.le_refl _) (.cells #[.int .i64 0, .int .i64 0] 26)) (Nat.le_refl _)) 75
    simpa using this
  have R0 : BxI ((w.alloc (.cells #[.int .i64 0, .int .i64 0] 26)).alloc (.cells #[.slice A n cap, .int .i64 0, .int .u64 0] 75)) w.heap.size 0 0 := (BxI.new w 0 0 _).alloc _
  have O0 : Only (w.heap.size + 1) (w.heap.size + 1 + 1) w ((w.alloc (.cells #[.int .i64 0, .int .i64 0] 26)).alloc (.cells #[.slice A n cap, .int .i64 0, .int .u64 0] 75)) := ((Only.refl _ _ w).alloc _).alloc _
  go_enter Try.func49, Try.ntmps49
  go_wp2_with fail
  refine (cylinder_any _ _ _ hC0 (by omega)).mono ?_
  rintro e w1 ⟨x, y, rfl, hC1, hO1⟩
  have R1 := R0.only hO1 (by omega)
  have O1 := O0.trans hO1
  clear R0 O0 hO1 hC0
  go_wp2_with fail
  refine (rateOf_any _ _ _ hC1 (by omega)).mono ?_
  rintro e w2 ⟨r, rfl, hC2, hO2⟩
  have R2 := R1.only hO2 (by omega)
  have O2 := O1.trans hO2
  clear R1 O1 hO2 hC1
  go_wp2_with fail
  refine (wayOf_any _ _ _ hC2 (by omega)).mono ?_
  rintro e w3 ⟨a, rfl, hC3, hO3⟩
  have R3 := R2.only hO3 (by omega)
  have O3 := O2.trans hO3
  clear R2 O2 hO3 hC2
  go_wp2_with fail
  refine (reserveOf_any _ _ _ hC3 (by omega)).mono ?_
  rintro e w4 ⟨s, rfl, hC4, hO4⟩
  obtain ⟨q0, q1, qf, ql⟩ := R3.only hO4 (by omega)
  have O4 := O3.trans hO4
  clear R3 O3 hO4 hC3
  have hb : Below w.heap.size w w4 := O4.below (by omega) (Nat.le_refl _)
  clear O4
  go_wp2_with fail
  exact bodyPost_ret (v := .tuple #[.agg #[.int .i64 x, .int .i64 y], .int .i64 r, .int .i64 a, .int .i64 s]) (by simp [results, Try.results49, go_sem, *]) rfl ⟨_, _, _, _, _, rfl, (by repeat (first | (with_reducible exact Below.refl _ _) | (with_reducible refine below_ov ?_ ?_) | (with_reducible refine Below.setCell ?_ ?_ _) | (with_reducible refine Below.alloc ?_ ?_ _) | (with_reducible refine Below.drew ?_) | (with_reducible refine below_drewN ?_ _) | (refine Below.trans ?_ (Below.mono ‹Below _ _ _› (by first | omega | (simp; done) | (simp; omega)))) | exact Below.refl _ _ | omega | (focus (simp; done)) | (focus (simp; omega))))⟩
set_option maxRecDepth 100000 in
set_option maxHeartbeats 3200000 in
theorem DrawLatestTurn_any (v : Value) (w : World) (h : Code w v) :
    Calls Try.prog 13 #[v] w fun e w' => ∃ x y r a s : Int, e = .returned (.tuple #[.agg #[.int .i64 x, .int .i64 y], .int .i64 r, .int .i64 a, .int .i64 s]) ∧ Below w.heap.size w w' := by
  have R0 := BxI.new w 0 0 26
  go_enter Try.func13, Try.ntmps13
  go_wp2_with fail
  refine (DrawMustTurn_any v _ (h.below ((Below.refl _ _).alloc (Nat.le_refl _) _) (Nat.le_refl _))).mono ?_
  rintro e w1 ⟨x, y, r, a, s, rfl, hb1⟩
  have R1 : BxI w1 w.heap.size 0 0 := R0.keep (hb1.block _ R0.lt) hb1.size
  obtain ⟨q0, q1, qf, ql⟩ := R1
  have hb : Below w.heap.size w w1 := (by repeat (first | (with_reducible exact Below.refl _ _) | (with_reducible refine below_ov ?_ ?_) | (with_reducible refine Below.setCell ?_ ?_ _) | (with_reducible refine Below.alloc ?_ ?_ _) | (with_reducible refine Below.drew ?_) | (with_reducible refine below_drewN ?_ _) | (refine Below.trans ?_ (Below.mono ‹Below _ _ _› (by first | omega | (simp; done) | (simp; omega)))) | exact Below.refl _ _ | omega | (focus (simp; done)) | (focus (simp; omega))))
  clear hb1 R0
  go_wp2_with fail
  exact bodyPost_ret (v := .tuple #[.agg #[.int .i64 x, .int .i64 y], .int .i64 r, .int .i64 a, .int .i64 s]) (by simp [results, Try.results13, go_sem, *]) rfl ⟨_, _, _, _, _, rfl, (by repeat (first | (with_reducible exact Below.refl _ _) | (with_reducible refine below_ov ?_ ?_) | (with_reducible refine Below.setCell ?_ ?_ _) | (with_reducible refine Below.alloc ?_ ?_ _) | (with_reducible refine Below.drew ?_) | (with_reducible refine below_drewN ?_ _) | (refine Below.trans ?_ (Below.mono ‹Below _ _ _› (by first | omega | (simp; done) | (simp; omega)))) | exact Below.refl _ _ | omega | (focus (simp; done)) | (focus (simp; omega))))⟩
set_option maxRecDepth 100000 in
set_option maxHeartbeats 3200000 in
theorem DrawMinutesTo_any (v : Value) (w : World) (h : Code w v) :
    Calls Try.prog 18 #[v] w fun e w' => ∃ x y r b : Int, e = .returned (.tuple #[.agg #[.int .i64 x, .int .i64 y], .int .i64 r, .int .i64 b]) ∧ Below w.heap.size w w' := by
  obtain ⟨A, n, cap, rfl⟩ := h.form
  have hC0 : Cu ((w.alloc (.cells #[.int .i64 0, .int .i64 0] 26)).alloc (.cells #[.slice A n cap, .int .i64 0, .int .u64 0] 75)) (w.heap.size + 1) 0 := by
    have := Cu.start (h.below ((Below.refl _ _).alloc (Nat.le_refl _) (.cells #[.int .i64 0, .int .i64 0] 26)) (Nat.le_refl _)) 75
    simpa using this
  have R0 : BxI ((w.alloc (.cells #[.int .i64 0, .int .i64 0] 26)).alloc (.cells #[.slice A n cap, .int .i64 0, .int .u64 0] 75)) w.heap.size 0 0 := (BxI.new w 0 0 _).alloc _
  have O0 : Only (w.heap.size + 1) (w.heap.size + 1 + 1) w ((w.alloc (.cells #[.int .i64 0, .int .i64 0] 26)).alloc (.cells #[.slice A n cap, .int .i64 0, .int .u64 0] 75)) := ((Only.refl _ _ w).alloc _).alloc _
  go_enter Try.func18, Try.ntmps18
  go_wp2_with fail
  refine (cylinder_any _ _ _ hC0 (by omega)).mono ?_
  rintro e w1 ⟨x, y, rfl, hC1, hO1⟩
  have hz1 := hO1.size
  (try (simp at hz1))
  have R1 := R0.only hO1 (by omega)
  have O1 := O0.trans hO1
  clear R0 O0 hO1 hC0
  go_wp2_with fail
  refine (rateOf_any _ _ _ hC1 (by omega)).mono ?_
  rintro e w2 ⟨r, rfl, hC2, hO2⟩
  have hz2 := hO2.size
  (try (simp at hz2))
  have R2 := R1.only hO2 (by omega)
  have O2 := O1.trans hO2
  clear R1 O1 hO2 hC1
  go_wp2_with fail
  refine (barOf_any _ _ _ hC2 (by omega)).mono ?_
  rintro e w3 ⟨b, rfl, hC3, hO3⟩
  have hz3 := hO3.size
  (try (simp at hz3))
  have R3 := R2.only hO3 (by omega)
  have O3 := O2.trans hO3
  clear R2 O2 hO3 hC2
  obtain ⟨q0, q1, qf, ql⟩ := R3
  have hb : Below w.heap.size w w3 := O3.below (by omega) (Nat.le_refl _)
  clear O3 hC3
  go_wp2_with fail
  exact bodyPost_ret (v := .tuple #[.agg #[.int .i64 x, .int .i64 y], .int .i64 r, .int .i64 b]) (by simp [results, Try.results18, go_sem, *]) rfl ⟨_, _, _, _, rfl, (by repeat (first | (with_reducible exact Below.refl _ _) | (with_reducible refine below_ov ?_ ?_) | (with_reducible refine Below.setCell ?_ ?_ _) | (with_reducible refine Below.alloc ?_ ?_ _) | (with_reducible refine Below.drew ?_) | (with_reducible refine below_drewN ?_ _) | (refine Below.trans ?_ (Below.mono ‹Below _ _ _› (by first | omega | (simp; done) | (simp; omega)))) | exact Below.refl _ _ | omega | (focus (simp; done)) | (focus (simp; omega))))⟩
set_option maxRecDepth 100000 in
set_option maxHeartbeats 3200000 in
theorem DrawBarAfter_any (v : Value) (w : World) (h : Code w v) :
    Calls Try.prog 21 #[v] w fun e w' => ∃ x y r b : Int, e = .returned (.tuple #[.agg #[.int .i64 x, .int .i64 y], .int .i64 r, .int .i64 b]) ∧ Below w.heap.size w w' := by
  obtain ⟨A, n, cap, rfl⟩ := h.form
  have hC0 : Cu ((w.alloc (.cells #[.int .i64 0, .int .i64 0] 26)).alloc (.cells #[.slice A n cap, .int .i64 0, .int .u64 0] 75)) (w.heap.size + 1) 0 := by
    have := Cu.start (h.below ((Below.refl _ _).alloc (Nat.le_refl _) (.cells #[.int .i64 0, .int .i64 0] 26)) (Nat.le_refl _)) 75
    simpa using this
  have R0 : BxI ((w.alloc (.cells #[.int .i64 0, .int .i64 0] 26)).alloc (.cells #[.slice A n cap, .int .i64 0, .int .u64 0] 75)) w.heap.size 0 0 := (BxI.new w 0 0 _).alloc _
  have O0 : Only (w.heap.size + 1) (w.heap.size + 1 + 1) w ((w.alloc (.cells #[.int .i64 0, .int .i64 0] 26)).alloc (.cells #[.slice A n cap, .int .i64 0, .int .u64 0] 75)) := ((Only.refl _ _ w).alloc _).alloc _
  go_enter Try.func21, Try.ntmps21
  go_wp2_with fail
  refine (cylinder_any _ _ _ hC0 (by omega)).mono ?_
  rintro e w1 ⟨x, y, rfl, hC1, hO1⟩
  have hz1 := hO1.size
  (try (simp at hz1))
  have R1 := R0.only hO1 (by omega)
  have O1 := O0.trans hO1
  clear R0 O0 hO1 hC0
  go_wp2_with fail
  refine (rateOf_any _ _ _ hC1 (by omega)).mono ?_
  rintro e w2 ⟨r, rfl, hC2, hO2⟩
  have hz2 := hO2.size
  (try (simp at hz2))
  have R2 := R1.only hO2 (by omega)
  have O2 := O1.trans hO2
  clear R1 O1 hO2 hC1
  go_wp2_with fail
  refine (pick_any _ _ _ _ hC2 (by omega)).mono ?_
  rintro e w3 ⟨p, rfl, hv, hC3, hO3⟩
  have hz3 := hO3.size
  (try (simp at hz3))
  have R3 := R2.only hO3 (by omega)
  have O3 := O2.trans hO3
  clear R2 O2 hO3 hC2
  go_wp2_with fail
  refine (among_new _ _ _ _ _ _ _ hC3 (by first | (with_reducible rfl) | simp) (by omega) (by rfl) (by decide) (by decide) (by simp [isI])).mono ?_
  rintro e w4 ⟨q, rfl, _, hC4, hO4⟩
  have hz4 := hO4.size
  (try (simp at hz4))
  have R4 := R3.only hO4 (by omega)
  have O4 := O3.trans hO4
  clear R3 O3 hO4 hC3
  go_wp2_with fail
  refine (among_new _ _ _ _ _ _ _ hC4 (by first | (with_reducible rfl) | simp) (by omega) (by rfl) (by decide) (by decide) (by simp [isI])).mono ?_
  rintro e w5 ⟨b, rfl, _, hC5, hO5⟩
  have hz5 := hO5.size
  (try (simp at hz5))
  have R5 := R4.only hO5 (by omega)
  have O5 := O4.trans hO5
  clear R4 O4 hO5 hC4
  obtain ⟨q0, q1, qf, ql⟩ := R5
  have hb : Below w.heap.size w w5 := O5.below (by omega) (Nat.le_refl _)
  clear O5 hC5
  go_wp2_with fail
  exact bodyPost_ret (v := .tuple #[.agg #[.int .i64 x, .int .i64 y], .int .i64 r, .int .i64 b]) (by simp [results, Try.results21, go_sem, *]) rfl ⟨_, _, _, _, rfl, (by repeat (first | (with_reducible exact Below.refl _ _) | (with_reducible refine below_ov ?_ ?_) | (with_reducible refine Below.setCell ?_ ?_ _) | (with_reducible refine Below.alloc ?_ ?_ _) | (with_reducible refine Below.drew ?_) | (with_reducible refine below_drewN ?_ _) | (refine Below.trans ?_ (Below.mono ‹Below _ _ _› (by first | omega | (simp; done) | (simp; omega)))) | exact Below.refl _ _ | omega | (focus (simp; done)) | (focus (simp; omega))))⟩

end Go.Proofs.Yteoolhoncgaapaa
