/-
  Walks: the exported functions on cylinders, of the program and of the reference: one plain function for both.
-/
import Derived.Test.YtpakjmiallhgnaaWCyl2
namespace Go.Proofs.Ytpakjmiallhgnaa
set_option linter.unusedVariables false
set_option linter.unusedSimpArgs false
open Go.RowKit

def litInN (v b : Int) : Int := if cylB v b = true then lit v b else 0
def barAfB (v b r m : Int) : Bool := cylB v b && inB r 1 200 && inB m 0 600
def barAfN (v b r m : Int) : Int := if barAfB v b r m = true then aftN v b (r * m) else 0
def barAfOk (v b r m : Int) : Bool := barAfB v b r m && aftOk v b (r * m)
def askB (v b r way res : Int) : Bool := cylB v b && inB r 1 200 && inB way 0 300 && inB res 0 100
def mustB (v b r way res : Int) : Bool := askB v b r way res && (!aftOk v b (r * (way + 1)) || decide (aftN v b (r * (way + 1)) < res))
def lateN (v b r way res : Int) : Int := if askB v b r way res = true then latN v b r way res else 0
def lateOk (v b r way res : Int) : Bool := askB v b r way res && latOk v b r way res
def minB (v b r bar : Int) : Bool := cylB v b && inB r 1 200 && inB bar 0 330 && decide (bar ≤ b)
def minN (v b r bar : Int) : Int := if minB v b r bar = true then timeF v b r 0 bar else 0
def turnB (s t r : Int) : Bool := inB s 0 330 && inB t 0 s && inB r 0 100 && decide (s - t + r ≤ t)
def turnN (s t r : Int) : Int := if turnB s t r = true then s - t + r else 0

theorem below_box {w : World} {cs : Array Value} {t : TypeId} {w1 : World} (h : Below (w.heap.size + 1) (w.alloc (.cells cs t)) w1) : Below w.heap.size w w1 :=
  ((Below.refl _ _).alloc (Nat.le_refl _) _).trans (h.mono (by omega))
theorem box_size {w : World} {cs : Array Value} {t : TypeId} {B : Nat} {w1 : World} (h : Below B (w.alloc (.cells cs t)) w1) : w.heap.size + 1 ≤ w1.heap.size := by
  have := h.size; simp at this; omega

set_option maxHeartbeats 800000 in
theorem BarAfter_impl (v b r m : Int) (w : World) :
    Calls Try.prog 30 #[.agg #[.int .i64 v, .int .i64 b], .int .i64 r, .int .i64 m] w fun e w' => e = .returned (.tuple #[.int .i64 (barAfN v b r m), .bool (barAfOk v b r m)]) ∧ Below w.heap.size w w' := by
  cases hc5_0 : cylB v b with
  | false =>
    go_enter Try.func30, Try.ntmps30
    go_wp2_with (first | (go_at_call 87; refine (isCylinder_any _ _ _).mono ?_; rintro e w1 ⟨rfl, hb1⟩; have hz1 := hb1.size; (try (simp at hz1)); obtain ⟨hcw1, hfw1⟩ := bcell hb1; (try (have hy1 : w.heap.size < w1.heap.size := by omega)); (try (have hyy1 : w.heap.size + 1 < w1.heap.size := by omega)); (try (have hyyy1 : w.heap.size + 1 + 1 < w1.heap.size := by omega))) | (go_at_call 88; refine (isRate_any _ _).mono ?_; rintro e w' ⟨rfl, rfl⟩) | (go_at_call 73; refine (inside_any _ _ _ _).mono ?_; rintro e w' ⟨rfl, rfl⟩))
    go_ret2
    exact ⟨ret_ib (by simp [barAfN, barAfB, *]) (by simp [barAfOk, barAfB, *]), (by repeat (first | (with_reducible exact Below.refl _ _) | (with_reducible refine below_ov ?_ ?_) | (with_reducible refine Below.setCell ?_ ?_ _) | (with_reducible refine Below.alloc ?_ ?_ _) | (with_reducible refine Below.drew ?_) | (with_reducible refine below_drewN ?_ _) | (refine Below.trans ?_ (Below.mono ‹Below _ _ _› (by first | omega | (simp; done) | (simp; omega)))) | exact Below.refl _ _ | omega | (focus (simp; done)) | (focus (simp; omega))))⟩
  | true =>
    obtain ⟨⟨hc5_0l, hc5_0r⟩, hc5_0s, hc5_0t⟩ := cylB_iff.1 hc5_0
    cases hc5_1 : inB r 1 200 with
    | false =>
      go_enter Try.func30, Try.ntmps30
      go_wp2_with (first | (go_at_call 87; refine (isCylinder_any _ _ _).mono ?_; rintro e w1 ⟨rfl, hb1⟩; have hz1 := hb1.size; (try (simp at hz1)); obtain ⟨hcw1, hfw1⟩ := bcell hb1; (try (have hy1 : w.heap.size < w1.heap.size := by omega)); (try (have hyy1 : w.heap.size + 1 < w1.heap.size := by omega)); (try (have hyyy1 : w.heap.size + 1 + 1 < w1.heap.size := by omega))) | (go_at_call 88; refine (isRate_any _ _).mono ?_; rintro e w' ⟨rfl, rfl⟩) | (go_at_call 73; refine (inside_any _ _ _ _).mono ?_; rintro e w' ⟨rfl, rfl⟩))
      go_ret2
      exact ⟨ret_ib (by simp [barAfN, barAfB, *]) (by simp [barAfOk, barAfB, *]), (by repeat (first | (with_reducible exact Below.refl _ _) | (with_reducible refine below_ov ?_ ?_) | (with_reducible refine Below.setCell ?_ ?_ _) | (with_reducible refine Below.alloc ?_ ?_ _) | (with_reducible refine Below.drew ?_) | (with_reducible refine below_drewN ?_ _) | (refine Below.trans ?_ (Below.mono ‹Below _ _ _› (by first | omega | (simp; done) | (simp; omega)))) | exact Below.refl _ _ | omega | (focus (simp; done)) | (focus (simp; omega))))⟩
    | true =>
      obtain ⟨hc5_1l, hc5_1r⟩ := inB_iff.1 hc5_1
      cases hc5_2 : inB m 0 600 with
      | false =>
        go_enter Try.func30, Try.ntmps30
        go_wp2_with (first | (go_at_call 87; refine (isCylinder_any _ _ _).mono ?_; rintro e w1 ⟨rfl, hb1⟩; have hz1 := hb1.size; (try (simp at hz1)); obtain ⟨hcw1, hfw1⟩ := bcell hb1; (try (have hy1 : w.heap.size < w1.heap.size := by omega)); (try (have hyy1 : w.heap.size + 1 < w1.heap.size := by omega)); (try (have hyyy1 : w.heap.size + 1 + 1 < w1.heap.size := by omega))) | (go_at_call 88; refine (isRate_any _ _).mono ?_; rintro e w' ⟨rfl, rfl⟩) | (go_at_call 73; refine (inside_any _ _ _ _).mono ?_; rintro e w' ⟨rfl, rfl⟩))
        go_ret2
        exact ⟨ret_ib (by simp [barAfN, barAfB, *]) (by simp [barAfOk, barAfB, *]), (by repeat (first | (with_reducible exact Below.refl _ _) | (with_reducible refine below_ov ?_ ?_) | (with_reducible refine Below.setCell ?_ ?_ _) | (with_reducible refine Below.alloc ?_ ?_ _) | (with_reducible refine Below.drew ?_) | (with_reducible refine below_drewN ?_ _) | (refine Below.trans ?_ (Below.mono ‹Below _ _ _› (by first | omega | (simp; done) | (simp; omega)))) | exact Below.refl _ _ | omega | (focus (simp; done)) | (focus (simp; omega))))⟩
      | true =>
        obtain ⟨hc5_2l, hc5_2r⟩ := inB_iff.1 hc5_2
        have hmul := mul_small (a := r) (b := m) (A := 200) (B := 600) (by omega) (by omega) (by omega) (by omega)
        go_enter Try.func30, Try.ntmps30
        go_wp2_with (first | (go_at_call 87; refine (isCylinder_any _ _ _).mono ?_; rintro e w1 ⟨rfl, hb1⟩; have hz1 := hb1.size; (try (simp at hz1)); obtain ⟨hcw1, hfw1⟩ := bcell hb1; (try (have hy1 : w.heap.size < w1.heap.size := by omega)); (try (have hyy1 : w.heap.size + 1 < w1.heap.size := by omega)); (try (have hyyy1 : w.heap.size + 1 + 1 < w1.heap.size := by omega))) | (go_at_call 88; refine (isRate_any _ _).mono ?_; rintro e w' ⟨rfl, rfl⟩) | (go_at_call 73; refine (inside_any _ _ _ _).mono ?_; rintro e w' ⟨rfl, rfl⟩) | (go_at_call 89; refine (barAfter_any _ _ _ _ (by omega) (by omega) (by omega) (by omega) (by omega) (by omega)).mono ?_; rintro e w2 ⟨rfl, hb2⟩; have hz2 := hb2.size; (try (simp at hz2)); obtain ⟨hcw2, hfw2⟩ := bcell hb2; (try (have hy2 : w.heap.size < w2.heap.size := by omega)); (try (have hyy2 : w.heap.size + 1 < w2.heap.size := by omega)); (try (have hyyy2 : w.heap.size + 1 + 1 < w2.heap.size := by omega))))
        go_ret2
        exact ⟨ret_ib (by simp [barAfN, barAfB, *]) (by simp [barAfOk, barAfB, *]), (by repeat (first | (with_reducible exact Below.refl _ _) | (with_reducible refine below_ov ?_ ?_) | (with_reducible refine Below.setCell ?_ ?_ _) | (with_reducible refine Below.alloc ?_ ?_ _) | (with_reducible refine Below.drew ?_) | (with_reducible refine below_drewN ?_ _) | (refine Below.trans ?_ (Below.mono ‹Below _ _ _› (by first | omega | (simp; done) | (simp; omega)))) | exact Below.refl _ _ | omega | (focus (simp; done)) | (focus (simp; omega))))⟩
set_option maxHeartbeats 800000 in
theorem BarAfter_spec (v b r m : Int) (w : World) :
    Calls Try.prog 31 #[.agg #[.int .i64 v, .int .i64 b], .int .i64 r, .int .i64 m] w fun e w' => e = .returned (.tuple #[.int .i64 (barAfN v b r m), .bool (barAfOk v b r m)]) ∧ Below w.heap.size w w' := by
  cases hc6_0 : cylB v b with
  | false =>
    go_enter Try.func31, Try.ntmps31
    go_wp2_with (first | (go_at_call 90; refine (cyGood_any _ _ _).mono ?_; rintro e w1 ⟨rfl, hb1⟩; have hz1 := hb1.size; (try (simp at hz1)); obtain ⟨hcw1, hfw1⟩ := bcell hb1; (try (have hy1 : w.heap.size < w1.heap.size := by omega)); (try (have hyy1 : w.heap.size + 1 < w1.heap.size := by omega)); (try (have hyyy1 : w.heap.size + 1 + 1 < w1.heap.size := by omega))) | (go_at_call 86; refine (cyRate_any _ _).mono ?_; rintro e w' ⟨rfl, rfl⟩) | (go_at_call 91; refine (cyMinutes_any _ _).mono ?_; rintro e w' ⟨rfl, rfl⟩))
    go_ret2
    exact ⟨ret_ib (by simp [barAfN, barAfB, *]) (by simp [barAfOk, barAfB, *]), (by repeat (first | (with_reducible exact Below.refl _ _) | (with_reducible refine below_ov ?_ ?_) | (with_reducible refine Below.setCell ?_ ?_ _) | (with_reducible refine Below.alloc ?_ ?_ _) | (with_reducible refine Below.drew ?_) | (with_reducible refine below_drewN ?_ _) | (refine Below.trans ?_ (Below.mono ‹Below _ _ _› (by first | omega | (simp; done) | (simp; omega)))) | exact Below.refl _ _ | omega | (focus (simp; done)) | (focus (simp; omega))))⟩
  | true =>
    obtain ⟨⟨hc6_0l, hc6_0r⟩, hc6_0s, hc6_0t⟩ := cylB_iff.1 hc6_0
    cases hc6_1 : inB r 1 200 with
    | false =>
      go_enter Try.func31, Try.ntmps31
      go_wp2_with (first | (go_at_call 90; refine (cyGood_any _ _ _).mono ?_; rintro e w1 ⟨rfl, hb1⟩; have hz1 := hb1.size; (try (simp at hz1)); obtain ⟨hcw1, hfw1⟩ := bcell hb1; (try (have hy1 : w.heap.size < w1.heap.size := by omega)); (try (have hyy1 : w.heap.size + 1 < w1.heap.size := by omega)); (try (have hyyy1 : w.heap.size + 1 + 1 < w1.heap.size := by omega))) | (go_at_call 86; refine (cyRate_any _ _).mono ?_; rintro e w' ⟨rfl, rfl⟩) | (go_at_call 91; refine (cyMinutes_any _ _).mono ?_; rintro e w' ⟨rfl, rfl⟩))
      go_ret2
      exact ⟨ret_ib (by simp [barAfN, barAfB, *]) (by simp [barAfOk, barAfB, *]), (by repeat (first | (with_reducible exact Below.refl _ _) | (with_reducible refine below_ov ?_ ?_) | (with_reducible refine Below.setCell ?_ ?_ _) | (with_reducible refine Below.alloc ?_ ?_ _) | (with_reducible refine Below.drew ?_) | (with_reducible refine below_drewN ?_ _) | (refine Below.trans ?_ (Below.mono ‹Below _ _ _› (by first | omega | (simp; done) | (simp; omega)))) | exact Below.refl _ _ | omega | (focus (simp; done)) | (focus (simp; omega))))⟩
    | true =>
      obtain ⟨hc6_1l, hc6_1r⟩ := inB_iff.1 hc6_1
      cases hc6_2 : inB m 0 600 with
      | false =>
        go_enter Try.func31, Try.ntmps31
        go_wp2_with (first | (go_at_call 90; refine (cyGood_any _ _ _).mono ?_; rintro e w1 ⟨rfl, hb1⟩; have hz1 := hb1.size; (try (simp at hz1)); obtain ⟨hcw1, hfw1⟩ := bcell hb1; (try (have hy1 : w.heap.size < w1.heap.size := by omega)); (try (have hyy1 : w.heap.size + 1 < w1.heap.size := by omega)); (try (have hyyy1 : w.heap.size + 1 + 1 < w1.heap.size := by omega))) | (go_at_call 86; refine (cyRate_any _ _).mono ?_; rintro e w' ⟨rfl, rfl⟩) | (go_at_call 91; refine (cyMinutes_any _ _).mono ?_; rintro e w' ⟨rfl, rfl⟩))
        go_ret2
        exact ⟨ret_ib (by simp [barAfN, barAfB, *]) (by simp [barAfOk, barAfB, *]), (by repeat (first | (with_reducible exact Below.refl _ _) | (with_reducible refine below_ov ?_ ?_) | (with_reducible refine Below.setCell ?_ ?_ _) | (with_reducible refine Below.alloc ?_ ?_ _) | (with_reducible refine Below.drew ?_) | (with_reducible refine below_drewN ?_ _) | (refine Below.trans ?_ (Below.mono ‹Below _ _ _› (by first | omega | (simp; done) | (simp; omega)))) | exact Below.refl _ _ | omega | (focus (simp; done)) | (focus (simp; omega))))⟩
      | true =>
        obtain ⟨hc6_2l, hc6_2r⟩ := inB_iff.1 hc6_2
        go_enter Try.func31, Try.ntmps31
        go_wp2_with (first | (go_at_call 90; refine (cyGood_any _ _ _).mono ?_; rintro e w1 ⟨rfl, hb1⟩; have hz1 := hb1.size; (try (simp at hz1)); obtain ⟨hcw1, hfw1⟩ := bcell hb1; (try (have hy1 : w.heap.size < w1.heap.size := by omega)); (try (have hyy1 : w.heap.size + 1 < w1.heap.size := by omega)); (try (have hyyy1 : w.heap.size + 1 + 1 < w1.heap.size := by omega))) | (go_at_call 86; refine (cyRate_any _ _).mono ?_; rintro e w' ⟨rfl, rfl⟩) | (go_at_call 91; refine (cyMinutes_any _ _).mono ?_; rintro e w' ⟨rfl, rfl⟩) | (go_at_call 92; refine (cyAfter_any _ _ _ _ _ (by omega) (by omega) (by omega) (by omega) (by omega) (by omega) (by omega) (by omega)).mono ?_; rintro e w2 ⟨rfl, hb2⟩; have hz2 := hb2.size; (try (simp at hz2)); obtain ⟨hcw2, hfw2⟩ := bcell hb2; (try (have hy2 : w.heap.size < w2.heap.size := by omega)); (try (have hyy2 : w.heap.size + 1 < w2.heap.size := by omega)); (try (have hyyy2 : w.heap.size + 1 + 1 < w2.heap.size := by omega))))
        go_ret2
        exact ⟨ret_ib (by simp [barAfN, barAfB, *]) (by simp [barAfOk, barAfB, *]), (by repeat (first | (with_reducible exact Below.refl _ _) | (with_reducible refine below_ov ?_ ?_) | (with_reducible refine Below.setCell ?_ ?_ _) | (with_reducible refine Below.alloc ?_ ?_ _) | (with_reducible refine Below.drew ?_) | (with_reducible refine below_drewN ?_ _) | (refine Below.trans ?_ (Below.mono ‹Below _ _ _› (by first | omega | (simp; done) | (simp; omega)))) | exact Below.refl _ _ | omega | (focus (simp; done)) | (focus (simp; omega))))⟩

end Go.Proofs.Ytpakjmiallhgnaa
