/-
  Walks: what a channel says of one name: was it received, the last one, the next in order.
-/
import Derived.Test.YteaiiccdplfakaaWChan5
namespace Go.Proofs.Yteaiiccdplfakaa
set_option linter.unusedVariables false
set_option linter.unusedSimpArgs false
open Go.RowKit

def recOk (S R H : Ms) (x : ByteArray) (y : Int) : Bool := chanB S R H && nameB x && inB y 1 999
def recB (S R H : Ms) (x : ByteArray) (y : Int) : Bool := recOk S R H x y && decide (0 ≤ fstI (mk1 R.f R.m x y) R.n)
theorem ret_bb {a b c d : Bool} (h : a = c) (h' : b = d) : Ending.returned (.tuple #[.bool a, .bool b]) = .returned (.tuple #[.bool c, .bool d]) := by rw [h, h']
theorem fstI_le {p : Nat → Bool} {n : Nat} : -1 ≤ fstI p n ∧ (fstI p n : Int) ≤ n := by
  have := fstI_bd p n
  omega

set_option maxRecDepth 100000 in
set_option maxHeartbeats 1600000 in
theorem WasReceived_impl (S R H : Ms) (x : ByteArray) (y : Int) (lo hi : Nat) (vS vR vH : Value) (w : World) (hS : Sl w lo hi 3 vS S.n S.c) (hR : Sl w lo hi 3 vR R.n R.c) (hH : Sl w lo hi 3 vH H.n H.c) (hhi : hi ≤ w.heap.size) (fS : S.fits) (fR : R.fits) (fH : H.fits) (hx : x.size ≤ maxLen) :
    Calls Try.prog 19 #[.agg #[vS, vR, vH], .string x, .int .i64 y] w fun e w' => e = .returned (.tuple #[.bool (recB S R H x y), .bool (recOk S R H x y)]) ∧ Below w.heap.size w w' := by
  have hRn := fR.1
  cases hc1_0 : chanB S R H with
  | false =>
    go_enter Try.func19, Try.ntmps19
    go_wp2_with (first | (go_at_call 36; refine (isChannel_any S R H lo hi w.heap.size vS vR vH _ (hS.below (B := w.heap.size) (by repeat (first | (with_reducible exact Below.refl _ _) | (with_reducible refine below_ov ?_ ?_) | (with_reducible refine Below.setCell ?_ ?_ _) | (with_reducible refine Below.alloc ?_ ?_ _) | (with_reducible refine Below.drew ?_) | (with_reducible refine below_drewN ?_ _) | (refine Below.trans ?_ (Below.mono ‹Below _ _ _› (by first | omega | (simp; done) | (simp; omega)))) | exact Below.refl _ _ | omega | (focus (simp; done)) | (focus (simp; omega)))) hhi) (hR.below (B := w.heap.size) (by repeat (first | (with_reducible exact Below.refl _ _) | (with_reducible refine below_ov ?_ ?_) | (with_reducible refine Below.setCell ?_ ?_ _) | (with_reducible refine Below.alloc ?_ ?_ _) | (with_reducible refine Below.drew ?_) | (with_reducible refine below_drewN ?_ _) | (refine Below.trans ?_ (Below.mono ‹Below _ _ _› (by first | omega | (simp; done) | (simp; omega)))) | exact Below.refl _ _ | omega | (focus (simp; done)) | (focus (simp; omega)))) hhi) (hH.below (B := w.heap.size) (by repeat (first | (with_reducible exact Below.refl _ _) | (with_reducible refine below_ov ?_ ?_) | (with_reducible refine Below.setCell ?_ ?_ _) | (with_reducible refine Below.alloc ?_ ?_ _) | (with_reducible refine Below.drew ?_) | (with_reducible refine below_drewN ?_ _) | (refine Below.trans ?_ (Below.mono ‹Below _ _ _› (by first | omega | (simp; done) | (simp; omega)))) | exact Below.refl _ _ | omega | (focus (simp; done)) | (focus (simp; omega)))) hhi) (by simp; omega) fS fR fH (by simp) (World.cell?_alloc_new _ _ _ _) (World.cell?_alloc_new _ _ _ _) (World.cell?_alloc_new _ _ _ _)).mono ?_; rintro e w1 ⟨rfl, hb1⟩; have hz1 := hb1.size; (try (simp at hz1)); obtain ⟨hcw1, hfw1⟩ := bcell hb1; (try (have hy1 : w.heap.size < w1.heap.size := by omega)); (try (have hyy1 : w.heap.size + 1 < w1.heap.size := by omega)); (try (have hyyy1 : w.heap.size + 1 + 1 < w1.heap.size := by omega))) | (go_at_call 40; refine (isName_any _ _ hx).mono ?_; rintro e w2 ⟨rfl, hd2⟩; obtain ⟨n2, rfl⟩ := hd2) | (go_at_call 41; refine (inside_any _ _ _ _).mono ?_; rintro e w' ⟨rfl, rfl⟩))
    go_ret2
    exact ⟨ret_bb (by simp [recB, recOk, *]) (by simp [recOk, *]), (by repeat (first | (with_reducible exact Below.refl _ _) | (with_reducible refine below_ov ?_ ?_) | (with_reducible refine Below.setCell ?_ ?_ _) | (with_reducible refine Below.alloc ?_ ?_ _) | (with_reducible refine Below.drew ?_) | (with_reducible refine below_drewN ?_ _) | (refine Below.trans ?_ (Below.mono ‹Below _ _ _› (by first | omega | (simp; done) | (simp; omega)))) | exact Below.refl _ _ | omega | (focus (simp; done)) | (focus (simp; omega))))⟩
  | true =>
    cases hc1_1 : nameB x with
    | false =>
      go_enter Try.func19, Try.ntmps19
      go_wp2_with (first | (go_at_call 36; refine (isChannel_any S R H lo hi w.heap.size vS vR vH _ (hS.below (B := w.heap.size) (by repeat (first | (with_reducible exact Below.refl _ _) | (with_reducible refine below_ov ?_ ?_) | (with_reducible refine Below.setCell ?_ ?_ _) | (with_reducible refine Below.alloc ?_ ?_ _) | (with_reducible refine Below.drew ?_) | (with_reducible refine below_drewN ?_ _) | (refine Below.trans ?_ (Below.mono ‹Below _ _ _› (by first | omega | (simp; done) | (simp; omega)))) | exact Below.refl _ _ | omega | (focus (simp; done)) | (focus (simp; omega)))) hhi) (hR.below (B := w.heap.size) (by repeat (first | (with_reducible exact Below.refl _ _) | (with_reducible refine below_ov ?_ ?_) | (with_reducible refine Below.setCell ?_ ?_ _) | (with_reducible refine Below.alloc ?_ ?_ _) | (with_reducible refine Below.drew ?_) | (with_reducible refine below_drewN ?_ _) | (refine Below.trans ?_ (Below.mono ‹Below _ _ _› (by first | omega | (simp; done) | (simp; omega)))) | exact Below.refl _ _ | omega | (focus (simp; done)) | (focus (simp; omega)))) hhi) (hH.below (B := w.heap.size) (by repeat (first | (with_reducible exact Below.refl _ _) | (with_reducible refine below_ov ?_ ?_) | (with_reducible refine Below.setCell ?_ ?_ _) | (with_reducible refine Below.alloc ?_ ?_ _) | (with_reducible refine Below.drew ?_) | (with_reducible refine below_drewN ?_ _) | (refine Below.trans ?_ (Below.mono ‹Below _ _ _› (by first | omega | (simp; done) | (simp; omega)))) | exact Below.refl _ _ | omega | (focus (simp; done)) | (focus (simp; omega)))) hhi) (by simp; omega) fS fR fH (by simp) (World.cell?_alloc_new _ _ _ _) (World.cell?_alloc_new _ _ _ _) (World.cell?_alloc_new _ _ _ _)).mono ?_; rintro e w1 ⟨rfl, hb1⟩; have hz1 := hb1.size; (try (simp at hz1)); obtain ⟨hcw1, hfw1⟩ := bcell hb1; (try (have hy1 : w.heap.size < w1.heap.size := by omega)); (try (have hyy1 : w.heap.size + 1 < w1.heap.size := by omega)); (try (have hyyy1 : w.heap.size + 1 + 1 < w1.heap.size := by omega))) | (go_at_call 40; refine (isName_any _ _ hx).mono ?_; rintro e w2 ⟨rfl, hd2⟩; obtain ⟨n2, rfl⟩ := hd2) | (go_at_call 41; refine (inside_any _ _ _ _).mono ?_; rintro e w' ⟨rfl, rfl⟩))
      go_ret2
      exact ⟨ret_bb (by simp [recB, recOk, *]) (by simp [recOk, *]), (by repeat (first | (with_reducible exact Below.refl _ _) | (with_reducible refine below_ov ?_ ?_) | (with_reducible refine Below.setCell ?_ ?_ _) | (with_reducible refine Below.alloc ?_ ?_ _) | (with_reducible refine Below.drew ?_) | (with_reducible refine below_drewN ?_ _) | (refine Below.trans ?_ (Below.mono ‹Below _ _ _› (by first | omega | (simp; done) | (simp; omega)))) | exact Below.refl _ _ | omega | (focus (simp; done)) | (focus (simp; omega))))⟩
    | true =>
      cases hc1_2 : inB y 1 999 with
      | false =>
        go_enter Try.func19, Try.ntmps19
        go_wp2_with (first | (go_at_call 36; refine (isChannel_any S R H lo hi w.heap.size vS vR vH _ (hS.below (B := w.heap.size) (by repeat (first | (with_reducible exact Below.refl _ _) | (with_reducible refine below_ov ?_ ?_) | (with_reducible refine Below.setCell ?_ ?_ _) | (with_reducible refine Below.alloc ?_ ?_ _) | (with_reducible refine Below.drew ?_) | (with_reducible refine below_drewN ?_ _) | (refine Below.trans ?_ (Below.mono ‹Below _ _ _› (by first | omega | (simp; done) | (simp; omega)))) | exact Below.refl _ _ | omega | (focus (simp; done)) | (focus (simp; omega)))) hhi) (hR.below (B := w.heap.size) (by repeat (first | (with_reducible exact Below.refl _ _) | (with_reducible refine below_ov ?_ ?_) | (with_reducible refine Below.setCell ?_ ?_ _) | (with_reducible refine Below.alloc ?_ ?_ _) | (with_reducible refine Below.drew ?_) | (with_reducible refine below_drewN ?_ _) | (refine Below.trans ?_ (Below.mono ‹Below _ _ _› (by first | omega | (simp; done) | (simp; omega)))) | exact Below.refl _ _ | omega | (focus (simp; done)) | (focus (simp; omega)))) hhi) (hH.below (B := w.heap.size) (by repeat (first | (with_reducible exact Below.refl _ _) | (with_reducible refine below_ov ?_ ?_) | (with_reducible refine Below.setCell ?_ ?_ _) | (with_reducible refine Below.alloc ?_ ?_ _) | (with_reducible refine Below.drew ?_) | (with_reducible refine below_drewN ?_ _) | (refine Below.trans ?_ (Below.mono ‹Below _ _ _› (by first | omega | (simp; done) | (simp; omega)))) | exact Below.refl _ _ | omega | (focus (simp; done)) | (focus (simp; omega)))) hhi) (by simp; omega) fS fR fH (by simp) (World.cell?_alloc_new _ _ _ _) (World.cell?_alloc_new _ _ _ _) (World.cell?_alloc_new _ _ _ _)).mono ?_; rintro e w1 ⟨rfl, hb1⟩; have hz1 := hb1.size; (try (simp at hz1)); obtain ⟨hcw1, hfw1⟩ := bcell hb1; (try (have hy1 : w.heap.size < w1.heap.size := by omega)); (try (have hyy1 : w.heap.size + 1 < w1.heap.size := by omega)); (try (have hyyy1 : w.heap.size + 1 + 1 < w1.heap.size := by omega))) | (go_at_call 40; refine (isName_any _ _ hx).mono ?_; rintro e w2 ⟨rfl, hd2⟩; obtain ⟨n2, rfl⟩ := hd2) | (go_at_call 41; refine (inside_any _ _ _ _).mono ?_; rintro e w' ⟨rfl, rfl⟩))
        go_ret2
        exact ⟨ret_bb (by simp [recB, recOk, *]) (by simp [recOk, *]), (by repeat (first | (with_reducible exact Below.refl _ _) | (with_reducible refine below_ov ?_ ?_) | (with_reducible refine Below.setCell ?_ ?_ _) | (with_reducible refine Below.alloc ?_ ?_ _) | (with_reducible refine Below.drew ?_) | (with_reducible refine below_drewN ?_ _) | (refine Below.trans ?_ (Below.mono ‹Below _ _ _› (by first | omega | (simp; done) | (simp; omega)))) | exact Below.refl _ _ | omega | (focus (simp; done)) | (focus (simp; omega))))⟩
      | true =>
        obtain ⟨hc1_2l, hc1_2r⟩ := inB_iff.1 hc1_2
        have HA : Hid (recOk S R H x y = true) := by show recOk S R H x y = true; simp [recOk, *]
        go_enter Try.func19, Try.ntmps19
        go_wp2_with (first | (go_at_call 36; refine (isChannel_any S R H lo hi w.heap.size vS vR vH _ (hS.below (B := w.heap.size) (by repeat (first | (with_reducible exact Below.refl _ _) | (with_reducible refine below_ov ?_ ?_) | (with_reducible refine Below.setCell ?_ ?_ _) | (with_reducible refine Below.alloc ?_ ?_ _) | (with_reducible refine Below.drew ?_) | (with_reducible refine below_drewN ?_ _) | (refine Below.trans ?_ (Below.mono ‹Below _ _ _› (by first | omega | (simp; done) | (simp; omega)))) | exact Below.refl _ _ | omega | (focus (simp; done)) | (focus (simp; omega)))) hhi) (hR.below (B := w.heap.size) (by repeat (first | (with_reducible exact Below.refl _ _) | (with_reducible refine below_ov ?_ ?_) | (with_reducible refine Below.setCell ?_ ?_ _) | (with_reducible refine Below.alloc ?_ ?_ _) | (with_reducible refine Below.drew ?_) | (with_reducible refine below_drewN ?_ _) | (refine Below.trans ?_ (Below.mono ‹Below _ _ _› (by first | omega | (simp; done) | (simp; omega)))) | exact Below.refl _ _ | omega | (focus (simp; done)) | (focus (simp; omega)))) hhi) (hH.below (B := w.heap.size) (by repeat (first | (with_reducible exact Below.refl _ _) | (with_reducible refine below_ov ?_ ?_) | (with_reducible refine Below.setCell ?_ ?_ _) | (with_reducible refine Below.alloc ?_ ?_ _) | (with_reducible refine Below.drew ?_) | (with_reducible refine below_drewN ?_ _) | (refine Below.trans ?_ (Below.mono ‹Below _ _ _› (by first | omega | (simp; done) | (simp; omega)))) | exact Below.refl _ _ | omega | (focus (simp; done)) | (focus (simp; omega)))) hhi) (by simp; omega) fS fR fH (by simp) (World.cell?_alloc_new _ _ _ _) (World.cell?_alloc_new _ _ _ _) (World.cell?_alloc_new _ _ _ _)).mono ?_; rintro e w1 ⟨rfl, hb1⟩; have hz1 := hb1.size; (try (simp at hz1)); obtain ⟨hcw1, hfw1⟩ := bcell hb1; (try (have hy1 : w.heap.size < w1.heap.size := by omega)); (try (have hyy1 : w.heap.size + 1 < w1.heap.size := by omega)); (try (have hyyy1 : w.heap.size + 1 + 1 < w1.heap.size := by omega))) | (go_at_call 40; refine (isName_any _ _ hx).mono ?_; rintro e w2 ⟨rfl, hd2⟩; obtain ⟨n2, rfl⟩ := hd2) | (go_at_call 41; refine (inside_any _ _ _ _).mono ?_; rintro e w' ⟨rfl, rfl⟩))
        refine (received_any R x y lo hi w.heap.size vR (w1.drewN n2) (hR.below (B := w.heap.size) (by repeat (first | (with_reducible exact Below.refl _ _) | (with_reducible refine below_ov ?_ ?_) | (with_reducible refine Below.setCell ?_ ?_ _) | (with_reducible refine Below.alloc ?_ ?_ _) | (with_reducible refine Below.drew ?_) | (with_reducible refine below_drewN ?_ _) | (refine Below.trans ?_ (Below.mono ‹Below _ _ _› (by first | omega | (simp; done) | (simp; omega)))) | exact Below.refl _ _ | omega | (focus (simp; done)) | (focus (simp; omega)))) hhi) (by first | omega | (simp; done) | (simp; omega)) (by omega) (by first | omega | (simp; done) | (simp; omega)) (by simpa using (hb1.cell (p := ⟨w.heap.size, 1, none⟩) (by simp)).trans (World.cell?_alloc_new _ _ _ _))).mono ?_
        rintro e w3 ⟨rfl, hb3⟩
        have hz3 := hb3.size
        go_wp2_with fail
        go_ret2
        exact ⟨ret_bb (by simp [recB, HA.out]) HA.out.symm, (by repeat (first | (with_reducible exact Below.refl _ _) | (with_reducible refine below_ov ?_ ?_) | (with_reducible refine Below.setCell ?_ ?_ _) | (with_reducible refine Below.alloc ?_ ?_ _) | (with_reducible refine Below.drew ?_) | (with_reducible refine below_drewN ?_ _) | (refine Below.trans ?_ (Below.mono ‹Below _ _ _› (by first | omega | (simp; done) | (simp; omega)))) | exact Below.refl _ _ | omega | (focus (simp; done)) | (focus (simp; omega))))⟩
set_option maxRecDepth 100000 in
set_option maxHeartbeats 1600000 in
theorem WasReceived_spec (S R H : Ms) (x : ByteArray) (y : Int) (lo hi : Nat) (vS vR vH : Value) (w : World) (hS : Sl w lo hi 3 vS S.n S.c) (hR : Sl w lo hi 3 vR R.n R.c) (hH : Sl w lo hi 3 vH H.n H.c) (hhi : hi ≤ w.heap.size) (fS : S.fits) (fR : R.fits) (fH : H.fits) (hx : x.size ≤ maxLen) :
    Calls Try.prog 18 #[.agg #[vS, vR, vH], .string x, .int .i64 y] w fun e w' => e = .returned (.tuple #[.bool (recB S R H x y), .bool (recOk S R H x y)]) ∧ Below w.heap.size w w' := by
  have hRn := fR.1
  cases hc2_0 : chanB S R H with
  | false =>
    go_enter Try.func18, Try.ntmps18
    go_wp2_with (first | (go_at_call 34; refine (raGood_any S R H lo hi vS vR vH _ (hS.below (B := w.heap.size) (by repeat (first | (with_reducible exact Below.refl _ _) | (with_reducible refine below_ov ?_ ?_) | (with_reducible refine Below.setCell ?_ ?_ _) | (with_reducible refine Below.alloc ?_ ?_ _) | (with_reducible refine Below.drew ?_) | (with_reducible refine below_drewN ?_ _) | (refine Below.trans ?_ (Below.mono ‹Below _ _ _› (by first | omega | (simp; done) | (simp; omega)))) | exact Below.refl _ _ | omega | (focus (simp; done)) | (focus (simp; omega)))) hhi) (hR.below (B := w.heap.size) (by repeat (first | (with_reducible exact Below.refl _ _) | (with_reducible refine below_ov ?_ ?_) | (with_reducible refine Below.setCell ?_ ?_ _) | (with_reducible refine Below.alloc ?_ ?_ _) | (with_reducible refine Below.drew ?_) | (with_reducible refine below_drewN ?_ _) | (refine Below.trans ?_ (Below.mono ‹Below _ _ _› (by first | omega | (simp; done) | (simp; omega)))) | exact Below.refl _ _ | omega | (focus (simp; done)) | (focus (simp; omega)))) hhi) (hH.below (B := w.heap.size) (by repeat (first | (with_reducible exact Below.refl _ _) | (with_reducible refine below_ov ?_ ?_) | (with_reducible refine Below.setCell ?_ ?_ _) | (with_reducible refine Below.alloc ?_ ?_ _) | (with_reducible refine Below.drew ?_) | (with_reducible refine below_drewN ?_ _) | (refine Below.trans ?_ (Below.mono ‹Below _ _ _› (by first | omega | (simp; done) | (simp; omega)))) | exact Below.refl _ _ | omega | (focus (simp; done)) | (focus (simp; omega)))) hhi) (by simp; omega) fS fR fH).mono ?_; rintro e w1 ⟨rfl, hb1⟩; have hz1 := hb1.size; (try (simp at hz1)); obtain ⟨hcw1, hfw1⟩ := bcell hb1; (try (have hy1 : w.heap.size < w1.heap.size := by omega)); (try (have hyy1 : w.heap.size + 1 < w1.heap.size := by omega)); (try (have hyyy1 : w.heap.size + 1 + 1 < w1.heap.size := by omega))) | (go_at_call 37; refine (apName_any _ _ hx).mono ?_; rintro e w2 ⟨rfl, hd2⟩; obtain ⟨n2, rfl⟩ := hd2) | (go_at_call 38; refine (l1In_any _ _ _ _).mono ?_; rintro e w' ⟨rfl, rfl⟩))
    go_ret2
    exact ⟨ret_bb (by simp [recB, recOk, *]) (by simp [recOk, *]), (by repeat (first | (with_reducible exact Below.refl _ _) | (with_reducible refine below_ov ?_ ?_) | (with_reducible refine Below.setCell ?_ ?_ _) | (with_reducible refine Below.alloc ?_ ?_ _) | (with_reducible refine Below.drew ?_) | (with_reducible refine below_drewN ?_ _) | (refine Below.trans ?_ (Below.mono ‹Below _ _ _› (by first | omega | (simp; done) | (simp; omega)))) | exact Below.refl _ _ | omega | (focus (simp; done)) | (focus (simp; omega))))⟩
  | true =>
    cases hc2_1 : nameB x with
    | false =>
      go_enter Try.func18, Try.ntmps18
      go_wp2_with (first | (go_at_call 34; refine (raGood_any S R H lo hi vS vR vH _ (hS.below (B := w.heap.size) (by repeat (first | (with_reducible exact Below.refl _ _) | (with_reducible refine below_ov ?_ ?_) | (with_reducible refine Below.setCell ?_ ?_ _) | (with_reducible refine Below.alloc ?_ ?_ _) | (with_reducible refine Below.drew ?_) | (with_reducible refine below_drewN ?_ _) | (refine Below.trans ?_ (Below.mono ‹Below _ _ _› (by first | omega | (simp; done) | (simp; omega)))) | exact Below.refl _ _ | omega | (focus (simp; done)) | (focus (simp; omega)))) hhi) (hR.below (B := w.heap.size) (by repeat (first | (with_reducible exact Below.refl _ _) | (with_reducible refine below_ov ?_ ?_) | (with_reducible refine Below.setCell ?_ ?_ _) | (with_reducible refine Below.alloc ?_ ?_ _) | (with_reducible refine Below.drew ?_) | (with_reducible refine below_drewN ?_ _) | (refine Below.trans ?_ (Below.mono ‹Below _ _ _› (by first | omega | (simp; done) | (simp; omega)))) | exact Below.refl _ _ | omega | (focus (simp; done)) | (focus (simp; omega)))) hhi) (hH.below (B := w.heap.size) (by repeat (first | (with_reducible exact Below.refl _ _) | (with_reducible refine below_ov ?_ ?_) | (with_reducible refine Below.setCell ?_ ?_ _) | (with_reducible refine Below.alloc ?_ ?_ _) | (with_reducible refine Below.drew ?_) | (with_reducible refine below_drewN ?_ _) | (refine Below.trans ?_ (Below.mono ‹Below _ _ _› (by first | omega | (simp; done) | (simp; omega)))) | exact Below.refl _ _ | omega | (focus (simp; done)) | (focus (simp; omega)))) hhi) (by simp; omega) fS fR fH).mono ?_; rintro e w1 ⟨rfl, hb1⟩; have hz1 := hb1.size; (try (simp at hz1)); obtain ⟨hcw1, hfw1⟩ := bcell hb1; (try (have hy1 : w.heap.size < w1.heap.size := by omega)); (try (have hyy1 : w.heap.size + 1 < w1.heap.size := by omega)); (try (have hyyy1 : w.heap.size + 1 + 1 < w1.heap.size := by omega))) | (go_at_call 37; refine (apName_any _ _ hx).mono ?_; rintro e w2 ⟨rfl, hd2⟩; obtain ⟨n2, rfl⟩ := hd2) | (go_at_call 38; refine (l1In_any _ _ _ _).mono ?_; rintro e w' ⟨rfl, rfl⟩))
      go_ret2
      exact ⟨ret_bb (by simp [recB, recOk, *]) (by simp [recOk, *]), (by repeat (first | (with_reducible exact Below.refl _ _) | (with_reducible refine below_ov ?_ ?_) | (with_reducible refine Below.setCell ?_ ?_ _) | (with_reducible refine Below.alloc ?_ ?_ _) | (with_reducible refine Below.drew ?_) | (with_reducible refine below_drewN ?_ _) | (refine Below.trans ?_ (Below.mono ‹Below _ _ _› (by first | omega | (simp; done) | (simp; omega)))) | exact Below.refl _ _ | omega | (focus (simp; done)) | (focus (simp; omega))))⟩
    | true =>
      cases hc2_2 : inB y 1 999 with
      | false =>
        go_enter Try.func18, Try.ntmps18
        go_wp2_with (first | (go_at_call 34; refine (raGood_any S R H lo hi vS vR vH _ (hS.below (B := w.heap.size) (by repeat (first | (with_reducible exact Below.refl _ _) | (with_reducible refine below_ov ?_ ?_) | (with_reducible refine Below.setCell ?_ ?_ _) | (with_reducible refine Below.alloc ?_ ?_ _) | (with_reducible refine Below.drew ?_) | (with_reducible refine below_drewN ?_ _) | (refine Below.trans ?_ (Below.mono ‹Below _ _ _› (by first | omega | (simp; done) | (simp; omega)))) | exact Below.refl _ _ | omega | (focus (simp; done)) | (focus (simp; omega)))) hhi) (hR.below (B := w.heap.size) (by repeat (first | (with_reducible exact Below.refl _ _) | (with_reducible refine below_ov ?_ ?_) | (with_reducible refine Below.setCell ?_ ?_ _) | (with_reducible refine Below.alloc ?_ ?_ _) | (with_reducible refine Below.drew ?_) | (with_reducible refine below_drewN ?_ _) | (refine Below.trans ?_ (Below.mono ‹Below _ _ _› (by first | omega | (simp; done) | (simp; omega)))) | exact Below.refl _ _ | omega | (focus (simp; done)) | (focus (simp; omega)))) hhi) (hH.below (B := w.heap.size) (by repeat (first | (with_reducible exact Below.refl _ _) | (with_reducible refine below_ov ?_ ?_) | (with_reducible refine Below.setCell ?_ ?_ _) | (with_reducible refine Below.alloc ?_ ?_ _) | (with_reducible refine Below.drew ?_) | (with_reducible refine below_drewN ?_ _) | (refine Below.trans ?_ (Below.mono ‹Below _ _ _› (by first | omega | (simp; done) | (simp; omega)))) | exact Below.refl _ _ | omega | (focus (simp; done)) | (focus (simp; omega)))) hhi) (by simp; omega) fS fR fH).mono ?_; rintro e w1 ⟨rfl, hb1⟩; have hz1 := hb1.size; (try (simp at hz1)); obtain ⟨hcw1, hfw1⟩ := bcell hb1; (try (have hy1 : w.heap.size < w1.heap.size := by omega)); (try (have hyy1 : w.heap.size + 1 < w1.heap.size := by omega)); (try (have hyyy1 : w.heap.size + 1 + 1 < w1.heap.size := by omega))) | (go_at_call 37; refine (apName_any _ _ hx).mono ?_; rintro e w2 ⟨rfl, hd2⟩; obtain ⟨n2, rfl⟩ := hd2) | (go_at_call 38; refine (l1In_any _ _ _ _).mono ?_; rintro e w' ⟨rfl, rfl⟩))
        go_ret2
        exact ⟨ret_bb (by simp [recB, recOk, *]) (by simp [recOk, *]), (by repeat (first | (with_reducible exact Below.refl _ _) | (with_reducible refine below_ov ?_ ?_) | (with_reducible refine Below.setCell ?_ ?_ _) | (with_reducible refine Below.alloc ?_ ?_ _) | (with_reducible refine Below.drew ?_) | (with_reducible refine below_drewN ?_ _) | (refine Below.trans ?_ (Below.mono ‹Below _ _ _› (by first | omega | (simp; done) | (simp; omega)))) | exact Below.refl _ _ | omega | (focus (simp; done)) | (focus (simp; omega))))⟩
      | true =>
        obtain ⟨hc2_2l, hc2_2r⟩ := inB_iff.1 hc2_2
        have HA : Hid (recOk S R H x y = true) := by show recOk S R H x y = true; simp [recOk, *]
        go_enter Try.func18, Try.ntmps18
        go_wp2_with (first | (go_at_call 34; refine (raGood_any S R H lo hi vS vR vH _ (hS.below (B := w.heap.size) (by repeat (first | (with_reducible exact Below.refl _ _) | (with_reducible refine below_ov ?_ ?_) | (with_reducible refine Below.setCell ?_ ?_ _) | (with_reducible refine Below.alloc ?_ ?_ _) | (with_reducible refine Below.drew ?_) | (with_reducible refine below_drewN ?_ _) | (refine Below.trans ?_ (Below.mono ‹Below _ _ _› (by first | omega | (simp; done) | (simp; omega)))) | exact Below.refl _ _ | omega | (focus (simp; done)) | (focus (simp; omega)))) hhi) (hR.below (B := w.heap.size) (by repeat (first | (with_reducible exact Below.refl _ _) | (with_reducible refine below_ov ?_ ?_) | (with_reducible refine Below.setCell ?_ ?_ _) | (with_reducible refine Below.alloc ?_ ?_ _) | (with_reducible refine Below.drew ?_) | (with_reducible refine below_drewN ?_ _) | (refine Below.trans ?_ (Below.mono ‹Below _ _ _› (by first | omega | (simp; done) | (simp; omega)))) | exact Below.refl _ _ | omega | (focus (simp; done)) | (focus (simp; omega)))) hhi) (hH.below (B := w.heap.size) (by repeat (first | (with_reducible exact Below.refl _ _) | (with_reducible refine below_ov ?_ ?_) | (with_reducible refine Below.setCell ?_ ?_ _) | (with_reducible refine Below.alloc ?_ ?_ _) | (with_reducible refine Below.drew ?_) | (with_reducible refine below_drewN ?_ _) | (refine Below.trans ?_ (Below.mono ‹Below _ _ _› (by first | omega | (simp; done) | (simp; omega)))) | exact Below.refl _ _ | omega | (focus (simp; done)) | (focus (simp; omega)))) hhi) (by simp; omega) fS fR fH).mono ?_; rintro e w1 ⟨rfl, hb1⟩; have hz1 := hb1.size; (try (simp at hz1)); obtain ⟨hcw1, hfw1⟩ := bcell hb1; (try (have hy1 : w.heap.size < w1.heap.size := by omega)); (try (have hyy1 : w.heap.size + 1 < w1.heap.size := by omega)); (try (have hyyy1 : w.heap.size + 1 + 1 < w1.heap.size := by omega))) | (go_at_call 37; refine (apName_any _ _ hx).mono ?_; rintro e w2 ⟨rfl, hd2⟩; obtain ⟨n2, rfl⟩ := hd2) | (go_at_call 38; refine (l1In_any _ _ _ _).mono ?_; rintro e w' ⟨rfl, rfl⟩))
        refine (raFind_any R.f R.m R.g R.n lo hi vR x y _ (hR.below (B := w.heap.size) (by repeat (first | (with_reducible exact Below.refl _ _) | (with_reducible refine below_ov ?_ ?_) | (with_reducible refine Below.setCell ?_ ?_ _) | (with_reducible refine Below.alloc ?_ ?_ _) | (with_reducible refine Below.drew ?_) | (with_reducible refine below_drewN ?_ _) | (refine Below.trans ?_ (Below.mono ‹Below _ _ _› (by first | omega | (simp; done) | (simp; omega)))) | exact Below.refl _ _ | omega | (focus (simp; done)) | (focus (simp; omega)))) hhi) (by first | omega | (simp; done) | (simp; omega)) (by omega)).mono ?_
        rintro e w3 ⟨rfl, hb3⟩
        have hz3 := hb3.size
        go_wp2_with fail
        go_ret2
        exact ⟨ret_bb (by simp [recB, HA.out]) HA.out.symm, (by repeat (first | (with_reducible exact Below.refl _ _) | (with_reducible refine below_ov ?_ ?_) | (with_reducible refine Below.setCell ?_ ?_ _) | (with_reducible refine Below.alloc ?_ ?_ _) | (with_reducible refine Below.drew ?_) | (with_reducible refine below_drewN ?_ _) | (refine Below.trans ?_ (Below.mono ‹Below _ _ _› (by first | omega | (simp; done) | (simp; omega)))) | exact Below.refl _ _ | omega | (focus (simp; done)) | (focus (simp; omega))))⟩

theorem Drew.cells {w w' : World} (h : Drew w w') (a : Addr) : w'.cell? a = w.cell? a := by obtain ⟨n, rfl⟩ := h; simp [go_sem]
theorem Drew.frozens {w w' : World} (h : Drew w w') (a : Addr) : w'.frozen? a = w.frozen? a := by obtain ⟨n, rfl⟩ := h; simp [go_sem]
theorem Drew.size {w w' : World} (h : Drew w w') : w'.heap.size = w.heap.size := by obtain ⟨n, rfl⟩ := h; simp [go_sem]
def nmOk (S R H : Ms) (x : ByteArray) : Bool := chanB S R H && nameB x
/-- The last message of a name among the first k: its name, number, body. -/
def lsF (R : Ms) (x : ByteArray) : Nat → ByteArray × Int × ByteArray
  | 0 => (⟨#[]⟩, 0, ⟨#[]⟩)
  | k + 1 => if R.f k = x ∧ (lsF R x k).2.1 < R.m k then (R.f k, R.m k, R.g k) else lsF R x k
def lsS (R : Ms) (x : ByteArray) (k : Nat) : ByteArray := (lsF R x k).1
def lsN (R : Ms) (x : ByteArray) (k : Nat) : Int := (lsF R x k).2.1
def lsB (R : Ms) (x : ByteArray) (k : Nat) : ByteArray := (lsF R x k).2.2
theorem ls_zero (R : Ms) (x : ByteArray) : lsS R x 0 = ⟨#[]⟩ ∧ lsN R x 0 = 0 ∧ lsB R x 0 = ⟨#[]⟩ := ⟨rfl, rfl, rfl⟩
theorem ls_yes {R : Ms} {x : ByteArray} {k : Nat} (h : R.f k = x) (h' : lsN R x k < R.m k) : lsS R x (k + 1) = R.f k ∧ lsN R x (k + 1) = R.m k ∧ lsB R x (k + 1) = R.g k := by
  unfold lsS lsN lsB at *
  simp only [lsF]
  rw [if_pos ⟨h, h'⟩]
  exact ⟨rfl, rfl, rfl⟩
theorem ls_no {R : Ms} {x : ByteArray} {k : Nat} (h : ¬ (R.f k = x ∧ lsN R x k < R.m k)) : lsS R x (k + 1) = lsS R x k ∧ lsN R x (k + 1) = lsN R x k ∧ lsB R x (k + 1) = lsB R x k := by
  unfold lsS lsN lsB at *
  simp only [lsF]
  rw [if_neg h]
  exact ⟨rfl, rfl, rfl⟩
theorem ls_bd (R : Ms) (x : ByteArray) : ∀ k, 0 ≤ lsN R x k ∧ (lsN R x k = 0 → lsS R x k = ⟨#[]⟩ ∧ lsB R x k = ⟨#[]⟩)
  | 0 => ⟨Int.le_refl _, fun _ => ⟨rfl, rfl⟩⟩
  | k + 1 => by
    have ih := ls_bd R x k
    by_cases h : R.f k = x ∧ lsN R x k < R.m k
    · have h1 := ls_yes h.1 h.2
      rw [h1.2.1]
      exact ⟨by omega, fun h0 => by omega⟩
    · have h1 := ls_no h
      rw [h1.1, h1.2.1, h1.2.2]
      exact ih
def laS (S R H : Ms) (x : ByteArray) : ByteArray := if nmOk S R H x = true then lsS R x R.n else ⟨#[]⟩
def laN (S R H : Ms) (x : ByteArray) : Int := if nmOk S R H x = true then lsN R x R.n else 0
def laB (S R H : Ms) (x : ByteArray) : ByteArray := if nmOk S R H x = true then lsB R x R.n else ⟨#[]⟩
def laOk (S R H : Ms) (x : ByteArray) : Bool := nmOk S R H x && decide (0 < lsN R x R.n)
set_option maxRecDepth 100000 in
set_option maxHeartbeats 1600000 in
theorem LastOf_impl (S R H : Ms) (x : ByteArray) (lo hi : Nat) (vS vR vH : Value) (w : World) (hS : Sl w lo hi 3 vS S.n S.c) (hR : Sl w lo hi 3 vR R.n R.c) (hH : Sl w lo hi 3 vH H.n H.c) (hhi : hi ≤ w.heap.size) (fS : S.fits) (fR : R.fits) (fH : H.fits) (hx : x.size ≤ maxLen) :
    Calls Try.prog 21 #[.agg #[vS, vR, vH], .string x] w fun e w' => e = .returned (.tuple #[.agg #[.string (laS S R H x), .int .i64 (laN S R H x), .string (laB S R H x)], .bool (laOk S R H x)]) ∧ Below w.heap.size w w' := by
  have hRn := fR.1
  obtain ⟨A, cap, rfl, hcap, hA⟩ := hR.open_
  cases hc3_0 : chanB S R H with
  | false =>
    have HA : Hid (nmOk S R H x = false) := by show nmOk S R H x = false; simp [nmOk, *]
    have HB : Hid (laS S R H x = ⟨#[]⟩ ∧ laN S R H x = 0 ∧ laB S R H x = ⟨#[]⟩ ∧ laOk S R H x = false) := by show _ ∧ _; simp [laS, laN, laB, laOk, HA.out]
    go_enter Try.func21, Try.ntmps21
    go_wp2_with (first | (go_at_call 36; refine (isChannel_any S R H lo hi w.heap.size vS (.slice A R.n cap) vH _ (hS.below (B := w.heap.size) (by repeat (first | (with_reducible exact Below.refl _ _) | (with_reducible refine below_ov ?_ ?_) | (with_reducible refine Below.setCell ?_ ?_ _) | (with_reducible refine Below.alloc ?_ ?_ _) | (with_reducible refine Below.drew ?_) | (with_reducible refine below_drewN ?_ _) | (refine Below.trans ?_ (Below.mono ‹Below _ _ _› (by first | omega | (simp; done) | (simp; omega)))) | exact Below.refl _ _ | omega | (focus (simp; done)) | (focus (simp; omega)))) hhi) (hR.below (B := w.heap.size) (by repeat (first | (with_reducible exact Below.refl _ _) | (with_reducible refine below_ov ?_ ?_) | (with_reducible refine Below.setCell ?_ ?_ _) | (with_reducible refine Below.alloc ?_ ?_ _) | (with_reducible refine Below.drew ?_) | (with_reducible refine below_drewN ?_ _) | (refine Below.trans ?_ (Below.mono ‹Below _ _ _› (by first | omega | (simp; done) | (simp; omega)))) | exact Below.refl _ _ | omega | (focus (simp; done)) | (focus (simp; omega)))) hhi) (hH.below (B := w.heap.size) (by repeat (first | (with_reducible exact Below.refl _ _) | (with_reducible refine below_ov ?_ ?_) | (with_reducible refine Below.setCell ?_ ?_ _) | (with_reducible refine Below.alloc ?_ ?_ _) | (with_reducible refine Below.drew ?_) | (with_reducible refine below_drewN ?_ _) | (refine Below.trans ?_ (Below.mono ‹Below _ _ _› (by first | omega | (simp; done) | (simp; omega)))) | exact Below.refl _ _ | omega | (focus (simp; done)) | (focus (simp; omega)))) hhi) (by simp; omega) fS fR fH (by simp; omega) ((World.cell?_alloc_lt _ _ _ (by simp)).trans (World.cell?_alloc_new _ _ _ _)) ((World.cell?_alloc_lt _ _ _ (by simp)).trans (World.cell?_alloc_new _ _ _ _)) ((World.cell?_alloc_lt _ _ _ (by simp)).trans (World.cell?_alloc_new _ _ _ _))).mono ?_; rintro e w1 ⟨rfl, hb1⟩; have hz1 := hb1.size; (try (simp at hz1)); obtain ⟨hcw1, hfw1⟩ := bcell hb1; (try (have hy1 : w.heap.size < w1.heap.size := by omega)); (try (have hyy1 : w.heap.size + 1 < w1.heap.size := by omega)); (try (have hyyy1 : w.heap.size + 1 + 1 < w1.heap.size := by omega))) | (go_at_call 40; refine (isName_any _ _ hx).mono ?_; rintro e w2 ⟨rfl, hd2⟩; obtain ⟨n2, rfl⟩ := hd2))
    obtain ⟨b1, b2, b3, b4⟩ := HB.out
    rw [b1, b2, b3, b4]
    exact bodyPost_ret (v := .tuple #[.agg #[.string ⟨#[]⟩, .int .i64 0, .string ⟨#[]⟩], .bool false]) (by simp [results, Try.results21, go_sem, hcw1]) rfl ⟨rfl, (by repeat (first | (with_reducible exact Below.refl _ _) | (with_reducible refine below_ov ?_ ?_) | (with_reducible refine Below.setCell ?_ ?_ _) | (with_reducible refine Below.alloc ?_ ?_ _) | (with_reducible refine Below.drew ?_) | (with_reducible refine below_drewN ?_ _) | (refine Below.trans ?_ (Below.mono ‹Below _ _ _› (by first | omega | (simp; done) | (simp; omega)))) | exact Below.refl _ _ | omega | (focus (simp; done)) | (focus (simp; omega))))⟩
  | true =>
    cases hc3_1 : nameB x with
    | false =>
      have HA : Hid (nmOk S R H x = false) := by show nmOk S R H x = false; simp [nmOk, *]
      have HB : Hid (laS S R H x = ⟨#[]⟩ ∧ laN S R H x = 0 ∧ laB S R H x = ⟨#[]⟩ ∧ laOk S R H x = false) := by show _ ∧ _; simp [laS, laN, laB, laOk, HA.out]
      go_enter Try.func21, Try.ntmps21
      go_wp2_with (first | (go_at_call 36; refine (isChannel_any S R H lo hi w.heap.size vS (.slice A R.n cap) vH _ (hS.below (B := w.heap.size) (by repeat (first | (with_reducible exact Below.refl _ _) | (with_reducible refine below_ov ?_ ?_) | (with_reducible refine Below.setCell ?_ ?_ _) | (with_reducible refine Below.alloc ?_ ?_ _) | (with_reducible refine Below.drew ?_) | (with_reducible refine below_drewN ?_ _) | (refine Below.trans ?_ (Below.mono ‹Below _ _ _› (by first | omega | (simp; done) | (simp; omega)))) | exact Below.refl _ _ | omega | (focus (simp; done)) | (focus (simp; omega)))) hhi) (hR.below (B := w.heap.size) (by repeat (first | (with_reducible exact Below.refl _ _) | (with_reducible refine below_ov ?_ ?_) | (with_reducible refine Below.setCell ?_ ?_ _) | (with_reducible refine Below.alloc ?_ ?_ _) | (with_reducible refine Below.drew ?_) | (with_reducible refine below_drewN ?_ _) | (refine Below.trans ?_ (Below.mono ‹Below _ _ _› (by first | omega | (simp; done) | (simp; omega)))) | exact Below.refl _ _ | omega | (focus (simp; done)) | (focus (simp; omega)))) hhi) (hH.below (B := w.heap.size) (by repeat (first | (with_reducible exact Below.refl _ _) | (with_reducible refine below_ov ?_ ?_) | (with_reducible refine Below.setCell ?_ ?_ _) | (with_reducible refine Below.alloc ?_ ?_ _) | (with_reducible refine Below.drew ?_) | (with_reducible refine below_drewN ?_ _) | (refine Below.trans ?_ (Below.mono ‹Below _ _ _› (by first | omega | (simp; done) | (simp; omega)))) | exact Below.refl _ _ | omega | (focus (simp; done)) | (focus (simp; omega)))) hhi) (by simp; omega) fS fR fH (by simp; omega) ((World.cell?_alloc_lt _ _ _ (by simp)).trans (World.cell?_alloc_new _ _ _ _)) ((World.cell?_alloc_lt _ _ _ (by simp)).trans (World.cell?_alloc_new _ _ _ _)) ((World.cell?_alloc_lt _ _ _ (by simp)).trans (World.cell?_alloc_new _ _ _ _))).mono ?_; rintro e w1 ⟨rfl, hb1⟩; have hz1 := hb1.size; (try (simp at hz1)); obtain ⟨hcw1, hfw1⟩ := bcell hb1; (try (have hy1 : w.heap.size < w1.heap.size := by omega)); (try (have hyy1 : w.heap.size + 1 < w1.heap.size := by omega)); (try (have hyyy1 : w.heap.size + 1 + 1 < w1.heap.size := by omega))) | (go_at_call 40; refine (isName_any _ _ hx).mono ?_; rintro e w2 ⟨rfl, hd2⟩; obtain ⟨n2, rfl⟩ := hd2))
      obtain ⟨b1, b2, b3, b4⟩ := HB.out
      rw [b1, b2, b3, b4]
      exact bodyPost_ret (v := .tuple #[.agg #[.string ⟨#[]⟩, .int .i64 0, .string ⟨#[]⟩], .bool false]) (by simp [results, Try.results21, go_sem, hcw1]) rfl ⟨rfl, (by repeat (first | (with_reducible exact Below.refl _ _) | (with_reducible refine below_ov ?_ ?_) | (with_reducible refine Below.setCell ?_ ?_ _) | (with_reducible refine Below.alloc ?_ ?_ _) | (with_reducible refine Below.drew ?_) | (with_reducible refine below_drewN ?_ _) | (refine Below.trans ?_ (Below.mono ‹Below _ _ _› (by first | omega | (simp; done) | (simp; omega)))) | exact Below.refl _ _ | omega | (focus (simp; done)) | (focus (simp; omega))))⟩
    | true =>
      have HA : Hid (nmOk S R H x = true) := by show nmOk S R H x = true; simp [nmOk, *]
      go_enter Try.func21, Try.ntmps21
      go_wp2_with fail
      refine (isChannel_any S R H lo hi w.heap.size vS (.slice A R.n cap) vH _ (hS.below (B := w.heap.size) (by repeat (first | (with_reducible exact Below.refl _ _) | (with_reducible refine below_ov ?_ ?_) | (with_reducible refine Below.setCell ?_ ?_ _) | (with_reducible refine Below.alloc ?_ ?_ _) | (with_reducible refine Below.drew ?_) | (with_reducible refine below_drewN ?_ _) | (refine Below.trans ?_ (Below.mono ‹Below _ _ _› (by first | omega | (simp; done) | (simp; omega)))) | exact Below.refl _ _ | omega | (focus (simp; done)) | (focus (simp; omega)))) hhi) (hR.below (B := w.heap.size) (by repeat (first | (with_reducible exact Below.refl _ _) | (with_reducible refine below_ov ?_ ?_) | (with_reducible refine Below.setCell ?_ ?_ _) | (with_reducible refine Below.alloc ?_ ?_ _) | (with_reducible refine Below.drew ?_) | (with_reducible refine below_drewN ?_ _) | (refine Below.trans ?_ (Below.mono ‹Below _ _ _› (by first | omega | (simp; done) | (simp; omega)))) | exact Below.refl _ _ | omega | (focus (simp; done)) | (focus (simp; omega)))) hhi) (hH.below (B := w.heap.size) (by repeat (first | (with_reducible exact Below.refl _ _) | (with_reducible refine below_ov ?_ ?_) | (with_reducible refine Below.setCell ?_ ?_ _) | (with_reducible refine Below.alloc ?_ ?_ _) | (with_reducible refine Below.drew ?_) | (with_reducible refine below_drewN ?_ _) | (refine Below.trans ?_ (Below.mono ‹Below _ _ _› (by first | omega | (simp; done) | (simp; omega)))) | exact Below.refl _ _ | omega | (focus (simp; done)) | (focus (simp; omega)))) hhi) (by simp; omega) fS fR fH (by simp; omega) ((World.cell?_alloc_lt _ _ _ (by simp)).trans (World.cell?_alloc_new _ _ _ _)) ((World.cell?_alloc_lt _ _ _ (by simp)).trans (World.cell?_alloc_new _ _ _ _)) ((World.cell?_alloc_lt _ _ _ (by simp)).trans (World.cell?_alloc_new _ _ _ _))).mono ?_
      rintro e w1 ⟨rfl, hb1⟩
      have hz1 := hb1.size
      simp at hz1
      have a1 : w1.cell? ⟨w.heap.size, 1, none⟩ = some (.slice A R.n cap) := (hb1.cell (p := ⟨w.heap.size, 1, none⟩) (by simp; omega)).trans ((World.cell?_alloc_lt _ _ _ (by simp)).trans (World.cell?_alloc_new _ _ _ _))
      have r0 : w1.cell? ⟨w.heap.size + 1, 0, none⟩ = some (.string ⟨#[]⟩) := (hb1.cell (p := ⟨w.heap.size + 1, 0, none⟩) (by simp)).trans (World.cell?_alloc_at _ _ _ _ (by simp))
      have r1 : w1.cell? ⟨w.heap.size + 1, 1, none⟩ = some (.int .i64 0) := (hb1.cell (p := ⟨w.heap.size + 1, 1, none⟩) (by simp)).trans (World.cell?_alloc_at _ _ _ _ (by simp))
      have r2 : w1.cell? ⟨w.heap.size + 1, 2, none⟩ = some (.string ⟨#[]⟩) := (hb1.cell (p := ⟨w.heap.size + 1, 2, none⟩) (by simp)).trans (World.cell?_alloc_at _ _ _ _ (by simp))
      have q2 : ∀ o, w1.frozen? ⟨w.heap.size + 1, o, none⟩ = false := fun o => (hb1.frozen (p := ⟨w.heap.size + 1, o, none⟩) (by simp)).trans (by simp [go_sem])
      go_wp2_with fail
      refine (isName_any _ _ hx).mono ?_
      rintro e w2 ⟨rfl, hd2⟩
      have hz2 := hd2.size
      replace a1 := (hd2.cells _).trans a1
      replace r0 := (hd2.cells _).trans r0
      replace r1 := (hd2.cells _).trans r1
      replace r2 := (hd2.cells _).trans r2
      replace q2 := fun o => (hd2.frozens _).trans (q2 o)
      have hbw : Below w.heap.size w w2 := Below.trans (b := w1) (by repeat (first | (with_reducible exact Below.refl _ _) | (with_reducible refine below_ov ?_ ?_) | (with_reducible refine Below.setCell ?_ ?_ _) | (with_reducible refine Below.alloc ?_ ?_ _) | (with_reducible refine Below.drew ?_) | (with_reducible refine below_drewN ?_ _) | (refine Below.trans ?_ (Below.mono ‹Below _ _ _› (by first | omega | (simp; done) | (simp; omega)))) | exact Below.refl _ _ | omega | (focus (simp; done)) | (focus (simp; omega)))) (hd2.below _)
      clear hd2
      have hz : w.heap.size + 1 < w2.heap.size := by omega
      have hz0 : w.heap.size < w2.heap.size := by omega
      clear hz1 hz2 hb1
      go_wp2_with fail
      go_loopw [21] (fun i wr => ∃ k : Nat, k ≤ R.n ∧ i = .int .i64 k ∧ wr.cell? ⟨w2.heap.size, 0, none⟩ = some (.string (lsS R x k)) ∧ wr.cell? ⟨w2.heap.size, 1, none⟩ = some (.int .i64 (lsN R x k)) ∧ wr.cell? ⟨w2.heap.size, 2, none⟩ = some (.string (lsB R x k)) ∧ (∀ o, wr.frozen? ⟨w2.heap.size, o, none⟩ = false) ∧ Below w2.heap.size w2 wr ∧ w2.heap.size < wr.heap.size) (fun i _ => R.n - (intOf i).toNat)
      case atStart => exact ⟨0, by omega, rfl, World.cell?_alloc_new _ _ _ _, World.cell?_alloc_new _ _ _ _, World.cell?_alloc_new _ _ _ _, fun o => by simp [go_sem], (Below.refl _ _).alloc (Nat.le_refl _) _, by simp⟩
      case round =>
        obtain ⟨k, hk, rfl, l0, l1, l2, lf, hb, hlt⟩ := hrel
        have hbr : Below w.heap.size w wr := hbw.trans (hb.mono hbw.size)
        by_cases hkn : k < R.n
        · obtain ⟨blk, off, rfl, h1, h2, h3⟩ := (hA.below hbr (by omega)) (by omega)
          have c0 : wr.cell? ⟨blk, off + k * 3, none⟩ = some (.string (R.f k)) := h3 k 0 hkn (by omega)
          have c1 : wr.cell? ⟨blk, off + k * 3 + 1, none⟩ = some (.int .i64 (R.m k)) := h3 k 1 hkn (by omega)
          have c2 : wr.cell? ⟨blk, off + k * 3 + 2, none⟩ = some (.string (R.g k)) := h3 k 2 hkn (by omega)
          clear h3 hA a1 r0 r1 r2 q2
          cases e0 : ((R.f k).toList == x.toList) with
          | false =>
            have HG : Hid (lsS R x (k + 1) = lsS R x k ∧ lsN R x (k + 1) = lsN R x k ∧ lsB R x (k + 1) = lsB R x k) := by
              refine ls_no fun h => ?_
              rw [str_beq, h.1] at e0; simp at e0
            go_wp2_with fail
            go_roundw
            case rel => exact ⟨k + 1, by omega, by go_num, by rw [HG.out.1]; simp [go_sem, hlt, l0], by rw [HG.out.2.1]; simp [go_sem, hlt, l1], by rw [HG.out.2.2]; simp [go_sem, hlt, l2], fun o => by simp [go_sem, hlt, lf o], (by repeat (first | (with_reducible exact Below.refl _ _) | (with_reducible refine below_ov ?_ ?_) | (with_reducible refine Below.setCell ?_ ?_ _) | (with_reducible refine Below.alloc ?_ ?_ _) | (with_reducible refine Below.drew ?_) | (with_reducible refine below_drewN ?_ _) | (refine Below.trans ?_ (Below.mono ‹Below _ _ _› (by first | omega | (simp; done) | (simp; omega)))) | exact Below.refl _ _ | omega | (focus (simp; done)) | (focus (simp; omega)))), by simp; omega⟩
            case measure => simp [intOf]; omega
          | true =>
            cases e1 : decide (R.m k > lsN R x k) with
            | false =>
              have HG : Hid (lsS R x (k + 1) = lsS R x k ∧ lsN R x (k + 1) = lsN R x k ∧ lsB R x (k + 1) = lsB R x k) := by
                refine ls_no fun h => ?_
                have := of_decide_eq_false e1
                omega
              go_wp2_with fail
              go_roundw
              case rel => exact ⟨k + 1, by omega, by go_num, by rw [HG.out.1]; simp [go_sem, hlt, l0], by rw [HG.out.2.1]; simp [go_sem, hlt, l1], by rw [HG.out.2.2]; simp [go_sem, hlt, l2], fun o => by simp [go_sem, hlt, lf o], (by repeat (first | (with_reducible exact Below.refl _ _) | (with_reducible refine below_ov ?_ ?_) | (with_reducible refine Below.setCell ?_ ?_ _) | (with_reducible refine Below.alloc ?_ ?_ _) | (with_reducible refine Below.drew ?_) | (with_reducible refine below_drewN ?_ _) | (refine Below.trans ?_ (Below.mono ‹Below _ _ _› (by first | omega | (simp; done) | (simp; omega)))) | exact Below.refl _ _ | omega | (focus (simp; done)) | (focus (simp; omega)))), by simp; omega⟩
              case measure => simp [intOf]; omega
            | true =>
              have HG : Hid (lsS R x (k + 1) = R.f k ∧ lsN R x (k + 1) = R.m k ∧ lsB R x (k + 1) = R.g k) := by
                rw [str_beq] at e0
                exact ls_yes (of_decide_eq_true e0) (of_decide_eq_true e1)
              go_wp2_with fail
              go_roundw
              case rel => exact ⟨k + 1, by omega, by go_num, by rw [HG.out.1]; simp [go_sem, hlt, l0, l1, l2], by rw [HG.out.2.1]; simp [go_sem, hlt, l0, l1, l2], by rw [HG.out.2.2]; simp [go_sem, hlt, l0, l1, l2], fun o => by simp [go_sem, hlt, lf o], (by repeat (first | (with_reducible exact Below.refl _ _) | (with_reducible refine below_ov ?_ ?_) | (with_reducible refine Below.setCell ?_ ?_ _) | (with_reducible refine Below.alloc ?_ ?_ _) | (with_reducible refine Below.drew ?_) | (with_reducible refine below_drewN ?_ _) | (refine Below.trans ?_ (Below.mono ‹Below _ _ _› (by first | omega | (simp; done) | (simp; omega)))) | exact Below.refl _ _ | omega | (focus (simp; done)) | (focus (simp; omega)))), by simp; omega⟩
              case measure => simp [intOf]; omega
        · obtain rfl : k = R.n := by omega
          have HB : Hid (laS S R H x = lsS R x R.n ∧ laN S R H x = lsN R x R.n ∧ laB S R H x = lsB R x R.n ∧ laOk S R H x = decide (0 < lsN R x R.n)) := by show _ ∧ _; simp [laS, laN, laB, laOk, HA.out]
          have r0' := (hb.cell (p := ⟨w.heap.size + 1, 0, none⟩) (by simpa using hz)).trans r0
          have r1' := (hb.cell (p := ⟨w.heap.size + 1, 1, none⟩) (by simpa using hz)).trans r1
          have r2' := (hb.cell (p := ⟨w.heap.size + 1, 2, none⟩) (by simpa using hz)).trans r2
          have q2' := fun o => (hb.frozen (p := ⟨w.heap.size + 1, o, none⟩) (by simpa using hz)).trans (q2 o)
          go_wp2_with fail
          go_region
          go_wp2_with fail
          obtain ⟨b1, b2, b3, b4⟩ := HB.out
          rw [b1, b2, b3, b4]
          exact bodyPost_ret (v := .tuple #[.agg #[.string (lsS R x R.n), .int .i64 (lsN R x R.n), .string (lsB R x R.n)], .bool (decide (0 < lsN R x R.n))]) (by simp [results, Try.results21, go_sem, r0', r1', r2', q2']) rfl ⟨rfl, (by repeat (first | (with_reducible exact Below.refl _ _) | (with_reducible refine below_ov ?_ ?_) | (with_reducible refine Below.setCell ?_ ?_ _) | (with_reducible refine Below.alloc ?_ ?_ _) | (with_reducible refine Below.drew ?_) | (with_reducible refine below_drewN ?_ _) | (refine Below.trans ?_ (Below.mono ‹Below _ _ _› (by first | omega | (simp; done) | (simp; omega)))) | exact Below.refl _ _ | omega | (focus (simp; done)) | (focus (simp; omega))))⟩
set_option maxRecDepth 100000 in
set_option maxHeartbeats 1600000 in
theorem LastOf_spec (S R H : Ms) (x : ByteArray) (lo hi : Nat) (vS vR vH : Value) (w : World) (hS : Sl w lo hi 3 vS S.n S.c) (hR : Sl w lo hi 3 vR R.n R.c) (hH : Sl w lo hi 3 vH H.n H.c) (hhi : hi ≤ w.heap.size) (fS : S.fits) (fR : R.fits) (fH : H.fits) (hx : x.size ≤ maxLen) :
    Calls Try.prog 20 #[.agg #[vS, vR, vH], .string x] w fun e w' => e = .returned (.tuple #[.agg #[.string (laS S R H x), .int .i64 (laN S R H x), .string (laB S R H x)], .bool (laOk S R H x)]) ∧ Below w.heap.size w w' := by
  have hRn := fR.1
  obtain ⟨A, cap, rfl, hcap, hA⟩ := hR.open_
  cases hc4_0 : chanB S R H with
  | false =>
    have HA : Hid (nmOk S R H x = false) := by show nmOk S R H x = false; simp [nmOk, *]
    have HB : Hid (laS S R H x = ⟨#[]⟩ ∧ laN S R H x = 0 ∧ laB S R H x = ⟨#[]⟩ ∧ laOk S R H x = false) := by show _ ∧ _; simp [laS, laN, laB, laOk, HA.out]
    go_enter Try.func20, Try.ntmps20
    go_wp2_with (first | (go_at_call 34; refine (raGood_any S R H lo hi vS (.slice A R.n cap) vH _ (hS.below (B := w.heap.size) (by repeat (first | (with_reducible exact Below.refl _ _) | (with_reducible refine below_ov ?_ ?_) | (with_reducible refine Below.setCell ?_ ?_ _) | (with_reducible refine Below.alloc ?_ ?_ _) | (with_reducible refine Below.drew ?_) | (with_reducible refine below_drewN ?_ _) | (refine Below.trans ?_ (Below.mono ‹Below _ _ _› (by first | omega | (simp; done) | (simp; omega)))) | exact Below.refl _ _ | omega | (focus (simp; done)) | (focus (simp; omega)))) hhi) (hR.below (B := w.heap.size) (by repeat (first | (with_reducible exact Below.refl _ _) | (with_reducible refine below_ov ?_ ?_) | (with_reducible refine Below.setCell ?_ ?_ _) | (with_reducible refine Below.alloc ?_ ?_ _) | (with_reducible refine Below.drew ?_) | (with_reducible refine below_drewN ?_ _) | (refine Below.trans ?_ (Below.mono ‹Below _ _ _› (by first | omega | (simp; done) | (simp; omega)))) | exact Below.refl _ _ | omega | (focus (simp; done)) | (focus (simp; omega)))) hhi) (hH.below (B := w.heap.size) (by repeat (first | (with_reducible exact Below.refl _ _) | (with_reducible refine below_ov ?_ ?_) | (with_reducible refine Below.setCell ?_ ?_ _) | (with_reducible refine Below.alloc ?_ ?_ _) | (with_reducible refine Below.drew ?_) | (with_reducible refine below_drewN ?_ _) | (refine Below.trans ?_ (Below.mono ‹Below _ _ _› (by first | omega | (simp; done) | (simp; omega)))) | exact Below.refl _ _ | omega | (focus (simp; done)) | (focus (simp; omega)))) hhi) (by first | omega | (simp; done) | (simp; omega)) fS fR fH).mono ?_; rintro e w1 ⟨rfl, hb1⟩; have hz1 := hb1.size; (try (simp at hz1)); obtain ⟨hcw1, hfw1⟩ := bcell hb1; (try (have hy1 : w.heap.size < w1.heap.size := by omega)); (try (have hyy1 : w.heap.size + 1 < w1.heap.size := by omega)); (try (have hyyy1 : w.heap.size + 1 + 1 < w1.heap.size := by omega))) | (go_at_call 37; refine (apName_any _ _ hx).mono ?_; rintro e w2 ⟨rfl, hd2⟩; obtain ⟨n2, rfl⟩ := hd2))
    obtain ⟨b1, b2, b3, b4⟩ := HB.out
    rw [b1, b2, b3, b4]
    exact bodyPost_ret (v := .tuple #[.agg #[.string ⟨#[]⟩, .int .i64 0, .string ⟨#[]⟩], .bool false]) (by simp [results, Try.results20, go_sem, hcw1]) rfl ⟨rfl, (by repeat (first | (with_reducible exact Below.refl _ _) | (with_reducible refine below_ov ?_ ?_) | (with_reducible refine Below.setCell ?_ ?_ _) | (with_reducible refine Below.alloc ?_ ?_ _) | (with_reducible refine Below.drew ?_) | (with_reducible refine below_drewN ?_ _) | (refine Below.trans ?_ (Below.mono ‹Below _ _ _› (by first | omega | (simp; done) | (simp; omega)))) | exact Below.refl _ _ | omega | (focus (simp; done)) | (focus (simp; omega))))⟩
  | true =>
    cases hc4_1 : nameB x with
    | false =>
      have HA : Hid (nmOk S R H x = false) := by show nmOk S R H x = false; simp [nmOk, *]
      have HB : Hid (laS S R H x = ⟨#[]⟩ ∧ laN S R H x = 0 ∧ laB S R H x = ⟨#[]⟩ ∧ laOk S R H x = false) := by show _ ∧ _; simp [laS, laN, laB, laOk, HA.out]
      go_enter Try.func20, Try.ntmps20
      go_wp2_with (first | (go_at_call 34; refine (raGood_any S R H lo hi vS (.slice A R.n cap) vH _ (hS.below (B := w.heap.size) (by repeat (first | (with_reducible exact Below.refl _ _) | (with_reducible refine below_ov ?_ ?_) | (with_reducible refine Below.setCell ?_ ?_ _) | (with_reducible refine Below.alloc ?_ ?_ _) | (with_reducible refine Below.drew ?_) | (with_reducible refine below_drewN ?_ _) | (refine Below.trans ?_ (Below.mono ‹Below _ _ _› (by first | omega | (simp; done) | (simp; omega)))) | exact Below.refl _ _ | omega | (focus (simp; done)) | (focus (simp; omega)))) hhi) (hR.below (B := w.heap.size) (by repeat (first | (with_reducible exact Below.refl _ _) | (with_reducible refine below_ov ?_ ?_) | (with_reducible refine Below.setCell ?_ ?_ _) | (with_reducible refine Below.alloc ?_ ?_ _) | (with_reducible refine Below.drew ?_) | (with_reducible refine below_drewN ?_ _) | (refine Below.trans ?_ (Below.mono ‹Below _ _ _› (by first | omega | (simp; done) | (simp; omega)))) | exact Below.refl _ _ | omega | (focus (simp; done)) | (focus (simp; omega)))) hhi) (hH.below (B := w.heap.size) (by repeat (first | (with_reducible exact Below.refl _ _) | (with_reducible refine below_ov ?_ ?_) | (with_reducible refine Below.setCell ?_ ?_ _) | (with_reducible refine Below.alloc ?_ ?_ _) | (with_reducible refine Below.drew ?_) | (with_reducible refine below_drewN ?_ _) | (refine Below.trans ?_ (Below.mono ‹Below _ _ _› (by first | omega | (simp; done) | (simp; omega)))) | exact Below.refl _ _ | omega | (focus (simp; done)) | (focus (simp; omega)))) hhi) (by first | omega | (simp; done) | (simp; omega)) fS fR fH).mono ?_; rintro e w1 ⟨rfl, hb1⟩; have hz1 := hb1.size; (try (simp at hz1)); obtain ⟨hcw1, hfw1⟩ := bcell hb1; (try (have hy1 : w.heap.size < w1.heap.size := by omega)); (try (have hyy1 : w.heap.size + 1 < w1.heap.size := by omega)); (try (have hyyy1 : w.heap.size + 1 + 1 < w1.heap.size := by omega))) | (go_at_call 37; refine (apName_any _ _ hx).mono ?_; rintro e w2 ⟨rfl, hd2⟩; obtain ⟨n2, rfl⟩ := hd2))
      obtain ⟨b1, b2, b3, b4⟩ := HB.out
      rw [b1, b2, b3, b4]
      exact bodyPost_ret (v := .tuple #[.agg #[.string ⟨#[]⟩, .int .i64 0, .string ⟨#[]⟩], .bool false]) (by simp [results, Try.results20, go_sem, hcw1]) rfl ⟨rfl, (by repeat (first | (with_reducible exact Below.refl _ _) | (with_reducible refine below_ov ?_ ?_) | (with_reducible refine Below.setCell ?_ ?_ _) | (with_reducible refine Below.alloc ?_ ?_ _) | (with_reducible refine Below.drew ?_) | (with_reducible refine below_drewN ?_ _) | (refine Below.trans ?_ (Below.mono ‹Below _ _ _› (by first | omega | (simp; done) | (simp; omega)))) | exact Below.refl _ _ | omega | (focus (simp; done)) | (focus (simp; omega))))⟩
    | true =>
      have HA : Hid (nmOk S R H x = true) := by show nmOk S R H x = true; simp [nmOk, *]
      go_enter Try.func20, Try.ntmps20
      go_wp2_with fail
      refine (raGood_any S R H lo hi vS (.slice A R.n cap) vH _ (hS.below (B := w.heap.size) (by repeat (first | (with_reducible exact Below.refl _ _) | (with_reducible refine below_ov ?_ ?_) | (with_reducible refine Below.setCell ?_ ?_ _) | (with_reducible refine Below.alloc ?_ ?_ _) | (with_reducible refine Below.drew ?_) | (with_reducible refine below_drewN ?_ _) | (refine Below.trans ?_ (Below.mono ‹Below _ _ _› (by first | omega | (simp; done) | (simp; omega)))) | exact Below.refl _ _ | omega | (focus (simp; done)) | (focus (simp; omega)))) hhi) (hR.below (B := w.heap.size) (by repeat (first | (with_reducible exact Below.refl _ _) | (with_reducible refine below_ov ?_ ?_) | (with_reducible refine Below.setCell ?_ ?_ _) | (with_reducible refine Below.alloc ?_ ?_ _) | (with_reducible refine Below.drew ?_) | (with_reducible refine below_drewN ?_ _) | (refine Below.trans ?_ (Below.mono ‹Below _ _ _› (by first | omega | (simp; done) | (simp; omega)))) | exact Below.refl _ _ | omega | (focus (simp; done)) | (focus (simp; omega)))) hhi) (hH.below (B := w.heap.size) (by repeat (first | (with_reducible exact Below.refl _ _) | (with_reducible refine below_ov ?_ ?_) | (with_reducible refine Below.setCell ?_ ?_ _) | (with_reducible refine Below.alloc ?_ ?_ _) | (with_reducible refine Below.drew ?_) | (with_reducible refine below_drewN ?_ _) | (refine Below.trans ?_ (Below.mono ‹Below _ _ _› (by first | omega | (simp; done) | (simp; omega)))) | exact Below.refl _ _ | omega | (focus (simp; done)) | (focus (simp; omega)))) hhi) (by first | omega | (simp; done) | (simp; omega)) fS fR fH).mono ?_
      rintro e w1 ⟨rfl, hb1⟩
      have hz1 := hb1.size
      simp at hz1
      have a1 : w1.cell? ⟨w.heap.size, 1, none⟩ = some (.slice A R.n cap) := (hb1.cell (p := ⟨w.heap.size, 1, none⟩) (by simp; omega)).trans ((World.cell?_alloc_lt _ _ _ (by simp)).trans (World.cell?_alloc_new _ _ _ _))
      have r0 : w1.cell? ⟨w.heap.size + 1, 0, none⟩ = some (.string ⟨#[]⟩) := (hb1.cell (p := ⟨w.heap.size + 1, 0, none⟩) (by simp)).trans (World.cell?_alloc_at _ _ _ _ (by simp))
      have r1 : w1.cell? ⟨w.heap.size + 1, 1, none⟩ = some (.int .i64 0) := (hb1.cell (p := ⟨w.heap.size + 1, 1, none⟩) (by simp)).trans (World.cell?_alloc_at _ _ _ _ (by simp))
      have r2 : w1.cell? ⟨w.heap.size + 1, 2, none⟩ = some (.string ⟨#[]⟩) := (hb1.cell (p := ⟨w.heap.size + 1, 2, none⟩) (by simp)).trans (World.cell?_alloc_at _ _ _ _ (by simp))
      have q2 : ∀ o, w1.frozen? ⟨w.heap.size + 1, o, none⟩ = false := fun o => (hb1.frozen (p := ⟨w.heap.size + 1, o, none⟩) (by simp)).trans (by simp [go_sem])
      go_wp2_with fail
      refine (apName_any _ _ hx).mono ?_
      rintro e w2 ⟨rfl, hd2⟩
      have hz2 := hd2.size
      replace a1 := (hd2.cells _).trans a1
      replace r0 := (hd2.cells _).trans r0
      replace r1 := (hd2.cells _).trans r1
      replace r2 := (hd2.cells _).trans r2
      replace q2 := fun o => (hd2.frozens _).trans (q2 o)
      have hbw : Below w.heap.size w w2 := Below.trans (b := w1) (by repeat (first | (with_reducible exact Below.refl _ _) | (with_reducible refine below_ov ?_ ?_) | (with_reducible refine Below.setCell ?_ ?_ _) | (with_reducible refine Below.alloc ?_ ?_ _) | (with_reducible refine Below.drew ?_) | (with_reducible refine below_drewN ?_ _) | (refine Below.trans ?_ (Below.mono ‹Below _ _ _› (by first | omega | (simp; done) | (simp; omega)))) | exact Below.refl _ _ | omega | (focus (simp; done)) | (focus (simp; omega)))) (hd2.below _)
      clear hd2
      have hz : w.heap.size + 1 < w2.heap.size := by omega
      have hz0 : w.heap.size < w2.heap.size := by omega
      clear hz1 hz2 hb1
      go_wp2_with fail
      go_loopw [22] (fun i wr => ∃ k : Nat, k ≤ R.n ∧ i = .int .i64 k ∧ wr.cell? ⟨w2.heap.size, 0, none⟩ = some (.string (lsS R x k)) ∧ wr.cell? ⟨w2.heap.size, 1, none⟩ = some (.int .i64 (lsN R x k)) ∧ wr.cell? ⟨w2.heap.size, 2, none⟩ = some (.string (lsB R x k)) ∧ (∀ o, wr.frozen? ⟨w2.heap.size, o, none⟩ = false) ∧ Below w2.heap.size w2 wr ∧ w2.heap.size < wr.heap.size) (fun i _ => R.n - (intOf i).toNat)
      case atStart => exact ⟨0, by omega, rfl, World.cell?_alloc_new _ _ _ _, World.cell?_alloc_new _ _ _ _, World.cell?_alloc_new _ _ _ _, fun o => by simp [go_sem], (Below.refl _ _).alloc (Nat.le_refl _) _, by simp⟩
      case round =>
        obtain ⟨k, hk, rfl, l0, l1, l2, lf, hb, hlt⟩ := hrel
        have hbr : Below w.heap.size w wr := hbw.trans (hb.mono hbw.size)
        by_cases hkn : k < R.n
        · obtain ⟨blk, off, rfl, h1, h2, h3⟩ := (hA.below hbr (by omega)) (by omega)
          have c0 : wr.cell? ⟨blk, off + k * 3, none⟩ = some (.string (R.f k)) := h3 k 0 hkn (by omega)
          have c1 : wr.cell? ⟨blk, off + k * 3 + 1, none⟩ = some (.int .i64 (R.m k)) := h3 k 1 hkn (by omega)
          have c2 : wr.cell? ⟨blk, off + k * 3 + 2, none⟩ = some (.string (R.g k)) := h3 k 2 hkn (by omega)
          clear h3 hA a1 r0 r1 r2 q2
          cases e0 : ((R.f k).toList == x.toList) with
          | false =>
            have HG : Hid (lsS R x (k + 1) = lsS R x k ∧ lsN R x (k + 1) = lsN R x k ∧ lsB R x (k + 1) = lsB R x k) := by
              refine ls_no fun h => ?_
              rw [str_beq, h.1] at e0; simp at e0
            go_wp2_with fail
            go_roundw
            case rel => exact ⟨k + 1, by omega, by go_num, by rw [HG.out.1]; simp [go_sem, hlt, l0], by rw [HG.out.2.1]; simp [go_sem, hlt, l1], by rw [HG.out.2.2]; simp [go_sem, hlt, l2], fun o => by simp [go_sem, hlt, lf o], (by repeat (first | (with_reducible exact Below.refl _ _) | (with_reducible refine below_ov ?_ ?_) | (with_reducible refine Below.setCell ?_ ?_ _) | (with_reducible refine Below.alloc ?_ ?_ _) | (with_reducible refine Below.drew ?_) | (with_reducible refine below_drewN ?_ _) | (refine Below.trans ?_ (Below.mono ‹Below _ _ _› (by first | omega | (simp; done) | (simp; omega)))) | exact Below.refl _ _ | omega | (focus (simp; done)) | (focus (simp; omega)))), by simp; omega⟩
            case measure => simp [intOf]; omega
          | true =>
            cases e1 : decide (R.m k > lsN R x k) with
            | false =>
              have HG : Hid (lsS R x (k + 1) = lsS R x k ∧ lsN R x (k + 1) = lsN R x k ∧ lsB R x (k + 1) = lsB R x k) := by
                refine ls_no fun h => ?_
                have := of_decide_eq_false e1
                omega
              go_wp2_with fail
              go_roundw
              case rel => exact ⟨k + 1, by omega, by go_num, by rw [HG.out.1]; simp [go_sem, hlt, l0], by rw [HG.out.2.1]; simp [go_sem, hlt, l1], by rw [HG.out.2.2]; simp [go_sem, hlt, l2], fun o => by simp [go_sem, hlt, lf o], (by repeat (first | (with_reducible exact Below.refl _ _) | (with_reducible refine below_ov ?_ ?_) | (with_reducible refine Below.setCell ?_ ?_ _) | (with_reducible refine Below.alloc ?_ ?_ _) | (with_reducible refine Below.drew ?_) | (with_reducible refine below_drewN ?_ _) | (refine Below.trans ?_ (Below.mono ‹Below _ _ _› (by first | omega | (simp; done) | (simp; omega)))) | exact Below.refl _ _ | omega | (focus (simp; done)) | (focus (simp; omega)))), by simp; omega⟩
              case measure => simp [intOf]; omega
            | true =>
              have HG : Hid (lsS R x (k + 1) = R.f k ∧ lsN R x (k + 1) = R.m k ∧ lsB R x (k + 1) = R.g k) := by
                rw [str_beq] at e0
                exact ls_yes (of_decide_eq_true e0) (of_decide_eq_true e1)
              go_wp2_with fail
              go_roundw
              case rel => exact ⟨k + 1, by omega, by go_num, by rw [HG.out.1]; simp [go_sem, hlt, l0, l1, l2], by rw [HG.out.2.1]; simp [go_sem, hlt, l0, l1, l2], by rw [HG.out.2.2]; simp [go_sem, hlt, l0, l1, l2], fun o => by simp [go_sem, hlt, lf o], (by repeat (first | (with_reducible exact Below.refl _ _) | (with_reducible refine below_ov ?_ ?_) | (with_reducible refine Below.setCell ?_ ?_ _) | (with_reducible refine Below.alloc ?_ ?_ _) | (with_reducible refine Below.drew ?_) | (with_reducible refine below_drewN ?_ _) | (refine Below.trans ?_ (Below.mono ‹Below _ _ _› (by first | omega | (simp; done) | (simp; omega)))) | exact Below.refl _ _ | omega | (focus (simp; done)) | (focus (simp; omega)))), by simp; omega⟩
              case measure => simp [intOf]; omega
        · obtain rfl : k = R.n := by omega
          have HB : Hid (laS S R H x = lsS R x R.n ∧ laN S R H x = lsN R x R.n ∧ laB S R H x = lsB R x R.n ∧ laOk S R H x = decide (0 < lsN R x R.n)) := by show _ ∧ _; simp [laS, laN, laB, laOk, HA.out]
          have r0' := (hb.cell (p := ⟨w.heap.size + 1, 0, none⟩) (by simpa using hz)).trans r0
          have r1' := (hb.cell (p := ⟨w.heap.size + 1, 1, none⟩) (by simpa using hz)).trans r1
          have r2' := (hb.cell (p := ⟨w.heap.size + 1, 2, none⟩) (by simpa using hz)).trans r2
          have q2' := fun o => (hb.frozen (p := ⟨w.heap.size + 1, o, none⟩) (by simpa using hz)).trans (q2 o)
          have hb0 := ls_bd R x R.n
          cases ez : (lsN R x R.n == 0) with
          | true =>
            have e0 : lsN R x R.n = 0 := by simpa using ez
            have HC : Hid (laS S R H x = ⟨#[]⟩ ∧ laN S R H x = 0 ∧ laB S R H x = ⟨#[]⟩ ∧ laOk S R H x = false) := by
              have h1 := hb0.2 e0
              have h2 := HB.out
              rw [e0, h1.1, h1.2] at h2
              exact h2
            clear e0
            go_wp2_with fail
            obtain ⟨b1, b2, b3, b4⟩ := HC.out
            rw [b1, b2, b3, b4]
            exact bodyPost_ret (v := .tuple #[.agg #[.string ⟨#[]⟩, .int .i64 0, .string ⟨#[]⟩], .bool false]) (by simp [results, Try.results20, go_sem, r0', r1', r2', q2']) rfl ⟨rfl, (by repeat (first | (with_reducible exact Below.refl _ _) | (with_reducible refine below_ov ?_ ?_) | (with_reducible refine Below.setCell ?_ ?_ _) | (with_reducible refine Below.alloc ?_ ?_ _) | (with_reducible refine Below.drew ?_) | (with_reducible refine below_drewN ?_ _) | (refine Below.trans ?_ (Below.mono ‹Below _ _ _› (by first | omega | (simp; done) | (simp; omega)))) | exact Below.refl _ _ | omega | (focus (simp; done)) | (focus (simp; omega))))⟩
          | false =>
            have HC : Hid (laOk S R H x = true) := by
              show laOk S R H x = true
              rw [HB.out.2.2.2]
              have : ¬ lsN R x R.n = 0 := by simpa using ez
              simp; omega
            go_wp2_with fail
            obtain ⟨b1, b2, b3, b4⟩ := HB.out
            rw [b1, b2, b3, HC.out]
            exact bodyPost_ret (v := .tuple #[.agg #[.string (lsS R x R.n), .int .i64 (lsN R x R.n), .string (lsB R x R.n)], .bool true]) (by simp [results, Try.results20, go_sem, r0', r1', r2', q2']) rfl ⟨rfl, (by repeat (first | (with_reducible exact Below.refl _ _) | (with_reducible refine below_ov ?_ ?_) | (with_reducible refine Below.setCell ?_ ?_ _) | (with_reducible refine Below.alloc ?_ ?_ _) | (with_reducible refine Below.drew ?_) | (with_reducible refine below_drewN ?_ _) | (refine Below.trans ?_ (Below.mono ‹Below _ _ _› (by first | omega | (simp; done) | (simp; omega)))) | exact Below.refl _ _ | omega | (focus (simp; done)) | (focus (simp; omega))))⟩

end Go.Proofs.Yteaiiccdplfakaa
