/-
  Walks: the text of a message: the program's and the reference's.
-/
import Derived.Test.YtkkaknagnhhgcaaDoorWMsg
import Derived.Test.YtkkaknagnhhgcaaDoorWItoa
namespace Go.Proofs.YtkkaknagnhhgcaaDoor
set_option linter.unusedVariables false
set_option linter.unusedSimpArgs false
open Go.RowKit

def mtx (f : ByteArray) (k : Nat) (b : ByteArray) : ByteArray := f ++ ⟨#[35]⟩ ++ dD k ++ ⟨#[58]⟩ ++ b
def mxS (f : ByteArray) (n : Int) (b : ByteArray) : ByteArray := if msgB f n b = true then mtx f n.toNat b else ⟨#[]⟩
set_option maxRecDepth 100000 in
set_option maxHeartbeats 1600000 in
theorem messageText_any (f : ByteArray) (k : Nat) (b : ByteArray) (w : World) (hk : k ≤ 999) (hf : f.size ≤ 1000) (hb : b.size ≤ 1000) (ht : Tab w) :
    Calls Tryd.prog 11 #[.agg #[.string f, .int .i64 k, .string b]] w fun e w' => e = .returned (.string (mtx f k b)) ∧ Below w.heap.size w w' := by
  have hs := dD_size k
  have x1 : ¬ 9223372036854775807 < f.size + 1 := by omega
  have x2 : ¬ 9223372036854775807 < f.size + 1 + (dD k).size := by omega
  have x3 : ¬ 9223372036854775807 < f.size + 1 + (dD k).size + 1 := by omega
  have x4 : ¬ 9223372036854775807 < f.size + 1 + (dD k).size + 1 + b.size := by omega
  go_enter Tryd.func11, Tryd.ntmps11
  go_wp2_with fail
  (refine wp_region_below_lit (by kernel_rfl) (by kernel_rfl) ?_; (repeat (first | go_big_quiet_step ((go_at_call 19; exact quiet_ov (Itoa_any k _ (by omega) (ht.below (B := w.heap.size) (by repeat (first | (with_reducible exact Below.refl _ _) | (with_reducible refine below_ov ?_ ?_) | (with_reducible refine Below.setCell ?_ ?_ _) | (with_reducible refine Below.alloc ?_ ?_ _) | (with_reducible refine Below.drew ?_) | (with_reducible refine below_drewN ?_ _) | (refine Below.trans ?_ (Below.mono ‹Below _ _ _› (by first | omega | (simp; done) | (simp; omega)))) | exact Below.refl _ _ | omega | (focus (simp; done)) | (focus (simp; omega)))) (Nat.le_refl _))))) | quiet_step ((go_at_call 19; exact quiet_ov (Itoa_any k _ (by omega) (ht.below (B := w.heap.size) (by repeat (first | (with_reducible exact Below.refl _ _) | (with_reducible refine below_ov ?_ ?_) | (with_reducible refine Below.setCell ?_ ?_ _) | (with_reducible refine Below.alloc ?_ ?_ _) | (with_reducible refine Below.drew ?_) | (with_reducible refine below_drewN ?_ _) | (refine Below.trans ?_ (Below.mono ‹Below _ _ _› (by first | omega | (simp; done) | (simp; omega)))) | exact Below.refl _ _ | omega | (focus (simp; done)) | (focus (simp; omega)))) (Nat.le_refl _))))))); refine wpQuiet_nil ?_; intro w1 hb1; have hz1 := hb1.size; (try (simp at hz1)); obtain ⟨hcw1, hfw1⟩ := bcell hb1; (try (have hy1 : w.heap.size < w1.heap.size := by omega)); (try (have hyy1 : w.heap.size + 1 < w1.heap.size := by omega)))
  go_wp2_with fail
  go_ret
  exact ⟨rfl, (by repeat (first | (with_reducible exact Below.refl _ _) | (with_reducible refine below_ov ?_ ?_) | (with_reducible refine Below.setCell ?_ ?_ _) | (with_reducible refine Below.alloc ?_ ?_ _) | (with_reducible refine Below.drew ?_) | (with_reducible refine below_drewN ?_ _) | (refine Below.trans ?_ (Below.mono ‹Below _ _ _› (by first | omega | (simp; done) | (simp; omega)))) | exact Below.refl _ _ | omega | (focus (simp; done)) | (focus (simp; omega))))⟩
theorem raText_any (f : ByteArray) (k : Nat) (b : ByteArray) (w : World) (hk : k ≤ 999) (hf : f.size ≤ 1000) (hb : b.size ≤ 1000) :
    Calls Tryd.prog 9 #[.agg #[.string f, .int .i64 k, .string b]] w fun e w' => e = .returned (.string (mtx f k b)) ∧ Below w.heap.size w w' := by
  have hs := dD_size k
  have x1 : ¬ 9223372036854775807 < f.size + 1 := by omega
  have x2 : ¬ 9223372036854775807 < f.size + 1 + (dD k).size := by omega
  have x3 : ¬ 9223372036854775807 < f.size + 1 + (dD k).size + 1 := by omega
  have x4 : ¬ 9223372036854775807 < f.size + 1 + (dD k).size + 1 + b.size := by omega
  go_enter Tryd.func9, Tryd.ntmps9
  go_wp2_with fail
  (refine wp_region_below_lit (by kernel_rfl) (by kernel_rfl) ?_; (repeat (first | go_big_quiet_step ((go_at_call 15; exact quiet_ov (l1Num_any k _ (by omega)))) | quiet_step ((go_at_call 15; exact quiet_ov (l1Num_any k _ (by omega)))))); refine wpQuiet_nil ?_; intro w1 hb1; have hz1 := hb1.size; (try (simp at hz1)); obtain ⟨hcw1, hfw1⟩ := bcell hb1; (try (have hy1 : w.heap.size < w1.heap.size := by omega)); (try (have hyy1 : w.heap.size + 1 < w1.heap.size := by omega)))
  go_wp2_with fail
  go_ret
  exact ⟨rfl, (by repeat (first | (with_reducible exact Below.refl _ _) | (with_reducible refine below_ov ?_ ?_) | (with_reducible refine Below.setCell ?_ ?_ _) | (with_reducible refine Below.alloc ?_ ?_ _) | (with_reducible refine Below.drew ?_) | (with_reducible refine below_drewN ?_ _) | (refine Below.trans ?_ (Below.mono ‹Below _ _ _› (by first | omega | (simp; done) | (simp; omega)))) | exact Below.refl _ _ | omega | (focus (simp; done)) | (focus (simp; omega))))⟩
set_option maxRecDepth 100000 in
set_option maxHeartbeats 1600000 in
theorem MessageText_impl (f : ByteArray) (n : Int) (b : ByteArray) (w : World) (hf : f.size ≤ maxLen) (hb : b.size ≤ maxLen) (ht : Tab w) :
    Calls Tryd.prog 7 #[.agg #[.string f, .int .i64 n, .string b]] w fun e w' => e = .returned (.tuple #[.string (mxS f n b), .bool (msgB f n b)]) ∧ Below w.heap.size w w' := by
  cases e1 : msgB f n b with
  | false =>
    have HX : Hid (mxS f n b = ⟨#[]⟩) := by show _ = _; rw [mxS, e1]; rfl
    go_enter Tryd.func7, Tryd.ntmps7
    go_wp2_with fail
    refine (isMessage_any f n b _ hf hb).mono ?_
    rintro e w1 ⟨rfl, hb1⟩
    have hz1 := hb1.size
    rw [e1]
    go_wp2_with fail
    go_ret2
    rw [HX.out]
    exact ⟨rfl, (by repeat (first | (with_reducible exact Below.refl _ _) | (with_reducible refine below_ov ?_ ?_) | (with_reducible refine Below.setCell ?_ ?_ _) | (with_reducible refine Below.alloc ?_ ?_ _) | (with_reducible refine Below.drew ?_) | (with_reducible refine below_drewN ?_ _) | (refine Below.trans ?_ (Below.mono ‹Below _ _ _› (by first | omega | (simp; done) | (simp; omega)))) | exact Below.refl _ _ | omega | (focus (simp; done)) | (focus (simp; omega))))⟩
  | true =>
    have h1 : (1 ≤ n ∧ n ≤ 999) ∧ f.size ≤ 1000 ∧ b.size ≤ 1000 := by
      have h := e1
      simp only [msgB, nameB, bodyB, Bool.and_eq_true, inB_iff] at h
      omega
    obtain ⟨k, rfl⟩ : ∃ k : Nat, n = k := ⟨n.toNat, by omega⟩
    have HX : Hid (mxS f k b = mtx f k b) := by show _ = _; rw [mxS, e1]; rfl
    go_enter Tryd.func7, Tryd.ntmps7
    go_wp2_with fail
    refine (isMessage_any f k b _ hf hb).mono ?_
    rintro e w1 ⟨rfl, hb1⟩
    have hz1 := hb1.size
    (try (simp at hz1))
    rw [e1]
    clear e1
    have p0 := (hb1.cell (p := ⟨w.heap.size, 0, none⟩) (by simp)).trans (World.cell?_alloc_new _ _ _ _)
    have p1 := (hb1.cell (p := ⟨w.heap.size, 1, none⟩) (by simp)).trans (World.cell?_alloc_new _ _ _ _)
    have p2 := (hb1.cell (p := ⟨w.heap.size, 2, none⟩) (by simp)).trans (World.cell?_alloc_new _ _ _ _)
    simp at p0 p1 p2
    have lp : w.heap.size < w1.heap.size := by omega
    go_wp2_with fail
    refine (messageText_any f k b _ (by omega) h1.2.1 h1.2.2 (ht.below (B := w.heap.size) (by repeat (first | (with_reducible exact Below.refl _ _) | (with_reducible refine below_ov ?_ ?_) | (with_reducible refine Below.setCell ?_ ?_ _) | (with_reducible refine Below.alloc ?_ ?_ _) | (with_reducible refine Below.drew ?_) | (with_reducible refine below_drewN ?_ _) | (refine Below.trans ?_ (Below.mono ‹Below _ _ _› (by first | omega | (simp; done) | (simp; omega)))) | exact Below.refl _ _ | omega | (focus (simp; done)) | (focus (simp; omega)))) (Nat.le_refl _))).mono ?_
    rintro e w2 ⟨rfl, hb2⟩
    have hz2 := hb2.size
    go_wp2_with fail
    go_ret2
    rw [HX.out]
    exact ⟨rfl, (by repeat (first | (with_reducible exact Below.refl _ _) | (with_reducible refine below_ov ?_ ?_) | (with_reducible refine Below.setCell ?_ ?_ _) | (with_reducible refine Below.alloc ?_ ?_ _) | (with_reducible refine Below.drew ?_) | (with_reducible refine below_drewN ?_ _) | (refine Below.trans ?_ (Below.mono ‹Below _ _ _› (by first | omega | (simp; done) | (simp; omega)))) | exact Below.refl _ _ | omega | (focus (simp; done)) | (focus (simp; omega))))⟩
set_option maxRecDepth 100000 in
set_option maxHeartbeats 1600000 in
theorem MessageText_spec (f : ByteArray) (n : Int) (b : ByteArray) (w : World) (hf : f.size ≤ maxLen) (hb : b.size ≤ maxLen) :
    Calls Tryd.prog 5 #[.agg #[.string f, .int .i64 n, .string b]] w fun e w' => e = .returned (.tuple #[.string (mxS f n b), .bool (msgB f n b)]) ∧ Below w.heap.size w w' := by
  cases e1 : msgB f n b with
  | false =>
    have HX : Hid (mxS f n b = ⟨#[]⟩) := by show _ = _; rw [mxS, e1]; rfl
    go_enter Tryd.func5, Tryd.ntmps5
    go_wp2_with fail
    refine (raOne_any f n b _ hf hb).mono ?_
    rintro e w1 ⟨rfl, hb1⟩
    have hz1 := hb1.size
    rw [e1]
    go_wp2_with fail
    go_ret2
    rw [HX.out]
    exact ⟨rfl, (by repeat (first | (with_reducible exact Below.refl _ _) | (with_reducible refine below_ov ?_ ?_) | (with_reducible refine Below.setCell ?_ ?_ _) | (with_reducible refine Below.alloc ?_ ?_ _) | (with_reducible refine Below.drew ?_) | (with_reducible refine below_drewN ?_ _) | (refine Below.trans ?_ (Below.mono ‹Below _ _ _› (by first | omega | (simp; done) | (simp; omega)))) | exact Below.refl _ _ | omega | (focus (simp; done)) | (focus (simp; omega))))⟩
  | true =>
    have h1 : (1 ≤ n ∧ n ≤ 999) ∧ f.size ≤ 1000 ∧ b.size ≤ 1000 := by
      have h := e1
      simp only [msgB, nameB, bodyB, Bool.and_eq_true, inB_iff] at h
      omega
    obtain ⟨k, rfl⟩ : ∃ k : Nat, n = k := ⟨n.toNat, by omega⟩
    have HX : Hid (mxS f k b = mtx f k b) := by show _ = _; rw [mxS, e1]; rfl
    go_enter Tryd.func5, Tryd.ntmps5
    go_wp2_with fail
    refine (raOne_any f k b _ hf hb).mono ?_
    rintro e w1 ⟨rfl, hb1⟩
    have hz1 := hb1.size
    (try (simp at hz1))
    rw [e1]
    clear e1
    have p0 := (hb1.cell (p := ⟨w.heap.size, 0, none⟩) (by simp)).trans (World.cell?_alloc_new _ _ _ _)
    have p1 := (hb1.cell (p := ⟨w.heap.size, 1, none⟩) (by simp)).trans (World.cell?_alloc_new _ _ _ _)
    have p2 := (hb1.cell (p := ⟨w.heap.size, 2, none⟩) (by simp)).trans (World.cell?_alloc_new _ _ _ _)
    simp at p0 p1 p2
    have lp : w.heap.size < w1.heap.size := by omega
    go_wp2_with fail
    refine (raText_any f k b _ (by omega) h1.2.1 h1.2.2).mono ?_
    rintro e w2 ⟨rfl, hb2⟩
    have hz2 := hb2.size
    go_wp2_with fail
    go_ret2
    rw [HX.out]
    exact ⟨rfl, (by repeat (first | (with_reducible exact Below.refl _ _) | (with_reducible refine below_ov ?_ ?_) | (with_reducible refine Below.setCell ?_ ?_ _) | (with_reducible refine Below.alloc ?_ ?_ _) | (with_reducible refine Below.drew ?_) | (with_reducible refine below_drewN ?_ _) | (refine Below.trans ?_ (Below.mono ‹Below _ _ _› (by first | omega | (simp; done) | (simp; omega)))) | exact Below.refl _ _ | omega | (focus (simp; done)) | (focus (simp; omega))))⟩

end Go.Proofs.YtkkaknagnhhgcaaDoor
