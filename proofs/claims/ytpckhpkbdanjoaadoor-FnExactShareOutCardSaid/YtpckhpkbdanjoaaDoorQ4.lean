/-
  Texts of this proof, one behind the other (part 4).
-/
import Derived.Test.YtpckhpkbdanjoaaDoorQ3
/-
  Walks: an open cell; a step; the number of a cell.-/
namespace Go.Proofs.YtpckhpkbdanjoaaDoor
set_option linter.unusedVariables false
set_option linter.unusedSimpArgs false
open Go.RowKit

set_option maxRecDepth 100000 in
set_option maxHeartbeats 1600000 in
theorem isOpen_any (F : Nat → ByteArray) (n : Nat) (r c : Int) (lo hi : Nat) (v : Value) (w : World) (hv : Sl w lo hi 1 v n (sC F)) (hhi : hi ≤ w.heap.size) (hg : flB F n = true) :
    Calls Tryd.prog 59 #[v, .agg #[.int .i64 r, .int .i64 c]] w fun e w' => e = .returned (.bool (opB F n r c)) ∧ Below w.heap.size w w' := by
  obtain ⟨A, cap, rfl, hcap, hA⟩ := hv.open_
  obtain ⟨g1, g2, g3, g4, g5, _⟩ := flB_facts hg
  obtain ⟨blk, off, rfl, h1, h2, h3⟩ := hA (by omega)
  have c0 : w.cell? ⟨blk, off, none⟩ = some (.string (F 0)) := by simpa [sC] using h3 0 0 (by omega) (by omega)
  have l0 : blk < w.heap.size := by omega
  have z1 : IntKind.i64.wrap ((n : Int) - 1) = (n : Int) - 1 := IntWalk.i64_in _ (by omega)
  have z2 : IntKind.i64.wrap (((F 0).size : Int) - 1) = ((F 0).size : Int) - 1 := IntWalk.i64_in _ (by omega)
  clear hg hA hv
  cases e1 : inB r 0 ((n : Int) - 1) with
  | false =>
    have HX : Hid (opB F n r c = false) := by show _ = _; simp [opB, e1]
    clear g5 h3
    go_enter Tryd.func59, Tryd.ntmps59
    go_wp2_with fail
    (refine wp_region_below_lit (by kernel_rfl) (by kernel_rfl) ?_; (repeat (first | go_big_quiet_step ((go_at_call 68; exact quiet_ov_same (inside_any _ _ _ _))) | quiet_step ((go_at_call 68; exact quiet_ov_same (inside_any _ _ _ _))))); refine wpQuiet_nil ?_; intro w2 hb2; have hz2 := hb2.size; (try (simp at hz2)); obtain ⟨hcw2, hfw2⟩ := bcell hb2; (try (have hy2 : w.heap.size < w2.heap.size := by omega)); (try (have hyy2 : w.heap.size + 1 < w2.heap.size := by omega)))
    go_wp2_with fail
    go_ret
    exact ⟨ret_bool HX.out.symm, (by repeat (first | (with_reducible exact Below.refl _ _) | (with_reducible refine below_ov ?_ ?_) | (with_reducible refine Below.setCell ?_ ?_ _) | (with_reducible refine Below.alloc ?_ ?_ _) | (with_reducible refine Below.drew ?_) | (with_reducible refine below_drewN ?_ _) | (refine Below.trans ?_ (Below.mono ‹Below _ _ _› (by first | omega | (simp; done) | (simp; omega)))) | exact Below.refl _ _ | omega | (focus (simp; done)) | (focus (simp; omega))))⟩
  | true =>
    cases e2 : inB c 0 (((F 0).size : Int) - 1) with
    | false =>
      have HX : Hid (opB F n r c = false) := by show _ = _; simp [opB, e2]
      clear g5 h3
      go_enter Tryd.func59, Tryd.ntmps59
      go_wp2_with fail
      (refine wp_region_below_lit (by kernel_rfl) (by kernel_rfl) ?_; (repeat (first | go_big_quiet_step ((go_at_call 68; exact quiet_ov_same (inside_any _ _ _ _))) | quiet_step ((go_at_call 68; exact quiet_ov_same (inside_any _ _ _ _))))); refine wpQuiet_nil ?_; intro w2 hb2; have hz2 := hb2.size; (try (simp at hz2)); obtain ⟨hcw2, hfw2⟩ := bcell hb2; (try (have hy2 : w.heap.size < w2.heap.size := by omega)); (try (have hyy2 : w.heap.size + 1 < w2.heap.size := by omega)))
      go_wp2_with fail
      go_ret
      exact ⟨ret_bool HX.out.symm, (by repeat (first | (with_reducible exact Below.refl _ _) | (with_reducible refine below_ov ?_ ?_) | (with_reducible refine Below.setCell ?_ ?_ _) | (with_reducible refine Below.alloc ?_ ?_ _) | (with_reducible refine Below.drew ?_) | (with_reducible refine below_drewN ?_ _) | (refine Below.trans ?_ (Below.mono ‹Below _ _ _› (by first | omega | (simp; done) | (simp; omega)))) | exact Below.refl _ _ | omega | (focus (simp; done)) | (focus (simp; omega))))⟩
    | true =>
      have f1 := inB_iff.1 e1
      have f2 := inB_iff.1 e2
      obtain ⟨i, rfl⟩ : ∃ i : Nat, r = i := ⟨r.toNat, by omega⟩
      obtain ⟨j, rfl⟩ : ∃ j : Nat, c = j := ⟨c.toNat, by omega⟩
      have ck : w.cell? ⟨blk, off + i, none⟩ = some (.string (F i)) := by
        have := h3 i 0 (by omega) (by omega)
        simpa [sC] using this
      have hin : i < n := by omega
      have hj : j < (F i).size := by rw [g5 i hin]; omega
      have hzi : (F i).size ≤ 12 := by rw [g5 i hin]; omega
      have hby := byteAt_eq hj
      have HX : Hid (opB F n i j = decide (byteAt (F i) j = 46)) := by show _ = _; simp [opB, e1, e2]
      cases e3 : decide (byteAt (F i) j = 46) with
      | false =>
        have d3 : (((F i)[j].toNat : Int) == 46) = false := by have := of_decide_eq_false e3; simp; omega
        rw [e3] at HX
        clear g5 h3 hby e3
        go_enter Tryd.func59, Tryd.ntmps59
        go_wp2_with fail
        (refine wp_region_below_lit (by kernel_rfl) (by kernel_rfl) ?_; (repeat (first | go_big_quiet_step ((go_at_call 68; exact quiet_ov_same (inside_any _ _ _ _))) | quiet_step ((go_at_call 68; exact quiet_ov_same (inside_any _ _ _ _))))); refine wpQuiet_nil ?_; intro w2 hb2; have hz2 := hb2.size; (try (simp at hz2)); obtain ⟨hcw2, hfw2⟩ := bcell hb2; (try (have hy2 : w.heap.size < w2.heap.size := by omega)); (try (have hyy2 : w.heap.size + 1 < w2.heap.size := by omega)))
        go_wp2_with fail
        go_ret
        exact ⟨ret_bool HX.out.symm, (by repeat (first | (with_reducible exact Below.refl _ _) | (with_reducible refine below_ov ?_ ?_) | (with_reducible refine Below.setCell ?_ ?_ _) | (with_reducible refine Below.alloc ?_ ?_ _) | (with_reducible refine Below.drew ?_) | (with_reducible refine below_drewN ?_ _) | (refine Below.trans ?_ (Below.mono ‹Below _ _ _› (by first | omega | (simp; done) | (simp; omega)))) | exact Below.refl _ _ | omega | (focus (simp; done)) | (focus (simp; omega))))⟩
      | true =>
        have d3 : (((F i)[j].toNat : Int) == 46) = true := by have := of_decide_eq_true e3; simp; omega
        rw [e3] at HX
        clear g5 h3 hby e3
        go_enter Tryd.func59, Tryd.ntmps59
        go_wp2_with fail
        (refine wp_region_below_lit (by kernel_rfl) (by kernel_rfl) ?_; (repeat (first | go_big_quiet_step ((go_at_call 68; exact quiet_ov_same (inside_any _ _ _ _))) | quiet_step ((go_at_call 68; exact quiet_ov_same (inside_any _ _ _ _))))); refine wpQuiet_nil ?_; intro w2 hb2; have hz2 := hb2.size; (try (simp at hz2)); obtain ⟨hcw2, hfw2⟩ := bcell hb2; (try (have hy2 : w.heap.size < w2.heap.size := by omega)); (try (have hyy2 : w.heap.size + 1 < w2.heap.size := by omega)))
        go_wp2_with fail
        go_ret
        exact ⟨ret_bool HX.out.symm, (by repeat (first | (with_reducible exact Below.refl _ _) | (with_reducible refine below_ov ?_ ?_) | (with_reducible refine Below.setCell ?_ ?_ _) | (with_reducible refine Below.alloc ?_ ?_ _) | (with_reducible refine Below.drew ?_) | (with_reducible refine below_drewN ?_ _) | (refine Below.trans ?_ (Below.mono ‹Below _ _ _› (by first | omega | (simp; done) | (simp; omega)))) | exact Below.refl _ _ | omega | (focus (simp; done)) | (focus (simp; omega))))⟩
set_option maxRecDepth 100000 in
set_option maxHeartbeats 1600000 in
theorem seOpen_any (F : Nat → ByteArray) (n : Nat) (r c : Int) (lo hi : Nat) (v : Value) (w : World) (hv : Sl w lo hi 1 v n (sC F)) (hhi : hi ≤ w.heap.size) (hg : flB F n = true) :
    Calls Tryd.prog 53 #[v, .agg #[.int .i64 r, .int .i64 c]] w fun e w' => e = .returned (.bool (opB F n r c)) ∧ Below w.heap.size w w' := by
  obtain ⟨A, cap, rfl, hcap, hA⟩ := hv.open_
  obtain ⟨g1, g2, g3, g4, g5, _⟩ := flB_facts hg
  obtain ⟨blk, off, rfl, h1, h2, h3⟩ := hA (by omega)
  have c0 : w.cell? ⟨blk, off, none⟩ = some (.string (F 0)) := by simpa [sC] using h3 0 0 (by omega) (by omega)
  have l0 : blk < w.heap.size := by omega
  have z1 : IntKind.i64.wrap ((n : Int) - 1) = (n : Int) - 1 := IntWalk.i64_in _ (by omega)
  have z2 : IntKind.i64.wrap (((F 0).size : Int) - 1) = ((F 0).size : Int) - 1 := IntWalk.i64_in _ (by omega)
  clear hg hA hv
  cases e1 : inB r 0 ((n : Int) - 1) with
  | false =>
    have HX : Hid (opB F n r c = false) := by show _ = _; simp [opB, e1]
    clear g5 h3
    go_enter Tryd.func53, Tryd.ntmps53
    go_wp2_with fail
    (refine wp_region_below_lit (by kernel_rfl) (by kernel_rfl) ?_; (repeat (first | go_big_quiet_step ((go_at_call 66; exact quiet_ov_same (l1In_any _ _ _ _))) | quiet_step ((go_at_call 66; exact quiet_ov_same (l1In_any _ _ _ _))))); refine wpQuiet_nil ?_; intro w2 hb2; have hz2 := hb2.size; (try (simp at hz2)); obtain ⟨hcw2, hfw2⟩ := bcell hb2; (try (have hy2 : w.heap.size < w2.heap.size := by omega)); (try (have hyy2 : w.heap.size + 1 < w2.heap.size := by omega)))
    go_wp2_with fail
    go_ret
    exact ⟨ret_bool HX.out.symm, (by repeat (first | (with_reducible exact Below.refl _ _) | (with_reducible refine below_ov ?_ ?_) | (with_reducible refine Below.setCell ?_ ?_ _) | (with_reducible refine Below.alloc ?_ ?_ _) | (with_reducible refine Below.drew ?_) | (with_reducible refine below_drewN ?_ _) | (refine Below.trans ?_ (Below.mono ‹Below _ _ _› (by first | omega | (simp; done) | (simp; omega)))) | exact Below.refl _ _ | omega | (focus (simp; done)) | (focus (simp; omega))))⟩
  | true =>
    cases e2 : inB c 0 (((F 0).size : Int) - 1) with
    | false =>
      have HX : Hid (opB F n r c = false) := by show _ = _; simp [opB, e2]
      clear g5 h3
      go_enter Tryd.func53, Tryd.ntmps53
      go_wp2_with fail
      (refine wp_region_below_lit (by kernel_rfl) (by kernel_rfl) ?_; (repeat (first | go_big_quiet_step ((go_at_call 66; exact quiet_ov_same (l1In_any _ _ _ _))) | quiet_step ((go_at_call 66; exact quiet_ov_same (l1In_any _ _ _ _))))); refine wpQuiet_nil ?_; intro w2 hb2; have hz2 := hb2.size; (try (simp at hz2)); obtain ⟨hcw2, hfw2⟩ := bcell hb2; (try (have hy2 : w.heap.size < w2.heap.size := by omega)); (try (have hyy2 : w.heap.size + 1 < w2.heap.size := by omega)))
      go_wp2_with fail
      go_ret
      exact ⟨ret_bool HX.out.symm, (by repeat (first | (with_reducible exact Below.refl _ _) | (with_reducible refine below_ov ?_ ?_) | (with_reducible refine Below.setCell ?_ ?_ _) | (with_reducible refine Below.alloc ?_ ?_ _) | (with_reducible refine Below.drew ?_) | (with_reducible refine below_drewN ?_ _) | (refine Below.trans ?_ (Below.mono ‹Below _ _ _› (by first | omega | (simp; done) | (simp; omega)))) | exact Below.refl _ _ | omega | (focus (simp; done)) | (focus (simp; omega))))⟩
    | true =>
      have f1 := inB_iff.1 e1
      have f2 := inB_iff.1 e2
      obtain ⟨i, rfl⟩ : ∃ i : Nat, r = i := ⟨r.toNat, by omega⟩
      obtain ⟨j, rfl⟩ : ∃ j : Nat, c = j := ⟨c.toNat, by omega⟩
      have ck : w.cell? ⟨blk, off + i, none⟩ = some (.string (F i)) := by
        have := h3 i 0 (by omega) (by omega)
        simpa [sC] using this
      have hin : i < n := by omega
      have hj : j < (F i).size := by rw [g5 i hin]; omega
      have hzi : (F i).size ≤ 12 := by rw [g5 i hin]; omega
      have hby := byteAt_eq hj
      have HX : Hid (opB F n i j = decide (byteAt (F i) j = 46)) := by show _ = _; simp [opB, e1, e2]
      cases e3 : decide (byteAt (F i) j = 46) with
      | false =>
        have d3 : (((F i)[j].toNat : Int) == 46) = false := by have := of_decide_eq_false e3; simp; omega
        rw [e3] at HX
        clear g5 h3 hby e3
        go_enter Tryd.func53, Tryd.ntmps53
        go_wp2_with fail
        (refine wp_region_below_lit (by kernel_rfl) (by kernel_rfl) ?_; (repeat (first | go_big_quiet_step ((go_at_call 66; exact quiet_ov_same (l1In_any _ _ _ _))) | quiet_step ((go_at_call 66; exact quiet_ov_same (l1In_any _ _ _ _))))); refine wpQuiet_nil ?_; intro w2 hb2; have hz2 := hb2.size; (try (simp at hz2)); obtain ⟨hcw2, hfw2⟩ := bcell hb2; (try (have hy2 : w.heap.size < w2.heap.size := by omega)); (try (have hyy2 : w.heap.size + 1 < w2.heap.size := by omega)))
        go_wp2_with fail
        go_ret
        exact ⟨ret_bool HX.out.symm, (by repeat (first | (with_reducible exact Below.refl _ _) | (with_reducible refine below_ov ?_ ?_) | (with_reducible refine Below.setCell ?_ ?_ _) | (with_reducible refine Below.alloc ?_ ?_ _) | (with_reducible refine Below.drew ?_) | (with_reducible refine below_drewN ?_ _) | (refine Below.trans ?_ (Below.mono ‹Below _ _ _› (by first | omega | (simp; done) | (simp; omega)))) | exact Below.refl _ _ | omega | (focus (simp; done)) | (focus (simp; omega))))⟩
      | true =>
        have d3 : (((F i)[j].toNat : Int) == 46) = true := by have := of_decide_eq_true e3; simp; omega
        rw [e3] at HX
        clear g5 h3 hby e3
        go_enter Tryd.func53, Tryd.ntmps53
        go_wp2_with fail
        (refine wp_region_below_lit (by kernel_rfl) (by kernel_rfl) ?_; (repeat (first | go_big_quiet_step ((go_at_call 66; exact quiet_ov_same (l1In_any _ _ _ _))) | quiet_step ((go_at_call 66; exact quiet_ov_same (l1In_any _ _ _ _))))); refine wpQuiet_nil ?_; intro w2 hb2; have hz2 := hb2.size; (try (simp at hz2)); obtain ⟨hcw2, hfw2⟩ := bcell hb2; (try (have hy2 : w.heap.size < w2.heap.size := by omega)); (try (have hyy2 : w.heap.size + 1 < w2.heap.size := by omega)))
        go_wp2_with fail
        go_ret
        exact ⟨ret_bool HX.out.symm, (by repeat (first | (with_reducible exact Below.refl _ _) | (with_reducible refine below_ov ?_ ?_) | (with_reducible refine Below.setCell ?_ ?_ _) | (with_reducible refine Below.alloc ?_ ?_ _) | (with_reducible refine Below.drew ?_) | (with_reducible refine below_drewN ?_ _) | (refine Below.trans ?_ (Below.mono ‹Below _ _ _› (by first | omega | (simp; done) | (simp; omega)))) | exact Below.refl _ _ | omega | (focus (simp; done)) | (focus (simp; omega))))⟩
/-- The letter of a direction. -/
def dL (d : Nat) : Int := if d = 0 then 110 else if d = 1 then 101 else if d = 2 then 115 else 119
set_option maxRecDepth 100000 in
set_option maxHeartbeats 1600000 in
theorem stepTo_any (r c : Int) (d : Nat) (w : World) (hd : d < 4) (hr : -1000 ≤ r) (hr' : r ≤ 1000) (hc : -1000 ≤ c) (hc' : c ≤ 1000) :
    Calls Tryd.prog 75 #[.agg #[.int .i64 r, .int .i64 c], .int .u8 (dL d)] w fun e w' => e = .returned (.agg #[.int .i64 (stp (r, c) d).1, .int .i64 (stp (r, c) d).2]) ∧ Below w.heap.size w w' := by
  have h4 : d = 0 ∨ d = 1 ∨ d = 2 ∨ d = 3 := by omega
  rcases h4 with rfl | rfl | rfl | rfl
  · have e : dL 0 = 110 := rfl
    have HE : Hid ((stp (r, c) 0).1 = r - 1 ∧ (stp (r, c) 0).2 = c) := ⟨by simp [stp, dR]; omega, by simp [stp, dC]⟩
    rw [e, HE.out.1, HE.out.2]
    go_enter Tryd.func75, Tryd.ntmps75
    go_wp2_with fail
    exact bodyPost_ret (v := .agg #[.int .i64 (r - 1), .int .i64 c]) (by simp [results, Tryd.results75, go_sem, *]) rfl ⟨rfl, (by repeat (first | (with_reducible exact Below.refl _ _) | (with_reducible refine below_ov ?_ ?_) | (with_reducible refine Below.setCell ?_ ?_ _) | (with_reducible refine Below.alloc ?_ ?_ _) | (with_reducible refine Below.drew ?_) | (with_reducible refine below_drewN ?_ _) | (refine Below.trans ?_ (Below.mono ‹Below _ _ _› (by first | omega | (simp; done) | (simp; omega)))) | exact Below.refl _ _ | omega | (focus (simp; done)) | (focus (simp; omega))))⟩
  · have e : dL 1 = 101 := rfl
    have HE : Hid ((stp (r, c) 1).1 = r ∧ (stp (r, c) 1).2 = c + 1) := ⟨by simp [stp, dR], by simp [stp, dC]⟩
    rw [e, HE.out.1, HE.out.2]
    go_enter Tryd.func75, Tryd.ntmps75
    go_wp2_with fail
    exact bodyPost_ret (v := .agg #[.int .i64 r, .int .i64 (c + 1)]) (by simp [results, Tryd.results75, go_sem, *]) rfl ⟨rfl, (by repeat (first | (with_reducible exact Below.refl _ _) | (with_reducible refine below_ov ?_ ?_) | (with_reducible refine Below.setCell ?_ ?_ _) | (with_reducible refine Below.alloc ?_ ?_ _) | (with_reducible refine Below.drew ?_) | (with_reducible refine below_drewN ?_ _) | (refine Below.trans ?_ (Below.mono ‹Below _ _ _› (by first | omega | (simp; done) | (simp; omega)))) | exact Below.refl _ _ | omega | (focus (simp; done)) | (focus (simp; omega))))⟩
  · have e : dL 2 = 115 := rfl
    have HE : Hid ((stp (r, c) 2).1 = r + 1 ∧ (stp (r, c) 2).2 = c) := ⟨by simp [stp, dR], by simp [stp, dC]⟩
    rw [e, HE.out.1, HE.out.2]
    go_enter Tryd.func75, Tryd.ntmps75
    go_wp2_with fail
    exact bodyPost_ret (v := .agg #[.int .i64 (r + 1), .int .i64 c]) (by simp [results, Tryd.results75, go_sem, *]) rfl ⟨rfl, (by repeat (first | (with_reducible exact Below.refl _ _) | (with_reducible refine below_ov ?_ ?_) | (with_reducible refine Below.setCell ?_ ?_ _) | (with_reducible refine Below.alloc ?_ ?_ _) | (with_reducible refine Below.drew ?_) | (with_reducible refine below_drewN ?_ _) | (refine Below.trans ?_ (Below.mono ‹Below _ _ _› (by first | omega | (simp; done) | (simp; omega)))) | exact Below.refl _ _ | omega | (focus (simp; done)) | (focus (simp; omega))))⟩
  · have e : dL 3 = 119 := rfl
    have HE : Hid ((stp (r, c) 3).1 = r ∧ (stp (r, c) 3).2 = c - 1) := ⟨by simp [stp, dR], by simp [stp, dC]; omega⟩
    rw [e, HE.out.1, HE.out.2]
    go_enter Tryd.func75, Tryd.ntmps75
    go_wp2_with fail
    exact bodyPost_ret (v := .agg #[.int .i64 r, .int .i64 (c - 1)]) (by simp [results, Tryd.results75, go_sem, *]) rfl ⟨rfl, (by repeat (first | (with_reducible exact Below.refl _ _) | (with_reducible refine below_ov ?_ ?_) | (with_reducible refine Below.setCell ?_ ?_ _) | (with_reducible refine Below.alloc ?_ ?_ _) | (with_reducible refine Below.drew ?_) | (with_reducible refine below_drewN ?_ _) | (refine Below.trans ?_ (Below.mono ‹Below _ _ _› (by first | omega | (simp; done) | (simp; omega)))) | exact Below.refl _ _ | omega | (focus (simp; done)) | (focus (simp; omega))))⟩
set_option maxRecDepth 100000 in
set_option maxHeartbeats 1600000 in
theorem seStep_any (r c : Int) (d : Nat) (w : World) (hd : d < 4) (hr : -1000 ≤ r) (hr' : r ≤ 1000) (hc : -1000 ≤ c) (hc' : c ≤ 1000) :
    Calls Tryd.prog 85 #[.agg #[.int .i64 r, .int .i64 c], .int .i64 d] w fun e w' => e = .returned (.agg #[.int .i64 (stp (r, c) d).1, .int .i64 (stp (r, c) d).2]) ∧ Below w.heap.size w w' := by
  have h4 : d = 0 ∨ d = 1 ∨ d = 2 ∨ d = 3 := by omega
  rcases h4 with rfl | rfl | rfl | rfl
  · have HE : Hid ((stp (r, c) 0).1 = r - 1 ∧ (stp (r, c) 0).2 = c) := ⟨by simp [stp, dR]; omega, by simp [stp, dC]⟩
    rw [HE.out.1, HE.out.2]
    go_enter Tryd.func85, Tryd.ntmps85
    go_wp2_with fail
    exact bodyPost_ret (v := .agg #[.int .i64 (r - 1), .int .i64 c]) (by simp [results, Tryd.results85, go_sem, *]) rfl ⟨rfl, (by repeat (first | (with_reducible exact Below.refl _ _) | (with_reducible refine below_ov ?_ ?_) | (with_reducible refine Below.setCell ?_ ?_ _) | (with_reducible refine Below.alloc ?_ ?_ _) | (with_reducible refine Below.drew ?_) | (with_reducible refine below_drewN ?_ _) | (refine Below.trans ?_ (Below.mono ‹Below _ _ _› (by first | omega | (simp; done) | (simp; omega)))) | exact Below.refl _ _ | omega | (focus (simp; done)) | (focus (simp; omega))))⟩
  · have HE : Hid ((stp (r, c) 1).1 = r ∧ (stp (r, c) 1).2 = c + 1) := ⟨by simp [stp, dR], by simp [stp, dC]⟩
    rw [HE.out.1, HE.out.2]
    go_enter Tryd.func85, Tryd.ntmps85
    go_wp2_with fail
    exact bodyPost_ret (v := .agg #[.int .i64 r, .int .i64 (c + 1)]) (by simp [results, Tryd.results85, go_sem, *]) rfl ⟨rfl, (by repeat (first | (with_reducible exact Below.refl _ _) | (with_reducible refine below_ov ?_ ?_) | (with_reducible refine Below.setCell ?_ ?_ _) | (with_reducible refine Below.alloc ?_ ?_ _) | (with_reducible refine Below.drew ?_) | (with_reducible refine below_drewN ?_ _) | (refine Below.trans ?_ (Below.mono ‹Below _ _ _› (by first | omega | (simp; done) | (simp; omega)))) | exact Below.refl _ _ | omega | (focus (simp; done)) | (focus (simp; omega))))⟩
  · have HE : Hid ((stp (r, c) 2).1 = r + 1 ∧ (stp (r, c) 2).2 = c) := ⟨by simp [stp, dR], by simp [stp, dC]⟩
    rw [HE.out.1, HE.out.2]
    go_enter Tryd.func85, Tryd.ntmps85
    go_wp2_with fail
    exact bodyPost_ret (v := .agg #[.int .i64 (r + 1), .int .i64 c]) (by simp [results, Tryd.results85, go_sem, *]) rfl ⟨rfl, (by repeat (first | (with_reducible exact Below.refl _ _) | (with_reducible refine below_ov ?_ ?_) | (with_reducible refine Below.setCell ?_ ?_ _) | (with_reducible refine Below.alloc ?_ ?_ _) | (with_reducible refine Below.drew ?_) | (with_reducible refine below_drewN ?_ _) | (refine Below.trans ?_ (Below.mono ‹Below _ _ _› (by first | omega | (simp; done) | (simp; omega)))) | exact Below.refl _ _ | omega | (focus (simp; done)) | (focus (simp; omega))))⟩
  · have HE : Hid ((stp (r, c) 3).1 = r ∧ (stp (r, c) 3).2 = c - 1) := ⟨by simp [stp, dR], by simp [stp, dC]; omega⟩
    rw [HE.out.1, HE.out.2]
    go_enter Tryd.func85, Tryd.ntmps85
    go_wp2_with fail
    exact bodyPost_ret (v := .agg #[.int .i64 r, .int .i64 (c - 1)]) (by simp [results, Tryd.results85, go_sem, *]) rfl ⟨rfl, (by repeat (first | (with_reducible exact Below.refl _ _) | (with_reducible refine below_ov ?_ ?_) | (with_reducible refine Below.setCell ?_ ?_ _) | (with_reducible refine Below.alloc ?_ ?_ _) | (with_reducible refine Below.drew ?_) | (with_reducible refine below_drewN ?_ _) | (refine Below.trans ?_ (Below.mono ‹Below _ _ _› (by first | omega | (simp; done) | (simp; omega)))) | exact Below.refl _ _ | omega | (focus (simp; done)) | (focus (simp; omega))))⟩
theorem mulN_bd {i n W : Nat} (h : i < n) (h2 : n ≤ 12) (h4 : W ≤ 12) : (0 : Int) ≤ (i : Int) * (W : Int) ∧ (i : Int) * (W : Int) ≤ 144 := by
  have h5 : i * W ≤ 12 * 12 := Nat.mul_le_mul (by omega) h4
  have h6 : ((i * W : Nat) : Int) = (i : Int) * (W : Int) := by push_cast; rfl
  omega
set_option maxRecDepth 100000 in
set_option maxHeartbeats 1600000 in
theorem seIndex_any (F : Nat → ByteArray) (n : Nat) (r c : Int) (lo hi : Nat) (v : Value) (w : World) (hv : Sl w lo hi 1 v n (sC F)) (hhi : hi ≤ w.heap.size) (hg : flB F n = true) (ho : opB F n r c = true) :
    Calls Tryd.prog 91 #[v, .agg #[.int .i64 r, .int .i64 c]] w fun e w' => e = .returned (.int .i64 (ixF F (r, c))) ∧ Below w.heap.size w w' := by
  obtain ⟨A, cap, rfl, hcap, hA⟩ := hv.open_
  obtain ⟨g1, g2, g3, g4, _, _⟩ := flB_facts hg
  obtain ⟨blk, off, rfl, h1, h2, h3⟩ := hA (by omega)
  have c0 : w.cell? ⟨blk, off, none⟩ = some (.string (F 0)) := by simpa [sC] using h3 0 0 (by omega) (by omega)
  have l0 : blk < w.heap.size := by omega
  have HE : Hid (r * ((F 0).size : Int) + c = (ixF F (r, c) : Int)) := ix_cast (p := (r, c)) ho
  obtain ⟨i, j, rfl, rfl, f1, f2, _⟩ := opB_nat ho
  have hm := mulN_bd f1 g2 g4
  have z1 : IntKind.i64.wrap ((i : Int) * ((F 0).size : Int)) = (i : Int) * ((F 0).size : Int) := IntWalk.i64_in _ (by omega)
  have z2 : IntKind.i64.wrap ((i : Int) * ((F 0).size : Int) + (j : Int)) = (i : Int) * ((F 0).size : Int) + (j : Int) := IntWalk.i64_in _ (by omega)
  clear hg hA hv h3 ho hm
  go_enter Tryd.func91, Tryd.ntmps91
  go_wp2_with fail
  (refine wp_region_below_lit (by kernel_rfl) (by kernel_rfl) ?_; (repeat (first | go_big_quiet_step ((fail)) | quiet_step ((fail)))); refine wpQuiet_nil ?_; intro w2 hb2; have hz2 := hb2.size; (try (simp at hz2)); obtain ⟨hcw2, hfw2⟩ := bcell hb2; (try (have hy2 : w.heap.size < w2.heap.size := by omega)); (try (have hyy2 : w.heap.size + 1 < w2.heap.size := by omega)))
  go_wp2_with fail
  go_ret
  exact ⟨ret_int HE.out, (by repeat (first | (with_reducible exact Below.refl _ _) | (with_reducible refine below_ov ?_ ?_) | (with_reducible refine Below.setCell ?_ ?_ _) | (with_reducible refine Below.alloc ?_ ?_ _) | (with_reducible refine Below.drew ?_) | (with_reducible refine below_drewN ?_ _) | (refine Below.trans ?_ (Below.mono ‹Below _ _ _› (by first | omega | (simp; done) | (simp; omega)))) | exact Below.refl _ _ | omega | (focus (simp; done)) | (focus (simp; omega))))⟩
def ioR (F : Nat → ByteArray) (n : Nat) (r c : Int) : Bool := flB F n && opB F n r c
set_option maxRecDepth 100000 in
set_option maxHeartbeats 1600000 in
theorem IsOpenCell_impl (F : Nat → ByteArray) (n : Nat) (r c : Int) (lo hi : Nat) (v : Value) (w : World) (hv : Sl w lo hi 1 v n (sC F)) (hhi : hi ≤ w.heap.size) (hf : ffits F n) :
    Calls Tryd.prog 42 #[v, .agg #[.int .i64 r, .int .i64 c]] w fun e w' => e = .returned (.tuple #[.bool (ioR F n r c), .bool (flB F n)]) ∧ Below w.heap.size w w' := by
  obtain ⟨A, cap, rfl, hcap, hA⟩ := hv.open_
  cases e1 : flB F n with
  | false =>
    have HX : Hid (ioR F n r c = false) := by show _ = _; rw [ioR, e1]; rfl
    go_enter Tryd.func42, Tryd.ntmps42
    go_wp2_with fail
    refine (isFloor_any F n lo hi _ _ (hv.below (B := w.heap.size) (by repeat (first | (with_reducible exact Below.refl _ _) | (with_reducible refine below_ov ?_ ?_) | (with_reducible refine Below.setCell ?_ ?_ _) | (with_reducible refine Below.alloc ?_ ?_ _) | (with_reducible refine Below.drew ?_) | (with_reducible refine below_drewN ?_ _) | (refine Below.trans ?_ (Below.mono ‹Below _ _ _› (by first | omega | (simp; done) | (simp; omega)))) | exact Below.refl _ _ | omega | (focus (simp; done)) | (focus (simp; omega)))) hhi) (by first | omega | (simp; done) | (simp; omega)) hf).mono ?_
    rintro e w1 ⟨rfl, hb1⟩
    have hz1 := hb1.size
    rw [e1]
    go_wp2_with fail
    go_ret2
    rw [HX.out]
    exact ⟨rfl, (by repeat (first | (with_reducible exact Below.refl _ _) | (with_reducible refine below_ov ?_ ?_) | (with_reducible refine Below.setCell ?_ ?_ _) | (with_reducible refine Below.alloc ?_ ?_ _) | (with_reducible refine Below.drew ?_) | (with_reducible refine below_drewN ?_ _) | (refine Below.trans ?_ (Below.mono ‹Below _ _ _› (by first | omega | (simp; done) | (simp; omega)))) | exact Below.refl _ _ | omega | (focus (simp; done)) | (focus (simp; omega))))⟩
  | true =>
    have HX : Hid (ioR F n r c = opB F n r c) := by show _ = _; rw [ioR, e1]; rfl
    have HG := hide e1
    go_enter Tryd.func42, Tryd.ntmps42
    go_wp2_with fail
    refine (isFloor_any F n lo hi _ _ (hv.below (B := w.heap.size) (by repeat (first | (with_reducible exact Below.refl _ _) | (with_reducible refine below_ov ?_ ?_) | (with_reducible refine Below.setCell ?_ ?_ _) | (with_reducible refine Below.alloc ?_ ?_ _) | (with_reducible refine Below.drew ?_) | (with_reducible refine below_drewN ?_ _) | (refine Below.trans ?_ (Below.mono ‹Below _ _ _› (by first | omega | (simp; done) | (simp; omega)))) | exact Below.refl _ _ | omega | (focus (simp; done)) | (focus (simp; omega)))) hhi) (by first | omega | (simp; done) | (simp; omega)) hf).mono ?_
    rintro e w1 ⟨rfl, hb1⟩
    have hz1 := hb1.size
    (try (simp at hz1))
    rw [e1]
    clear e1
    have px0 := (hb1.cell (p := ⟨w.heap.size, 0, none⟩) (by simp)).trans (World.cell?_alloc_new _ _ _ _)
    have px1 := (hb1.cell (p := ⟨w.heap.size, 1, none⟩) (by simp)).trans (World.cell?_alloc_new _ _ _ _)
    simp at px0 px1
    have lp : w.heap.size < w1.heap.size := by omega
    go_wp2_with fail
    refine (isOpen_any F n r c lo hi _ _ (hv.below (B := w.heap.size) (by repeat (first | (with_reducible exact Below.refl _ _) | (with_reducible refine below_ov ?_ ?_) | (with_reducible refine Below.setCell ?_ ?_ _) | (with_reducible refine Below.alloc ?_ ?_ _) | (with_reducible refine Below.drew ?_) | (with_reducible refine below_drewN ?_ _) | (refine Below.trans ?_ (Below.mono ‹Below _ _ _› (by first | omega | (simp; done) | (simp; omega)))) | exact Below.refl _ _ | omega | (focus (simp; done)) | (focus (simp; omega)))) hhi) (by first | omega | (simp; done) | (simp; omega)) HG.out).mono ?_
    rintro e w2 ⟨rfl, hb2⟩
    have hz2 := hb2.size
    go_wp2_with fail
    go_ret2
    rw [HX.out]
    exact ⟨rfl, (by repeat (first | (with_reducible exact Below.refl _ _) | (with_reducible refine below_ov ?_ ?_) | (with_reducible refine Below.setCell ?_ ?_ _) | (with_reducible refine Below.alloc ?_ ?_ _) | (with_reducible refine Below.drew ?_) | (with_reducible refine below_drewN ?_ _) | (refine Below.trans ?_ (Below.mono ‹Below _ _ _› (by first | omega | (simp; done) | (simp; omega)))) | exact Below.refl _ _ | omega | (focus (simp; done)) | (focus (simp; omega))))⟩
set_option maxRecDepth 100000 in
set_option maxHeartbeats 1600000 in
theorem IsOpenCell_spec (F : Nat → ByteArray) (n : Nat) (r c : Int) (lo hi : Nat) (v : Value) (w : World) (hv : Sl w lo hi 1 v n (sC F)) (hhi : hi ≤ w.heap.size) (hf : ffits F n) :
    Calls Tryd.prog 43 #[v, .agg #[.int .i64 r, .int .i64 c]] w fun e w' => e = .returned (.tuple #[.bool (ioR F n r c), .bool (flB F n)]) ∧ Below w.heap.size w w' := by
  obtain ⟨A, cap, rfl, hcap, hA⟩ := hv.open_
  cases e1 : flB F n with
  | false =>
    have HX : Hid (ioR F n r c = false) := by show _ = _; rw [ioR, e1]; rfl
    go_enter Tryd.func43, Tryd.ntmps43
    go_wp2_with fail
    refine (seGood_any F n lo hi _ _ (hv.below (B := w.heap.size) (by repeat (first | (with_reducible exact Below.refl _ _) | (with_reducible refine below_ov ?_ ?_) | (with_reducible refine Below.setCell ?_ ?_ _) | (with_reducible refine Below.alloc ?_ ?_ _) | (with_reducible refine Below.drew ?_) | (with_reducible refine below_drewN ?_ _) | (refine Below.trans ?_ (Below.mono ‹Below _ _ _› (by first | omega | (simp; done) | (simp; omega)))) | exact Below.refl _ _ | omega | (focus (simp; done)) | (focus (simp; omega)))) hhi) (by first | omega | (simp; done) | (simp; omega)) hf).mono ?_
    rintro e w1 ⟨rfl, hb1⟩
    have hz1 := hb1.size
    rw [e1]
    go_wp2_with fail
    go_ret2
    rw [HX.out]
    exact ⟨rfl, (by repeat (first | (with_reducible exact Below.refl _ _) | (with_reducible refine below_ov ?_ ?_) | (with_reducible refine Below.setCell ?_ ?_ _) | (with_reducible refine Below.alloc ?_ ?_ _) | (with_reducible refine Below.drew ?_) | (with_reducible refine below_drewN ?_ _) | (refine Below.trans ?_ (Below.mono ‹Below _ _ _› (by first | omega | (simp; done) | (simp; omega)))) | exact Below.refl _ _ | omega | (focus (simp; done)) | (focus (simp; omega))))⟩
  | true =>
    have HX : Hid (ioR F n r c = opB F n r c) := by show _ = _; rw [ioR, e1]; rfl
    have HG := hide e1
    go_enter Tryd.func43, Tryd.ntmps43
    go_wp2_with fail
    refine (seGood_any F n lo hi _ _ (hv.below (B := w.heap.size) (by repeat (first | (with_reducible exact Below.refl _ _) | (with_reducible refine below_ov ?_ ?_) | (with_reducible refine Below.setCell ?_ ?_ _) | (with_reducible refine Below.alloc ?_ ?_ _) | (with_reducible refine Below.drew ?_) | (with_reducible refine below_drewN ?_ _) | (refine Below.trans ?_ (Below.mono ‹Below _ _ _› (by first | omega | (simp; done) | (simp; omega)))) | exact Below.refl _ _ | omega | (focus (simp; done)) | (focus (simp; omega)))) hhi) (by first | omega | (simp; done) | (simp; omega)) hf).mono ?_
    rintro e w1 ⟨rfl, hb1⟩
    have hz1 := hb1.size
    (try (simp at hz1))
    rw [e1]
    clear e1
    have px0 := (hb1.cell (p := ⟨w.heap.size, 0, none⟩) (by simp)).trans (World.cell?_alloc_new _ _ _ _)
    have px1 := (hb1.cell (p := ⟨w.heap.size, 1, none⟩) (by simp)).trans (World.cell?_alloc_new _ _ _ _)
    simp at px0 px1
    have lp : w.heap.size < w1.heap.size := by omega
    go_wp2_with fail
    refine (seOpen_any F n r c lo hi _ _ (hv.below (B := w.heap.size) (by repeat (first | (with_reducible exact Below.refl _ _) | (with_reducible refine below_ov ?_ ?_) | (with_reducible refine Below.setCell ?_ ?_ _) | (with_reducible refine Below.alloc ?_ ?_ _) | (with_reducible refine Below.drew ?_) | (with_reducible refine below_drewN ?_ _) | (refine Below.trans ?_ (Below.mono ‹Below _ _ _› (by first | omega | (simp; done) | (simp; omega)))) | exact Below.refl _ _ | omega | (focus (simp; done)) | (focus (simp; omega)))) hhi) (by first | omega | (simp; done) | (simp; omega)) HG.out).mono ?_
    rintro e w2 ⟨rfl, hb2⟩
    have hz2 := hb2.size
    go_wp2_with fail
    go_ret2
    rw [HX.out]
    exact ⟨rfl, (by repeat (first | (with_reducible exact Below.refl _ _) | (with_reducible refine below_ov ?_ ?_) | (with_reducible refine Below.setCell ?_ ?_ _) | (with_reducible refine Below.alloc ?_ ?_ _) | (with_reducible refine Below.drew ?_) | (with_reducible refine below_drewN ?_ _) | (refine Below.trans ?_ (Below.mono ‹Below _ _ _› (by first | omega | (simp; done) | (simp; omega)))) | exact Below.refl _ _ | omega | (focus (simp; done)) | (focus (simp; omega))))⟩

end Go.Proofs.YtpckhpkbdanjoaaDoor

/-
  Walks: the library's search of a list of cells, at the closures of SearchedCells.-/
namespace Go.Proofs.YtpckhpkbdanjoaaDoor
set_option linter.unusedVariables false
set_option linter.unusedSimpArgs false
open Go.RowKit

set_option maxHeartbeats 800000 in
theorem near1_any (x y a b : Int) (rb cb : Nat) (w : World) (hr : w.cell? ⟨rb, 0, none⟩ = some (.int .i64 x)) (hc : w.cell? ⟨cb, 0, none⟩ = some (.int .i64 y)) (lr : rb < w.heap.size) (lc : cb < w.heap.size)
    (hx : 0 ≤ x) (hx' : x ≤ 1000) (hy : 0 ≤ y) (hy' : y ≤ 1000) (hp : (0 ≤ a ∧ a ≤ 1000) ∧ 0 ≤ b ∧ b ≤ 1000) :
    Calls Tryd.prog 94 #[.agg #[.int .i64 a, .int .i64 b], .pointer (some ⟨rb, 0, none⟩), .pointer (some ⟨cb, 0, none⟩)] w fun e w' => e = .returned (.bool (nearB x y a b)) ∧ Below w.heap.size w w' := by
  have z1 : IntKind.i64.wrap (a - x) = a - x := IntWalk.i64_in _ (by omega)
  have z2 : IntKind.i64.wrap (b - y) = b - y := IntWalk.i64_in _ (by omega)
  cases e1 : inB (a - x) (-1) 1 with
  | false =>
    have HG : Hid (nearB x y a b = false) := by show _ = _; rw [nearB, e1]; rfl
    go_enter Tryd.func94, Tryd.ntmps94
    go_wp2_with (first | (go_at_call 68; refine (inside_any _ _ _ _).mono ?_; rintro e w' ⟨rfl, rfl⟩))
    go_ret
    exact ⟨ret_bool HG.out.symm, (by repeat (first | (with_reducible exact Below.refl _ _) | (with_reducible refine below_ov ?_ ?_) | (with_reducible refine Below.setCell ?_ ?_ _) | (with_reducible refine Below.alloc ?_ ?_ _) | (with_reducible refine Below.drew ?_) | (with_reducible refine below_drewN ?_ _) | (refine Below.trans ?_ (Below.mono ‹Below _ _ _› (by first | omega | (simp; done) | (simp; omega)))) | exact Below.refl _ _ | omega | (focus (simp; done)) | (focus (simp; omega))))⟩
  | true =>
    have HG : Hid (nearB x y a b = inB (b - y) (-1) 1) := by show _ = _; rw [nearB, e1]; rfl
    go_enter Tryd.func94, Tryd.ntmps94
    go_wp2_with (first | (go_at_call 68; refine (inside_any _ _ _ _).mono ?_; rintro e w' ⟨rfl, rfl⟩))
    go_ret
    exact ⟨ret_bool HG.out.symm, (by repeat (first | (with_reducible exact Below.refl _ _) | (with_reducible refine below_ov ?_ ?_) | (with_reducible refine Below.setCell ?_ ?_ _) | (with_reducible refine Below.alloc ?_ ?_ _) | (with_reducible refine Below.drew ?_) | (with_reducible refine below_drewN ?_ _) | (refine Below.trans ?_ (Below.mono ‹Below _ _ _› (by first | omega | (simp; done) | (simp; omega)))) | exact Below.refl _ _ | omega | (focus (simp; done)) | (focus (simp; omega))))⟩
set_option maxRecDepth 100000 in
set_option maxHeartbeats 1600000 in
theorem IndexFuncN_any (x y : Int) (rb cb : Nat) (p q : Nat → Int) (m lo2 hi2 : Nat) (u : Value) (w : World) (hu : Sl w lo2 hi2 2 u m (iiC p q)) (hhi2 : hi2 ≤ w.heap.size) (hm : m ≤ 1048576) (hr : w.cell? ⟨rb, 0, none⟩ = some (.int .i64 x)) (hc : w.cell? ⟨cb, 0, none⟩ = some (.int .i64 y)) (lr : rb < w.heap.size) (lc : cb < w.heap.size) (hx : 0 ≤ x) (hx' : x ≤ 1000) (hy : 0 ≤ y) (hy' : y ≤ 1000) (hp : ∀ t, t < m → (0 ≤ p t ∧ p t ≤ 1000) ∧ 0 ≤ q t ∧ q t ≤ 1000) :
    Calls Tryd.prog 93 #[u, .func (.func 94) #[] #[.pointer (some ⟨rb, 0, none⟩), .pointer (some ⟨cb, 0, none⟩)]] w fun e w' => e = .returned (.int .i64 (fstI (fun t => nearB x y (p t) (q t)) m)) ∧ Below w.heap.size w w' := by
  obtain ⟨A, cap, rfl, hcap, hA⟩ := hu.open_
  clear hu
  go_enter Tryd.func93, Tryd.ntmps93
  go_wp2_with fail
  go_loopw [8] (fun i wr => ∃ k : Nat, k ≤ m ∧ i = .int .i64 k ∧ Hid (∀ j, j < k → (fun t => nearB x y (p t) (q t)) j = false) ∧ Below w.heap.size w wr) (fun i _ => m - (intOf i).toNat)
  case atStart => exact ⟨0, by omega, rfl, fun j hj => by omega, Below.refl _ _⟩
  case round =>
    obtain ⟨k, hk, rfl, hj, hb⟩ := hrel
    have hzr := hb.size
    by_cases hkn : k < m
    · obtain ⟨blk, off, rfl, h1, h2, h3⟩ := (hA.below hb (by omega)) (by omega)
      have c0 : wr.cell? ⟨blk, off + k * 2, none⟩ = some (.int .i64 (p k)) := by simpa [iiC] using h3 k 0 hkn (by omega)
      have c1 : wr.cell? ⟨blk, off + k * 2 + 1, none⟩ = some (.int .i64 (q k)) := by simpa [iiC] using h3 k 1 hkn (by omega)
      clear h3 hA
      obtain ⟨tst, htst⟩ : ∃ b, (fun t => nearB x y (p t) (q t)) k = b := ⟨_, rfl⟩
      have HT := hide htst
      have hcon := near1_any x y (p k) (q k) rb cb wr ((hb.cell (p := ⟨rb, 0, none⟩) lr).trans hr) ((hb.cell (p := ⟨cb, 0, none⟩) lc).trans hc) (by omega) (by omega) hx hx' hy hy' (hp k hkn)
      rw [show nearB x y (p k) (q k) = tst from htst] at hcon
      clear htst
      cases tst with
      | false =>
        go_wp2_with fail
        refine hcon.mono ?_
        rintro e w2 ⟨rfl, hb2⟩
        have hz2 := hb2.size
        have hbw : Below w.heap.size w w2 := hb.trans (hb2.mono hzr)
        go_wp2_with fail
        go_roundw
        case rel => exact ⟨k + 1, by omega, by go_num, upto_snocF hj.out HT.out, hbw⟩
        case measure => simp [intOf]; omega
      | true =>
        have HG : Hid (fstI (fun t => nearB x y (p t) (q t)) m = k) := fstI_at hkn hj.out HT.out
        go_wp2_with fail
        refine hcon.mono ?_
        rintro e w2 ⟨rfl, hb2⟩
        have hbw : Below w.heap.size w w2 := hb.trans (hb2.mono hzr)
        go_wp2_with fail
        go_ret
        exact ⟨ret_int HG.out.symm, hbw⟩
    · obtain rfl : k = m := by omega
      go_wp2_with fail
      go_ret
      exact ⟨ret_int (fstI_none hj.out).symm, hb⟩
set_option maxHeartbeats 800000 in
theorem ContainsFuncN_any (x y : Int) (rb cb : Nat) (p q : Nat → Int) (m lo2 hi2 : Nat) (u : Value) (w : World) (hu : Sl w lo2 hi2 2 u m (iiC p q)) (hhi2 : hi2 ≤ w.heap.size) (hm : m ≤ 1048576) (hr : w.cell? ⟨rb, 0, none⟩ = some (.int .i64 x)) (hc : w.cell? ⟨cb, 0, none⟩ = some (.int .i64 y)) (lr : rb < w.heap.size) (lc : cb < w.heap.size) (hx : 0 ≤ x) (hx' : x ≤ 1000) (hy : 0 ≤ y) (hy' : y ≤ 1000) (hp : ∀ t, t < m → (0 ≤ p t ∧ p t ≤ 1000) ∧ 0 ≤ q t ∧ q t ≤ 1000) :
    Calls Tryd.prog 57 #[u, .func (.func 94) #[] #[.pointer (some ⟨rb, 0, none⟩), .pointer (some ⟨cb, 0, none⟩)]] w fun e w' => e = .returned (.bool (decide (0 ≤ fstI (fun t => nearB x y (p t) (q t)) m))) ∧ Below w.heap.size w w' := by
  obtain ⟨A, cap, rfl, hcap, hA⟩ := id hu.open_
  go_enter Tryd.func57, Tryd.ntmps57
  go_wp2_with fail
  refine (IndexFuncN_any x y rb cb p q m lo2 hi2 _ w hu hhi2 hm hr hc lr lc hx hx' hy hy' hp).mono ?_
  rintro e w2 ⟨rfl, hb2⟩
  go_wp2_with fail
  go_ret
  exact ⟨ret_bool (by first | rfl | (simp [ge_iff_le])), hb2⟩
set_option maxHeartbeats 800000 in
theorem nopen1_any (F : Nat → ByteArray) (n lo hi : Nat) (v : Value) (a b : Int) (fb : Nat) (w : World) (hv : Sl w lo hi 1 v n (sC F)) (hhi : hi ≤ w.heap.size) (hg : flB F n = true) (hf : w.cell? ⟨fb, 0, none⟩ = some v) (lf : fb < w.heap.size) :
    Calls Tryd.prog 58 #[.agg #[.int .i64 a, .int .i64 b], .pointer (some ⟨fb, 0, none⟩)] w fun e w' => e = .returned (.bool (!opB F n a b)) ∧ Below w.heap.size w w' := by
  obtain ⟨A, cap, rfl, hcap, hA⟩ := id hv.open_
  go_enter Tryd.func58, Tryd.ntmps58
  go_wp2_with fail
  refine (isOpen_any F n a b lo hi _ _ (hv.below (B := w.heap.size) (by repeat (first | (with_reducible exact Below.refl _ _) | (with_reducible refine below_ov ?_ ?_) | (with_reducible refine Below.setCell ?_ ?_ _) | (with_reducible refine Below.alloc ?_ ?_ _) | (with_reducible refine Below.drew ?_) | (with_reducible refine below_drewN ?_ _) | (refine Below.trans ?_ (Below.mono ‹Below _ _ _› (by first | omega | (simp; done) | (simp; omega)))) | exact Below.refl _ _ | omega | (focus (simp; done)) | (focus (simp; omega)))) hhi) (by first | omega | (simp; done) | (simp; omega)) hg).mono ?_
  rintro e w1 ⟨rfl, hb1⟩
  have hz1 := hb1.size
  go_wp2_with fail
  go_ret
  exact ⟨rfl, (by repeat (first | (with_reducible exact Below.refl _ _) | (with_reducible refine below_ov ?_ ?_) | (with_reducible refine Below.setCell ?_ ?_ _) | (with_reducible refine Below.alloc ?_ ?_ _) | (with_reducible refine Below.drew ?_) | (with_reducible refine below_drewN ?_ _) | (refine Below.trans ?_ (Below.mono ‹Below _ _ _› (by first | omega | (simp; done) | (simp; omega)))) | exact Below.refl _ _ | omega | (focus (simp; done)) | (focus (simp; omega))))⟩
set_option maxRecDepth 100000 in
set_option maxHeartbeats 1600000 in
theorem IndexFuncO_any (F : Nat → ByteArray) (n lo hi : Nat) (v : Value) (fb : Nat) (p q : Nat → Int) (m lo2 hi2 : Nat) (u : Value) (w : World) (hu : Sl w lo2 hi2 2 u m (iiC p q)) (hhi2 : hi2 ≤ w.heap.size) (hm : m ≤ 1048576) (hv : Sl w lo hi 1 v n (sC F)) (hhi : hi ≤ w.heap.size) (hg : flB F n = true) (hf : w.cell? ⟨fb, 0, none⟩ = some v) (lf : fb < w.heap.size) :
    Calls Tryd.prog 93 #[u, .func (.func 58) #[] #[.pointer (some ⟨fb, 0, none⟩)]] w fun e w' => e = .returned (.int .i64 (fstI (fun t => !opB F n (p t) (q t)) m)) ∧ Below w.heap.size w w' := by
  obtain ⟨A, cap, rfl, hcap, hA⟩ := hu.open_
  clear hu
  go_enter Tryd.func93, Tryd.ntmps93
  go_wp2_with fail
  go_loopw [8] (fun i wr => ∃ k : Nat, k ≤ m ∧ i = .int .i64 k ∧ Hid (∀ j, j < k → (fun t => !opB F n (p t) (q t)) j = false) ∧ Below w.heap.size w wr) (fun i _ => m - (intOf i).toNat)
  case atStart => exact ⟨0, by omega, rfl, fun j hj => by omega, Below.refl _ _⟩
  case round =>
    obtain ⟨k, hk, rfl, hj, hb⟩ := hrel
    have hzr := hb.size
    by_cases hkn : k < m
    · obtain ⟨blk, off, rfl, h1, h2, h3⟩ := (hA.below hb (by omega)) (by omega)
      have c0 : wr.cell? ⟨blk, off + k * 2, none⟩ = some (.int .i64 (p k)) := by simpa [iiC] using h3 k 0 hkn (by omega)
      have c1 : wr.cell? ⟨blk, off + k * 2 + 1, none⟩ = some (.int .i64 (q k)) := by simpa [iiC] using h3 k 1 hkn (by omega)
      clear h3 hA
      obtain ⟨tst, htst⟩ : ∃ b, (fun t => !opB F n (p t) (q t)) k = b := ⟨_, rfl⟩
      have HT := hide htst
      have hcon := nopen1_any F n lo hi v (p k) (q k) fb wr (hv.below (B := w.heap.size) hb hhi) (by omega) hg ((hb.cell (p := ⟨fb, 0, none⟩) lf).trans hf) (by omega)
      rw [show (!opB F n (p k) (q k)) = tst from htst] at hcon
      clear htst
      cases tst with
      | false =>
        go_wp2_with fail
        refine hcon.mono ?_
        rintro e w2 ⟨rfl, hb2⟩
        have hz2 := hb2.size
        have hbw : Below w.heap.size w w2 := hb.trans (hb2.mono hzr)
        go_wp2_with fail
        go_roundw
        case rel => exact ⟨k + 1, by omega, by go_num, upto_snocF hj.out HT.out, hbw⟩
        case measure => simp [intOf]; omega
      | true =>
        have HG : Hid (fstI (fun t => !opB F n (p t) (q t)) m = k) := fstI_at hkn hj.out HT.out
        go_wp2_with fail
        refine hcon.mono ?_
        rintro e w2 ⟨rfl, hb2⟩
        have hbw : Below w.heap.size w w2 := hb.trans (hb2.mono hzr)
        go_wp2_with fail
        go_ret
        exact ⟨ret_int HG.out.symm, hbw⟩
    · obtain rfl : k = m := by omega
      go_wp2_with fail
      go_ret
      exact ⟨ret_int (fstI_none hj.out).symm, hb⟩
set_option maxHeartbeats 800000 in
theorem ContainsFuncO_any (F : Nat → ByteArray) (n lo hi : Nat) (v : Value) (fb : Nat) (p q : Nat → Int) (m lo2 hi2 : Nat) (u : Value) (w : World) (hu : Sl w lo2 hi2 2 u m (iiC p q)) (hhi2 : hi2 ≤ w.heap.size) (hm : m ≤ 1048576) (hv : Sl w lo hi 1 v n (sC F)) (hhi : hi ≤ w.heap.size) (hg : flB F n = true) (hf : w.cell? ⟨fb, 0, none⟩ = some v) (lf : fb < w.heap.size) :
    Calls Tryd.prog 57 #[u, .func (.func 58) #[] #[.pointer (some ⟨fb, 0, none⟩)]] w fun e w' => e = .returned (.bool (decide (0 ≤ fstI (fun t => !opB F n (p t) (q t)) m))) ∧ Below w.heap.size w w' := by
  obtain ⟨A, cap, rfl, hcap, hA⟩ := id hu.open_
  go_enter Tryd.func57, Tryd.ntmps57
  go_wp2_with fail
  refine (IndexFuncO_any F n lo hi v fb p q m lo2 hi2 _ w hu hhi2 hm hv hhi hg hf lf).mono ?_
  rintro e w2 ⟨rfl, hb2⟩
  go_wp2_with fail
  go_ret
  exact ⟨ret_bool (by first | rfl | (simp [ge_iff_le])), hb2⟩

end Go.Proofs.YtpckhpkbdanjoaaDoor
