/-
  Walks: what was received of a name: the program's IndexFunc over the messages.
-/
import Derived.Test.YteaiiccdplfakaaWChan4
namespace Go.Proofs.Yteaiiccdplfakaa
set_option linter.unusedVariables false
set_option linter.unusedSimpArgs false
open Go.RowKit

set_option maxHeartbeats 800000 in
theorem received1_any (f : ByteArray) (m : Int) (g x : ByteArray) (y : Int) (p q : Nat) (w : World) (hp : w.cell? ⟨p, 0, none⟩ = some (.string x)) (hq : w.cell? ⟨q, 0, none⟩ = some (.int .i64 y)) (lp : p < w.heap.size) (lq : q < w.heap.size) :
    Calls Try.prog 56 #[.agg #[.string f, .int .i64 m, .string g], .pointer (some ⟨p, 0, none⟩), .pointer (some ⟨q, 0, none⟩)] w fun e w' => e = .returned (.bool (decide (f = x) && decide (m = y))) ∧ Below w.heap.size w w' := by
  cases e0 : (f.toList == x.toList) with
  | false =>
    have HG : Hid ((decide (f = x) && decide (m = y)) = false) := by show _ = _; rw [str_beq] at e0; simp [e0]
    go_enter Try.func56, Try.ntmps56
    go_wp2_with fail
    go_ret
    exact ⟨ret_bool HG.out.symm, (by repeat (first | (with_reducible exact Below.refl _ _) | (with_reducible refine below_ov ?_ ?_) | (with_reducible refine Below.setCell ?_ ?_ _) | (with_reducible refine Below.alloc ?_ ?_ _) | (with_reducible refine Below.drew ?_) | (with_reducible refine below_drewN ?_ _) | (refine Below.trans ?_ (Below.mono ‹Below _ _ _› (by first | omega | (simp; done) | (simp; omega)))) | exact Below.refl _ _ | omega | (focus (simp; done)) | (focus (simp; omega))))⟩
  | true =>
    cases e1 : (m == y) with
    | false =>
      have HG : Hid ((decide (f = x) && decide (m = y)) = false) := by show _ = _; simp at e1; simp [e1]
      go_enter Try.func56, Try.ntmps56
      go_wp2_with fail
      go_ret
      exact ⟨ret_bool HG.out.symm, (by repeat (first | (with_reducible exact Below.refl _ _) | (with_reducible refine below_ov ?_ ?_) | (with_reducible refine Below.setCell ?_ ?_ _) | (with_reducible refine Below.alloc ?_ ?_ _) | (with_reducible refine Below.drew ?_) | (with_reducible refine below_drewN ?_ _) | (refine Below.trans ?_ (Below.mono ‹Below _ _ _› (by first | omega | (simp; done) | (simp; omega)))) | exact Below.refl _ _ | omega | (focus (simp; done)) | (focus (simp; omega))))⟩
    | true =>
      have HG : Hid ((decide (f = x) && decide (m = y)) = true) := by show _ = _; rw [str_beq] at e0; simp at e1; simp [of_decide_eq_true e0, e1]
      go_enter Try.func56, Try.ntmps56
      go_wp2_with fail
      go_ret
      exact ⟨ret_bool HG.out.symm, (by repeat (first | (with_reducible exact Below.refl _ _) | (with_reducible refine below_ov ?_ ?_) | (with_reducible refine Below.setCell ?_ ?_ _) | (with_reducible refine Below.alloc ?_ ?_ _) | (with_reducible refine Below.drew ?_) | (with_reducible refine below_drewN ?_ _) | (refine Below.trans ?_ (Below.mono ‹Below _ _ _› (by first | omega | (simp; done) | (simp; omega)))) | exact Below.refl _ _ | omega | (focus (simp; done)) | (focus (simp; omega))))⟩
set_option maxRecDepth 100000 in
set_option maxHeartbeats 1600000 in
theorem IndexFuncM_any (R : Ms) (x : ByteArray) (y : Int) (lo hi p q : Nat) (v : Value) (w : World) (hv : Sl w lo hi 3 v R.n R.c) (hhi : hi ≤ w.heap.size) (hn : R.n ≤ 4611686018427387904)
    (hp : w.cell? ⟨p, 0, none⟩ = some (.string x)) (hq : w.cell? ⟨q, 0, none⟩ = some (.int .i64 y)) (lp : p < w.heap.size) (lq : q < w.heap.size) :
    Calls Try.prog 55 #[v, .func (.func 56) #[] #[.pointer (some ⟨p, 0, none⟩), .pointer (some ⟨q, 0, none⟩)]] w fun e w' => e = .returned (.int .i64 (fstI (mk1 R.f R.m x y) R.n)) ∧ Below w.heap.size w w' := by
  obtain ⟨A, cap, rfl, hcap, hA⟩ := hv.open_
  clear hv
  go_enter Try.func55, Try.ntmps55
  go_wp2_with fail
  go_loopw [8] (fun i wr => ∃ k : Nat, k ≤ R.n ∧ i = .int .i64 k ∧ Hid (∀ j, j < k → mk1 R.f R.m x y j = false) ∧ Below w.heap.size w wr) (fun i _ => R.n - (intOf i).toNat)
  case atStart => exact ⟨0, by omega, rfl, fun j hj => by omega, Below.refl _ _⟩
  case round =>
    obtain ⟨k, hk, rfl, hj, hb⟩ := hrel
    have hzr := hb.size
    by_cases hkn : k < R.n
    · obtain ⟨blk, off, rfl, h1, h2, h3⟩ := (hA.below hb (by omega)) (by omega)
      have c0 : wr.cell? ⟨blk, off + k * 3, none⟩ = some (.string (R.f k)) := h3 k 0 hkn (by omega)
      have c1 : wr.cell? ⟨blk, off + k * 3 + 1, none⟩ = some (.int .i64 (R.m k)) := h3 k 1 hkn (by omega)
      have c2 : wr.cell? ⟨blk, off + k * 3 + 2, none⟩ = some (.string (R.g k)) := h3 k 2 hkn (by omega)
      have HP := hide ((hb.cell (p := ⟨p, 0, none⟩) lp).trans hp)
      have HQ := hide ((hb.cell (p := ⟨q, 0, none⟩) lq).trans hq)
      clear h3 hA
      cases e1 : mk1 R.f R.m x y k with
      | false =>
        have HG := hide e1
        have e2 : (decide (R.f k = x) && decide (R.m k = y)) = false := e1
        go_wp2_with (go_at_call 56; refine (received1_any _ _ _ x y p q _ HP.out HQ.out (by omega) (by omega)).mono ?_; rintro e w1 ⟨rfl, hb1⟩; have hz1 := hb1.size; (try (simp at hz1)); obtain ⟨hcw1, hfw1⟩ := bcell hb1; (try (have hy1 : w.heap.size < w1.heap.size := by omega)); (try (have hyy1 : w.heap.size + 1 < w1.heap.size := by omega)); (try (have hyyy1 : w.heap.size + 1 + 1 < w1.heap.size := by omega)))
        go_roundw
        case rel => exact ⟨k + 1, by omega, by go_num, upto_snocF hj.out HG.out, (by repeat (first | (with_reducible exact Below.refl _ _) | (with_reducible refine below_ov ?_ ?_) | (with_reducible refine Below.setCell ?_ ?_ _) | (with_reducible refine Below.alloc ?_ ?_ _) | (with_reducible refine Below.drew ?_) | (with_reducible refine below_drewN ?_ _) | (refine Below.trans ?_ (Below.mono ‹Below _ _ _› (by first | omega | (simp; done) | (simp; omega)))) | exact Below.refl _ _ | omega | (focus (simp; done)) | (focus (simp; omega))))⟩
        case measure => simp [intOf]; omega
      | true =>
        have HG : Hid (fstI (mk1 R.f R.m x y) R.n = k) := fstI_at hkn hj.out e1
        have e2 : (decide (R.f k = x) && decide (R.m k = y)) = true := e1
        go_wp2_with (go_at_call 56; refine (received1_any _ _ _ x y p q _ HP.out HQ.out (by omega) (by omega)).mono ?_; rintro e w1 ⟨rfl, hb1⟩; have hz1 := hb1.size; (try (simp at hz1)); obtain ⟨hcw1, hfw1⟩ := bcell hb1; (try (have hy1 : w.heap.size < w1.heap.size := by omega)); (try (have hyy1 : w.heap.size + 1 < w1.heap.size := by omega)); (try (have hyyy1 : w.heap.size + 1 + 1 < w1.heap.size := by omega)))
        go_ret
        exact ⟨ret_int HG.out.symm, (by repeat (first | (with_reducible exact Below.refl _ _) | (with_reducible refine below_ov ?_ ?_) | (with_reducible refine Below.setCell ?_ ?_ _) | (with_reducible refine Below.alloc ?_ ?_ _) | (with_reducible refine Below.drew ?_) | (with_reducible refine below_drewN ?_ _) | (refine Below.trans ?_ (Below.mono ‹Below _ _ _› (by first | omega | (simp; done) | (simp; omega)))) | exact Below.refl _ _ | omega | (focus (simp; done)) | (focus (simp; omega))))⟩
    · obtain rfl : k = R.n := by omega
      go_wp2_with fail
      go_ret
      exact ⟨ret_int (fstI_none hj.out).symm, hb⟩
set_option maxRecDepth 100000 in
set_option maxHeartbeats 1600000 in
theorem received_any (R : Ms) (x : ByteArray) (y : Int) (lo hi pb : Nat) (vR : Value) (w : World) (hR : Sl w lo hi 3 vR R.n R.c) (hhi : hi ≤ w.heap.size) (hn : R.n ≤ 4611686018427387904)
    (hp : pb < w.heap.size) (p1 : w.cell? ⟨pb, 1, none⟩ = some vR) :
    Calls Try.prog 42 #[.pointer (some ⟨pb, 0, none⟩), .string x, .int .i64 y] w fun e w' => e = .returned (.int .i64 (fstI (mk1 R.f R.m x y) R.n)) ∧ Below w.heap.size w w' := by
  go_enter Try.func42, Try.ntmps42
  go_wp2_with fail
  refine (IndexFuncM_any R x y lo hi _ _ _ _ (hR.below (B := w.heap.size) (by repeat (first | (with_reducible exact Below.refl _ _) | (with_reducible refine below_ov ?_ ?_) | (with_reducible refine Below.setCell ?_ ?_ _) | (with_reducible refine Below.alloc ?_ ?_ _) | (with_reducible refine Below.drew ?_) | (with_reducible refine below_drewN ?_ _) | (refine Below.trans ?_ (Below.mono ‹Below _ _ _› (by first | omega | (simp; done) | (simp; omega)))) | exact Below.refl _ _ | omega | (focus (simp; done)) | (focus (simp; omega)))) hhi) (by simp <;> omega) hn ((World.cell?_alloc_lt _ _ _ (by simp)).trans (World.cell?_alloc_new _ _ _ _)) (World.cell?_alloc_at _ _ _ _ (by simp)) (by simp <;> omega) (by simp <;> omega)).mono ?_
  rintro e w1 ⟨rfl, hb1⟩
  have hz1 := hb1.size
  go_wp2_with fail
  go_ret
  exact ⟨rfl, (by repeat (first | (with_reducible exact Below.refl _ _) | (with_reducible refine below_ov ?_ ?_) | (with_reducible refine Below.setCell ?_ ?_ _) | (with_reducible refine Below.alloc ?_ ?_ _) | (with_reducible refine Below.drew ?_) | (with_reducible refine below_drewN ?_ _) | (refine Below.trans ?_ (Below.mono ‹Below _ _ _› (by first | omega | (simp; done) | (simp; omega)))) | exact Below.refl _ _ | omega | (focus (simp; done)) | (focus (simp; omega))))⟩

end Go.Proofs.Yteaiiccdplfakaa
