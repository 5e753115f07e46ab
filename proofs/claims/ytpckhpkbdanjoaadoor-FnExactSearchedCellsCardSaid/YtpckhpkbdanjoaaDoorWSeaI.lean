/-
  Walks: the library's search of a list of cells, at the closures of SearchedCells.
-/
import Derived.Test.YtpckhpkbdanjoaaDoorPSea
import Derived.Test.YtpckhpkbdanjoaaDoorWFlr2
namespace Go.Proofs.YtpckhpkbdanjoaaDoor
set_option linter.unusedVariables false
set_option linter.unusedSimpArgs false
open Go.RowKit

set_option maxHeartbeats 800000 in
theorem near1_any (x y a b : Int) (rb cb : Nat) (w : World) (hr : w.cell? ⟨rb, 0, none⟩ = some (.int .i64 x)) (hc : w.cell? ⟨cb, 0, none⟩ = some (.int .i64 y)) (lr : rb < w.heap.size) (lc : cb < w.heap.size)
    (hx : 0 ≤ x) (hx' : x ≤ 1000) (hy : 0 ≤ y) (hy' : y ≤ 1000) (hp : (0 ≤ a ∧ a ≤ 1000) ∧ 0 ≤ b ∧ b ≤ 1000) :
    Calls Tryd.prog 94 #[.agg #[.int .i64 a, .int .i64 b], .pointer (some ⟨rb, 0, none⟩), .pointer (some ⟨cb, 0, none⟩)] w fun e w' => e = .returned (.bool (nearB x y a b)) ∧ Below w.heap.size w w' := by
  have z1 : IntKind.i64.wrap (a - x) = a - x := IntWalk.i64_in _ (by omega)
  have z2 : IntKind.i64.wrap (b - y) = b - y := IntWalk.i64_in _ (by omega)
  cases e1 : inB (a - x) (-1) 1 with
  | false =>
    have HG : Hid (nearB x y a b = false) := by show _ = _; rw [nearB, e1]; rfl
    go_enter Tryd.func94, Tryd.ntmps94
    go_wp2_with (first | (go_at_call 68; refine (inside_any _ _ _ _).mono ?_; rintro e w' ⟨rfl, rfl⟩))
    go_ret
    exact ⟨ret_bool HG.out.symm, (by repeat (first | (with_reducible exact Below.refl _ _) | (with_reducible refine below_ov ?_ ?_) | (with_reducible refine Below.setCell ?_ ?_ _) | (with_reducible refine Below.alloc ?_ ?_ _) | (with_reducible refine Below.drew ?_) | (with_reducible refine below_drewN ?_ _) | (refine Below.trans ?_ (Below.mono ‹Below _ _ _› (by first | omega | (simp; done) | (simp; omega)))) | exact Below.refl _ _ | omega | (focus (simp; done)) | (focus (simp; omega))))⟩
  | true =>
    have HG : Hid (nearB x y a b = inB (b - y) (-1) 1) := by show _ = _; rw [nearB, e1]; rfl
    go_enter Tryd.func94, Tryd.ntmps94
    go_wp2_with (first | (go_at_call 68; refine (inside_any _ _ _ _).mono ?_; rintro e w' ⟨rfl, rfl⟩))
    go_ret
    exact ⟨ret_bool HG.out.symm, (by repeat (first | (with_reducible exact Below.refl _ _) | (with_reducible refine below_ov ?_ ?_) | (with_reducible refine Below.setCell ?_ ?_ _) | (with_reducible refine Below.alloc ?_ ?_ _) | (with_reducible refine Below.drew ?_) | (with_reducible refine below_drewN ?_ _) | (refine Below.trans ?_ (Below.mono ‹Below _ _ _› (by first | omega | (simp; done) | (simp; omega)))) | exact Below.refl _ _ | omega | (focus (simp; done)) | (focus (simp; omega))))⟩
set_option maxRecDepth 100000 in
set_option maxHeartbeats 1600000 in
theorem IndexFuncN_any (x y : Int) (rb cb : Nat) (p q : Nat → Int) (m lo2 hi2 : Nat) (u : Value) (w : World) (hu : Sl w lo2 hi2 2 u m (iiC p q)) (hhi2 : hi2 ≤ w.heap.size) (hm : m ≤ 1048576) (hr : w.cell? ⟨rb, 0, none⟩ = some (.int .i64 x)) (hc : w.cell? ⟨cb, 0, none⟩ = some (.int .i64 y)) (lr : rb < w.heap.size) (lc : cb < w.heap.size) (hx : 0 ≤ x) (hx' : x ≤ 1000) (hy : 0 ≤ y) (hy' : y ≤ 1000) (hp : ∀ t, t < m → (0 ≤ p t ∧ p t ≤ 1000) ∧ 0 ≤ q t ∧ q t ≤ 1000) :
    Calls Tryd.prog 93 #[u, .func (.func 94) #[] #[.pointer (some ⟨rb, 0, none⟩), .pointer (some ⟨cb, 0, none⟩)]] w fun e w' => e = .returned (.int .i64 (fstI (fun t => nearB x y (p t) (q t)) m)) ∧ Below w.heap.size w w' := by
  obtain ⟨A, cap, rfl, hcap, hA⟩ := hu.open_
  clear hu
  go_enter Tryd.func93, Tryd.ntmps93
  go_wp2_with fail
  go_loopw [8] (fun i wr => ∃ k : Nat, k ≤ m ∧ i = .int .i64 k ∧ Hid (∀ j, j < k → (fun t => nearB x y (p t) (q t)) j = false) ∧ Below w.heap.size w wr) (fun i _ => m - (intOf i).toNat)
  case atStart => exact ⟨0, by omega, rfl, fun j hj => by omega, Below.refl _ _⟩
  case round =>
    obtain ⟨k, hk, rfl, hj, hb⟩ := hrel
    have hzr := hb.size
    by_cases hkn : k < m
    · obtain ⟨blk, off, rfl, h1, h2, h3⟩ := (hA.below hb (by omega)) (by omega)
      have c0 : wr.cell? ⟨blk, off + k * 2, none⟩ = some (.int .i64 (p k)) := by simpa [iiC] using h3 k 0 hkn (by omega)
      have c1 : wr.cell? ⟨blk, off + k * 2 + 1, none⟩ = some (.int .i64 (q k)) := by simpa [iiC] using h3 k 1 hkn (by omega)
      clear h3 hA
      obtain ⟨tst, htst⟩ : ∃ b, (fun t => nearB x y (p t) (q t)) k = b := ⟨_, rfl⟩
      have HT := hide htst
      have hcon := near1_any x y (p k) (q k) rb cb wr ((hb.cell (p := ⟨rb, 0, none⟩) lr).trans hr) ((hb.cell (p := ⟨cb, 0, none⟩) lc).trans hc) (by omega) (by omega) hx hx' hy hy' (hp k hkn)
      rw [show nearB x y (p k) (q k) = tst from htst] at hcon
      clear htst
      cases tst with
      | false =>
        go_wp2_with fail
        refine hcon.mono ?_
        rintro e w2 ⟨rfl, hb2⟩
        have hz2 := hb2.size
        have hbw : Below w.heap.size w w2 := hb.trans (hb2.mono hzr)
        go_wp2_with fail
        go_roundw
        case rel => exact ⟨k + 1, by omega, by go_num, upto_snocF hj.out HT.out, hbw⟩
        case measure => simp [intOf]; omega
      | true =>
        have HG : Hid (fstI (fun t => nearB x y (p t) (q t)) m = k) := fstI_at hkn hj.out HT.out
        go_wp2_with fail
        refine hcon.mono ?_
        rintro e w2 ⟨rfl, hb2⟩
        have hbw : Below w.heap.size w w2 := hb.trans (hb2.mono hzr)
        go_wp2_with fail
        go_ret
        exact ⟨ret_int HG.out.symm, hbw⟩
    · obtain rfl : k = m := by omega
      go_wp2_with fail
      go_ret
      exact ⟨ret_int (fstI_none hj.out).symm, hb⟩
set_option maxHeartbeats 800000 in
theorem ContainsFuncN_any (x y : Int) (rb cb : Nat) (p q : Nat → Int) (m lo2 hi2 : Nat) (u : Value) (w : World) (hu : Sl w lo2 hi2 2 u m (iiC p q)) (hhi2 : hi2 ≤ w.heap.size) (hm : m ≤ 1048576) (hr : w.cell? ⟨rb, 0, none⟩ = some (.int .i64 x)) (hc : w.cell? ⟨cb, 0, none⟩ = some (.int .i64 y)) (lr : rb < w.heap.size) (lc : cb < w.heap.size) (hx : 0 ≤ x) (hx' : x ≤ 1000) (hy : 0 ≤ y) (hy' : y ≤ 1000) (hp : ∀ t, t < m → (0 ≤ p t ∧ p t ≤ 1000) ∧ 0 ≤ q t ∧ q t ≤ 1000) :
    Calls Tryd.prog 57 #[u, .func (.func 94) #[] #[.pointer (some ⟨rb, 0, none⟩), .pointer (some ⟨cb, 0, none⟩)]] w fun e w' => e = .returned (.bool (decide (0 ≤ fstI (fun t => nearB x y (p t) (q t)) m))) ∧ Below w.heap.size w w' := by
  obtain ⟨A, cap, rfl, hcap, hA⟩ := id hu.open_
  go_enter Tryd.func57, Tryd.ntmps57
  go_wp2_with fail
  refine (IndexFuncN_any x y rb cb p q m lo2 hi2 _ w hu hhi2 hm hr hc lr lc hx hx' hy hy' hp).mono ?_
  rintro e w2 ⟨rfl, hb2⟩
  go_wp2_with fail
  go_ret
  exact ⟨ret_bool (by first | rfl | (simp [ge_iff_le])), hb2⟩
set_option maxHeartbeats 800000 in
theorem nopen1_any (F : Nat → ByteArray) (n lo hi : Nat) (v : Value) (a b : Int) (fb : Nat) (w : World) (hv : Sl w lo hi 1 v n (sC F)) (hhi : hi ≤ w.heap.size) (hg : flB F n = true) (hf : w.cell? ⟨fb, 0, none⟩ = some v) (lf : fb < w.heap.size) :
    Calls Tryd.prog 58 #[.agg #[.int .i64 a, .int .i64 b], .pointer (some ⟨fb, 0, none⟩)] w fun e w' => e = .returned (.bool (!opB F n a b)) ∧ Below w.heap.size w w' := by
  obtain ⟨A, cap, rfl, hcap, hA⟩ := id hv.open_
  go_enter Tryd.func58, Tryd.ntmps58
  go_wp2_with fail
  refine (isOpen_any F n a b lo hi _ _ (hv.below (B := w.heap.size) (by repeat (first | (with_reducible exact Below.refl _ _) | (with_reducible refine below_ov ?_ ?_) | (with_reducible refine Below.setCell ?_ ?_ _) | (with_reducible refine Below.alloc ?_ ?_ _) | (with_reducible refine Below.drew ?_) | (with_reducible refine below_drewN ?_ _) | (refine Below.trans ?_ (Below.mono ‹Below _ _ _› (by first | omega | (simp; done) | (simp; omega)))) | exact Below.refl _ _ | omega | (focus (simp; done)) | (focus (simp; omega)))) hhi) (by first | omega | (simp; done) | (simp; omega)) hg).mono ?_
  rintro e w1 ⟨rfl, hb1⟩
  have hz1 := hb1.size
  go_wp2_with fail
  go_ret
  exact ⟨rfl, (by repeat (first | (with_reducible exact Below.refl _ _) | (with_reducible refine below_ov ?_ ?_) | (with_reducible refine Below.setCell ?_ ?_ _) | (with_reducible refine Below.alloc ?_ ?_ _) | (with_reducible refine Below.drew ?_) | (with_reducible refine below_drewN ?_ _) | (refine Below.trans ?_ (Below.mono ‹Below _ _ _› (by first | omega | (simp; done) | (simp; omega)))) | exact Below.refl _ _ | omega | (focus (simp; done)) | (focus (simp; omega))))⟩
set_option maxRecDepth 100000 in
set_option maxHeartbeats 1600000 in
theorem IndexFuncO_any (F : Nat → ByteArray) (n lo hi : Nat) (v : Value) (fb : Nat) (p q : Nat → Int) (m lo2 hi2 : Nat) (u : Value) (w : World) (hu : Sl w lo2 hi2 2 u m (iiC p q)) (hhi2 : hi2 ≤ w.heap.size) (hm : m ≤ 1048576) (hv : Sl w lo hi 1 v n (sC F)) (hhi : hi ≤ w.heap.size) (hg : flB F n = true) (hf : w.cell? ⟨fb, 0, none⟩ = some v) (lf : fb < w.heap.size) :
    Calls Tryd.prog 93 #[u, .func (.func 58) #[] #[.pointer (some ⟨fb, 0, none⟩)]] w fun e w' => e = .returned (.int .i64 (fstI (fun t => !opB F n (p t) (q t)) m)) ∧ Below w.heap.size w w' := by
  obtain ⟨A, cap, rfl, hcap, hA⟩ := hu.open_
  clear hu
  go_enter Tryd.func93, Tryd.ntmps93
  go_wp2_with fail
  go_loopw [8] (fun i wr => ∃ k : Nat, k ≤ m ∧ i = .int .i64 k ∧ Hid (∀ j, j < k → (fun t => !opB F n (p t) (q t)) j = false) ∧ Below w.heap.size w wr) (fun i _ => m - (intOf i).toNat)
  case atStart => exact ⟨0, by omega, rfl, fun j hj => by omega, Below.refl _ _⟩
  case round =>
    obtain ⟨k, hk, rfl, hj, hb⟩ := hrel
    have hzr := hb.size
    by_cases hkn : k < m
    · obtain ⟨blk, off, rfl, h1, h2, h3⟩ := (hA.below hb (by omega)) (by omega)
      have c0 : wr.cell? ⟨blk, off + k * 2, none⟩ = some (.int .i64 (p k)) := by simpa [iiC] using h3 k 0 hkn (by omega)
      have c1 : wr.cell? ⟨blk, off + k * 2 + 1, none⟩ = some (.int .i64 (q k)) := by simpa [iiC] using h3 k 1 hkn (by omega)
      clear h3 hA
      obtain ⟨tst, htst⟩ : ∃ b, (fun t => !opB F n (p t) (q t)) k = b := ⟨_, rfl⟩
      have HT := hide htst
      have hcon := nopen1_any F n lo hi v (p k) (q k) fb wr (hv.below (B := w.heap.size) hb hhi) (by omega) hg ((hb.cell (p := ⟨fb, 0, none⟩) lf).trans hf) (by omega)
      rw [show (!opB F n (p k) (q k)) = tst from htst] at hcon
      clear htst
      cases tst with
      | false =>
        go_wp2_with fail
        refine hcon.mono ?_
        rintro e w2 ⟨rfl, hb2⟩
        have hz2 := hb2.size
        have hbw : Below w.heap.size w w2 := hb.trans (hb2.mono hzr)
        go_wp2_with fail
        go_roundw
        case rel => exact ⟨k + 1, by omega, by go_num, upto_snocF hj.out HT.out, hbw⟩
        case measure => simp [intOf]; omega
      | true =>
        have HG : Hid (fstI (fun t => !opB F n (p t) (q t)) m = k) := fstI_at hkn hj.out HT.out
        go_wp2_with fail
        refine hcon.mono ?_
        rintro e w2 ⟨rfl, hb2⟩
        have hbw : Below w.heap.size w w2 := hb.trans (hb2.mono hzr)
        go_wp2_with fail
        go_ret
        exact ⟨ret_int HG.out.symm, hbw⟩
    · obtain rfl : k = m := by omega
      go_wp2_with fail
      go_ret
      exact ⟨ret_int (fstI_none hj.out).symm, hb⟩
set_option maxHeartbeats 800000 in
theorem ContainsFuncO_any (F : Nat → ByteArray) (n lo hi : Nat) (v : Value) (fb : Nat) (p q : Nat → Int) (m lo2 hi2 : Nat) (u : Value) (w : World) (hu : Sl w lo2 hi2 2 u m (iiC p q)) (hhi2 : hi2 ≤ w.heap.size) (hm : m ≤ 1048576) (hv : Sl w lo hi 1 v n (sC F)) (hhi : hi ≤ w.heap.size) (hg : flB F n = true) (hf : w.cell? ⟨fb, 0, none⟩ = some v) (lf : fb < w.heap.size) :
    Calls Tryd.prog 57 #[u, .func (.func 58) #[] #[.pointer (some ⟨fb, 0, none⟩)]] w fun e w' => e = .returned (.bool (decide (0 ≤ fstI (fun t => !opB F n (p t) (q t)) m))) ∧ Below w.heap.size w w' := by
  obtain ⟨A, cap, rfl, hcap, hA⟩ := id hu.open_
  go_enter Tryd.func57, Tryd.ntmps57
  go_wp2_with fail
  refine (IndexFuncO_any F n lo hi v fb p q m lo2 hi2 _ w hu hhi2 hm hv hhi hg hf lf).mono ?_
  rintro e w2 ⟨rfl, hb2⟩
  go_wp2_with fail
  go_ret
  exact ⟨ret_bool (by first | rfl | (simp [ge_iff_le])), hb2⟩

end Go.Proofs.YtpckhpkbdanjoaaDoor
