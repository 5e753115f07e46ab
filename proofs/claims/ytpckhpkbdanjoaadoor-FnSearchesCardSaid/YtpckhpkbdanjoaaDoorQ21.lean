/-
  Texts of this proof, one behind the other (part 21).
-/
import Derived.Test.YtpckhpkbdanjoaaDoorQ20
import Derived.Test.YtpckhpkbdanjoaaDoorCards
/-
  Walks: SearchedCells: the program's and the reference's.-/
namespace Go.Proofs.YtpckhpkbdanjoaaDoor
set_option linter.unusedVariables false
set_option linter.unusedSimpArgs false
open Go.RowKit

/-- What the call hands back. -/
def SeRes (F : Nat → ByteArray) (n : Nat) (p q : Nat → Int) (m : Nat) (w : World) (e : Ending) (w' : World) : Prop := ∃ v', e = .returned (.tuple #[v', .bool (seOk F n p q m)]) ∧ Own w' w.heap.size w'.heap.size 38 2 v' (seN F n p q m) (seN F n p q m) (iiC (seR F n p q m) (seC F n p q m)) ∧ Below w.heap.size w w'
theorem se_nil {F : Nat → ByteArray} {n m : Nat} {p q : Nat → Int} {w w' : World} (h : seOk F n p q m = false) (hb : Below w.heap.size w w') : SeRes F n p q m w (.returned (.tuple #[.slice none 0 0, .bool false])) w' :=
  ⟨_, by rw [h], by rw [seN, h]; exact Own.nil_ _ _ _ _ _ _, hb⟩
theorem se_row {F : Nat → ByteArray} {n m : Nat} {p q : Nat → Int} {w w' : World} {v' : Value} {lo : Nat} (h : seOk F n p q m = true) (ho : w'.ownsRow lo 38 2 v' (flt (nrF F n p q m) (n * (F 0).size)).length (rowL (iiC (seR F n p q m) (seC F n p q m)) 2 (flt (nrF F n p q m) (n * (F 0).size)).length)) (hl : w.heap.size ≤ lo) (hb : Below w.heap.size w w') :
    SeRes F n p q m w (.returned (.tuple #[v', .bool true])) w' := by
  have hN : seN F n p q m = (flt (nrF F n p q m) (n * (F 0).size)).length := by rw [seN, if_pos h]
  refine ⟨_, by rw [h], ?_, hb⟩
  rw [hN]
  exact (own_row ho).mono hl (Nat.le_refl _)
set_option maxRecDepth 100000 in
set_option maxHeartbeats 3200000 in
theorem SearchedCells_specR (F : Nat → ByteArray) (n : Nat) (p q : Nat → Int) (m lo hi : Nat) (v : Value) (lo2 hi2 : Nat) (u : Value) (w : World) (hv : Sl w lo hi 1 v n (sC F)) (hhi : hi ≤ w.heap.size) (hu : Sl w lo2 hi2 2 u m (iiC p q)) (hhi2 : hi2 ≤ w.heap.size) (hf : ffits F n) :
    Calls Tryd.prog 11 #[v, u] w (SeRes F n p q m w) := by
  obtain ⟨A, cap, rfl, hcap, _⟩ := id hv.open_
  obtain ⟨A2, cap2, rfl, hcap2, hA2⟩ := id hu.open_
  have HV := hide hv
  have HU := hide hu
  clear hv hu
  cases e1 : flB F n with
  | false =>
    have HX : Hid (seOk F n p q m = false) := by show _ = _; rw [seOk, e1]; rfl
    go_enter Tryd.func11, Tryd.ntmps11
    go_wp2_with fail
    refine (seGood_any F n lo hi _ _ (HV.out.below (B := w.heap.size) (by repeat (first | (with_reducible exact Below.refl _ _) | (with_reducible refine below_ov ?_ ?_) | (with_reducible refine Below.setCell ?_ ?_ _) | (with_reducible refine Below.alloc ?_ ?_ _) | (with_reducible refine Below.drew ?_) | (with_reducible refine below_drewN ?_ _) | (refine Below.trans ?_ (Below.mono ‹Below _ _ _› (by first | omega | (simp; done) | (simp; omega)))) | exact Below.refl _ _ | omega | (focus (simp; done)) | (focus (simp; omega)))) hhi) (by first | omega | (simp; done) | (simp; omega)) hf).mono ?_
    rintro e w1 ⟨rfl, hb1⟩
    have hz1 := hb1.size
    rw [e1]
    clear hA2
    go_wp2_with fail
    go_ret2
    exact se_nil HX.out (by repeat (first | (with_reducible exact Below.refl _ _) | (with_reducible refine below_ov ?_ ?_) | (with_reducible refine Below.setCell ?_ ?_ _) | (with_reducible refine Below.alloc ?_ ?_ _) | (with_reducible refine Below.drew ?_) | (with_reducible refine below_drewN ?_ _) | (refine Below.trans ?_ (Below.mono ‹Below _ _ _› (by first | omega | (simp; done) | (simp; omega)))) | exact Below.refl _ _ | omega | (focus (simp; done)) | (focus (simp; omega))))
  | true =>
    have HG := hide e1
    by_cases hm : m ≤ 1000
    · have dm : decide ((m : Int) > 1000) = false := decide_eq_false (by omega)
      have dm' : decide (1000 < m) = false := decide_eq_false (by omega)
      go_enter Tryd.func11, Tryd.ntmps11
      go_wp2_with fail
      refine (seGood_any F n lo hi _ _ (HV.out.below (B := w.heap.size) (by repeat (first | (with_reducible exact Below.refl _ _) | (with_reducible refine below_ov ?_ ?_) | (with_reducible refine Below.setCell ?_ ?_ _) | (with_reducible refine Below.alloc ?_ ?_ _) | (with_reducible refine Below.drew ?_) | (with_reducible refine below_drewN ?_ _) | (refine Below.trans ?_ (Below.mono ‹Below _ _ _› (by first | omega | (simp; done) | (simp; omega)))) | exact Below.refl _ _ | omega | (focus (simp; done)) | (focus (simp; omega)))) hhi) (by first | omega | (simp; done) | (simp; omega)) hf).mono ?_
      rintro e w1 ⟨rfl, hb1⟩
      have hz1 := hb1.size
      rw [e1]
      clear e1
      have HB1 := hide hb1
      clear hb1
      go_wp2_with fail
      go_loopg [18] (m + 1) (fun gn a wr => ∃ t : Nat, t ≤ m ∧ m - t < gn ∧ a = .int .i64 t ∧ Hid (∀ j, j < t → opB F n (p j) (q j) = true) ∧ Hid (Below w.heap.size w wr))
      case atStart => exact ⟨0, by omega, by omega, rfl, fun j hj => absurd hj (Nat.not_lt_zero _), HB1.out⟩
      case round =>
        obtain ⟨t, ht, hgt, rfl, HJ, HB⟩ := hrel
        have hz := HB.out.size
        by_cases htm : t < m
        · obtain ⟨blk, off, rfl, h1, h2, h3⟩ := hA2 (by omega)
          have c0 : wr.cell? ⟨blk, off + t * 2, none⟩ = some (.int .i64 (p t)) := (HB.out.cell (p := ⟨blk, off + t * 2, none⟩) (by show blk < _; omega)).trans (by simpa [iiC] using h3 t 0 htm (by omega))
          have c1 : wr.cell? ⟨blk, off + t * 2 + 1, none⟩ = some (.int .i64 (q t)) := (HB.out.cell (p := ⟨blk, off + t * 2 + 1, none⟩) (by show blk < _; omega)).trans (by simpa [iiC] using h3 t 1 htm (by omega))
          have l0 : blk < wr.heap.size := by omega
          clear hA2 h3
          go_wp2_with fail
          refine (seOpen_any F n (p t) (q t) lo hi _ _ (HV.out.below (B := w.heap.size) (HB.out.alloc hz _) hhi) (by simp; omega) HG.out).mono ?_
          rintro e w2 ⟨rfl, hb2⟩
          have hz2 := hb2.size
          have HB2 : Hid (Below w.heap.size w w2) := HB.out.trans ((((Below.refl wr.heap.size wr).alloc (Nat.le_refl _) _).trans (hb2.mono (by simp))).mono hz)
          clear c0 c1 hb2
          cases eo : opB F n (p t) (q t) with
          | false =>
            have HX : Hid (seOk F n p q m = false) := by show _ = _; rw [seOk, allB_false htm eo]; simp
            go_wp2_with fail
            go_ret2
            exact se_nil HX.out HB2.out
          | true =>
            have HJ2 : Hid (∀ j, j < t + 1 → opB F n (p j) (q j) = true) := upto_snoc (p := fun j => opB F n (p j) (q j)) HJ.out eo
            go_wp2_with fail
            go_roundg (m - t)
            case measure => omega
            case rel => exact ⟨t + 1, by omega, by omega, by go_num, HJ2.out, HB2.out⟩
        · obtain rfl : t = m := by omega
          have HX : Hid (seOk F n p q t = true) := by show _ = _; rw [seOk, HG.out, decide_eq_true hm, allB_iff.2 HJ.out]; rfl
          go_wp2_with fail
          refine (seNear_any F n p q t lo hi lo2 hi2 _ _ _ (HV.out.below (B := w.heap.size) HB.out hhi) (by omega) (HU.out.below (B := w.heap.size) HB.out hhi2) (by omega) HG.out hm HJ.out).mono ?_
          rintro e w2 ⟨v2, rfl, hr2, hb2⟩
          have HB2 : Hid (Below w.heap.size w w2) := HB.out.trans (hb2.mono hz)
          have hz2 := HB2.out.size
          have ho := own_flt hr2
          have hfl := flt_len (nrF F n p q t) (n * (F 0).size)
          have har := (fl_area HG.out).2
          have HO := hide ho
          clear ho hr2 hb2
          obtain ⟨A3, c3, rfl, _, _⟩ := id HO.out.sl.open_
          go_wp2_with fail
          refine (seCells_any F n (fltI (nrF F n p q t) (n * (F 0).size)) (flt (nrF F n p q t) (n * (F 0).size)).length lo hi wr.heap.size w2.heap.size _ _ _ (HV.out.below (B := w.heap.size) HB2.out hhi) (by omega) HO.out.sl (Nat.le_refl _) HG.out (by omega) (fun i hi => by have := fltI_lt hi; omega)).mono ?_
          rintro e w3 ⟨v3, rfl, hr3, hb3⟩
          have HR3 := hide hr3
          have HB3 : Hid (Below w.heap.size w w3) := HB2.out.trans (hb3.mono hz2)
          clear hr3 hb3
          obtain ⟨B3, c3', rfl⟩ := row_form HR3.out
          go_wp2_with fail
          go_ret2
          exact se_row HX.out HR3.out hz2 HB3.out
    · have HX : Hid (seOk F n p q m = false) := by show _ = _; rw [seOk, e1, decide_eq_false hm]; rfl
      have dm : decide ((m : Int) > 1000) = true := decide_eq_true (by omega)
      have dm' : decide (1000 < m) = true := decide_eq_true (by omega)
      go_enter Tryd.func11, Tryd.ntmps11
      go_wp2_with fail
      refine (seGood_any F n lo hi _ _ (HV.out.below (B := w.heap.size) (by repeat (first | (with_reducible exact Below.refl _ _) | (with_reducible refine below_ov ?_ ?_) | (with_reducible refine Below.setCell ?_ ?_ _) | (with_reducible refine Below.alloc ?_ ?_ _) | (with_reducible refine Below.drew ?_) | (with_reducible refine below_drewN ?_ _) | (refine Below.trans ?_ (Below.mono ‹Below _ _ _› (by first | omega | (simp; done) | (simp; omega)))) | exact Below.refl _ _ | omega | (focus (simp; done)) | (focus (simp; omega)))) hhi) (by first | omega | (simp; done) | (simp; omega)) hf).mono ?_
      rintro e w1 ⟨rfl, hb1⟩
      have hz1 := hb1.size
      rw [e1]
      clear hA2
      go_wp2_with fail
      go_ret2
      exact se_nil HX.out (by repeat (first | (with_reducible exact Below.refl _ _) | (with_reducible refine below_ov ?_ ?_) | (with_reducible refine Below.setCell ?_ ?_ _) | (with_reducible refine Below.alloc ?_ ?_ _) | (with_reducible refine Below.drew ?_) | (with_reducible refine below_drewN ?_ _) | (refine Below.trans ?_ (Below.mono ‹Below _ _ _› (by first | omega | (simp; done) | (simp; omega)))) | exact Below.refl _ _ | omega | (focus (simp; done)) | (focus (simp; omega))))
theorem SearchedCells_spec (F : Nat → ByteArray) (n : Nat) (p q : Nat → Int) (m lo hi : Nat) (v : Value) (lo2 hi2 : Nat) (u : Value) (w : World) (hv : Sl w lo hi 1 v n (sC F)) (hhi : hi ≤ w.heap.size) (hu : Sl w lo2 hi2 2 u m (iiC p q)) (hhi2 : hi2 ≤ w.heap.size) (hf : ffits F n) :
    Calls Tryd.prog 11 #[v, u] w fun e w' => ∃ v', e = .returned (.tuple #[v', .bool (seOk F n p q m)]) ∧ Own w' w.heap.size w'.heap.size 38 2 v' (seN F n p q m) (seN F n p q m) (iiC (seR F n p q m) (seC F n p q m)) ∧ Below w.heap.size w w' :=
  SearchedCells_specR F n p q m lo hi v lo2 hi2 u w hv hhi hu hhi2 hf
set_option maxRecDepth 100000 in
set_option maxHeartbeats 3200000 in
theorem SearchedCells_implR (F : Nat → ByteArray) (n : Nat) (p q : Nat → Int) (m lo hi : Nat) (v : Value) (lo2 hi2 : Nat) (u : Value) (w : World) (hv : Sl w lo hi 1 v n (sC F)) (hhi : hi ≤ w.heap.size) (hu : Sl w lo2 hi2 2 u m (iiC p q)) (hhi2 : hi2 ≤ w.heap.size) (hf : ffits F n) :
    Calls Tryd.prog 14 #[v, u] w (SeRes F n p q m w) := by
  obtain ⟨A, cap, rfl, hcap, _⟩ := id hv.open_
  obtain ⟨A2, cap2, rfl, hcap2, _⟩ := id hu.open_
  have HV := hide hv
  have HU := hide hu
  clear hv hu
  cases e1 : flB F n with
  | false =>
    have HX : Hid (seOk F n p q m = false) := by show _ = _; rw [seOk, e1]; rfl
    go_enter Tryd.func14, Tryd.ntmps14
    go_wp2_with fail
    refine (isFloor_any F n lo hi _ _ (HV.out.below (B := w.heap.size) (by repeat (first | (with_reducible exact Below.refl _ _) | (with_reducible refine below_ov ?_ ?_) | (with_reducible refine Below.setCell ?_ ?_ _) | (with_reducible refine Below.alloc ?_ ?_ _) | (with_reducible refine Below.drew ?_) | (with_reducible refine below_drewN ?_ _) | (refine Below.trans ?_ (Below.mono ‹Below _ _ _› (by first | omega | (simp; done) | (simp; omega)))) | exact Below.refl _ _ | omega | (focus (simp; done)) | (focus (simp; omega)))) hhi) (by first | omega | (simp; done) | (simp; omega)) hf).mono ?_
    rintro e w1 ⟨rfl, hb1⟩
    have hz1 := hb1.size
    rw [e1]
    go_wp2_with fail
    go_ret2
    exact se_nil HX.out (by repeat (first | (with_reducible exact Below.refl _ _) | (with_reducible refine below_ov ?_ ?_) | (with_reducible refine Below.setCell ?_ ?_ _) | (with_reducible refine Below.alloc ?_ ?_ _) | (with_reducible refine Below.drew ?_) | (with_reducible refine below_drewN ?_ _) | (refine Below.trans ?_ (Below.mono ‹Below _ _ _› (by first | omega | (simp; done) | (simp; omega)))) | exact Below.refl _ _ | omega | (focus (simp; done)) | (focus (simp; omega))))
  | true =>
    have HG := hide e1
    by_cases hm : m ≤ 1000
    · have dm : decide ((m : Int) > 1000) = false := decide_eq_false (by omega)
      have dm' : decide (1000 < m) = false := decide_eq_false (by omega)
      go_enter Tryd.func14, Tryd.ntmps14
      go_wp2_with fail
      refine (isFloor_any F n lo hi _ _ (HV.out.below (B := w.heap.size) (by repeat (first | (with_reducible exact Below.refl _ _) | (with_reducible refine below_ov ?_ ?_) | (with_reducible refine Below.setCell ?_ ?_ _) | (with_reducible refine Below.alloc ?_ ?_ _) | (with_reducible refine Below.drew ?_) | (with_reducible refine below_drewN ?_ _) | (refine Below.trans ?_ (Below.mono ‹Below _ _ _› (by first | omega | (simp; done) | (simp; omega)))) | exact Below.refl _ _ | omega | (focus (simp; done)) | (focus (simp; omega)))) hhi) (by first | omega | (simp; done) | (simp; omega)) hf).mono ?_
      rintro e w1 ⟨rfl, hb1⟩
      have hz1 := hb1.size
      (try (simp at hz1))
      rw [e1]
      clear e1
      have px0 := (hb1.cell (p := ⟨w.heap.size, 0, none⟩) (by simp)).trans (World.cell?_alloc_new _ _ _ _)
      simp at px0
      have lp : w.heap.size < w1.heap.size := by omega
      have HB1 : Hid (Below w.heap.size w w1) := ((Below.refl w.heap.size w).alloc (Nat.le_refl _) _).trans (hb1.mono (by simp))
      have HP1 := hide px0
      clear hb1
      go_wp2_with fail
      refine (ContainsFuncO_any F n lo hi _ w.heap.size p q m lo2 hi2 _ _ (HU.out.below (B := w.heap.size) HB1.out hhi2) (by omega) (by omega) (HV.out.below (B := w.heap.size) HB1.out hhi) (by omega) HG.out HP1.out lp).mono ?_
      rintro e w2 ⟨rfl, hb2⟩
      have hz2 := hb2.size
      have HB2 : Hid (Below w.heap.size w w2) := HB1.out.trans (hb2.mono HB1.out.size)
      have q0 : w2.cell? ⟨w.heap.size, 0, none⟩ = some (.slice A n cap) := (hb2.cell (p := ⟨w.heap.size, 0, none⟩) lp).trans HP1.out
      have lq : w.heap.size < w2.heap.size := by omega
      have HE := hide (fstI_neg (p := fun t => !opB F n (p t) (q t)) (n := m))
      rw [HE.out]
      clear px0 hb2
      have e3 : (fun i => !(fun t => !opB F n (p t) (q t)) i) = fun t => opB F n (p t) (q t) := by funext i; simp
      rw [e3]
      clear e3
      cases ea : allB (fun t => opB F n (p t) (q t)) m with
      | false =>
        have HX : Hid (seOk F n p q m = false) := by show _ = _; rw [seOk, ea]; simp
        go_wp2_with fail
        go_ret2
        exact se_nil HX.out HB2.out
      | true =>
        have HX : Hid (seOk F n p q m = true) := by show _ = _; rw [seOk, HG.out, decide_eq_true hm, ea]; rfl
        have HJ : Hid (∀ t, t < m → opB F n (p t) (q t) = true) := allB_iff.1 ea
        clear ea
        go_wp2_with fail
        refine (searchedCells_any F n p q m lo hi lo2 hi2 _ _ _ (HV.out.below (B := w.heap.size) HB2.out hhi) (by omega) (HU.out.below (B := w.heap.size) HB2.out hhi2) (by omega) HG.out hm HJ.out).mono ?_
        rintro e w3 ⟨v3, rfl, hr3, hb3⟩
        rw [fltC_row] at hr3
        have HR3 := hide hr3
        have HB3 : Hid (Below w.heap.size w w3) := HB2.out.trans (hb3.mono HB2.out.size)
        clear hr3 hb3
        obtain ⟨B3, c3', rfl⟩ := row_form HR3.out
        go_wp2_with fail
        go_ret2
        exact se_row HX.out HR3.out HB2.out.size HB3.out
    · have HX : Hid (seOk F n p q m = false) := by show _ = _; rw [seOk, e1, decide_eq_false hm]; rfl
      have dm : decide ((m : Int) > 1000) = true := decide_eq_true (by omega)
      have dm' : decide (1000 < m) = true := decide_eq_true (by omega)
      go_enter Tryd.func14, Tryd.ntmps14
      go_wp2_with fail
      refine (isFloor_any F n lo hi _ _ (HV.out.below (B := w.heap.size) (by repeat (first | (with_reducible exact Below.refl _ _) | (with_reducible refine below_ov ?_ ?_) | (with_reducible refine Below.setCell ?_ ?_ _) | (with_reducible refine Below.alloc ?_ ?_ _) | (with_reducible refine Below.drew ?_) | (with_reducible refine below_drewN ?_ _) | (refine Below.trans ?_ (Below.mono ‹Below _ _ _› (by first | omega | (simp; done) | (simp; omega)))) | exact Below.refl _ _ | omega | (focus (simp; done)) | (focus (simp; omega)))) hhi) (by first | omega | (simp; done) | (simp; omega)) hf).mono ?_
      rintro e w1 ⟨rfl, hb1⟩
      have hz1 := hb1.size
      rw [e1]
      go_wp2_with fail
      go_ret2
      exact se_nil HX.out (by repeat (first | (with_reducible exact Below.refl _ _) | (with_reducible refine below_ov ?_ ?_) | (with_reducible refine Below.setCell ?_ ?_ _) | (with_reducible refine Below.alloc ?_ ?_ _) | (with_reducible refine Below.drew ?_) | (with_reducible refine below_drewN ?_ _) | (refine Below.trans ?_ (Below.mono ‹Below _ _ _› (by first | omega | (simp; done) | (simp; omega)))) | exact Below.refl _ _ | omega | (focus (simp; done)) | (focus (simp; omega))))
theorem SearchedCells_impl (F : Nat → ByteArray) (n : Nat) (p q : Nat → Int) (m lo hi : Nat) (v : Value) (lo2 hi2 : Nat) (u : Value) (w : World) (hv : Sl w lo hi 1 v n (sC F)) (hhi : hi ≤ w.heap.size) (hu : Sl w lo2 hi2 2 u m (iiC p q)) (hhi2 : hi2 ≤ w.heap.size) (hf : ffits F n) :
    Calls Tryd.prog 14 #[v, u] w fun e w' => ∃ v', e = .returned (.tuple #[v', .bool (seOk F n p q m)]) ∧ Own w' w.heap.size w'.heap.size 38 2 v' (seN F n p q m) (seN F n p q m) (iiC (seR F n p q m) (seC F n p q m)) ∧ Below w.heap.size w w' :=
  SearchedCells_implR F n p q m lo hi v lo2 hi2 u w hv hhi hu hhi2 hf

end Go.Proofs.YtpckhpkbdanjoaaDoor

/-
  Walks: ShareOut: the program's.-/
namespace Go.Proofs.YtpckhpkbdanjoaaDoor
set_option linter.unusedVariables false
set_option linter.unusedSimpArgs false
open Go.RowKit

set_option maxRecDepth 100000 in
set_option maxHeartbeats 6400000 in
theorem ShareOut_implR (F : Nat → ByteArray) (n : Nat) (p q : Nat → Int) (m lo hi : Nat) (v : Value) (lo2 hi2 : Nat) (u : Value) (w : World) (hv : Sl w lo hi 1 v n (sC F)) (hhi : hi ≤ w.heap.size) (hu : Sl w lo2 hi2 2 u m (iiC p q)) (hhi2 : hi2 ≤ w.heap.size) (hf : ffits F n) :
    Calls Tryd.prog 24 #[v, u] w (ShRes F n p q m w) := by
  obtain ⟨A, cap, rfl, hcap, hA⟩ := id hv.open_
  obtain ⟨A2, cap2, rfl, hcap2, hA2⟩ := id hu.open_
  have HV := hide hv
  have HU := hide hu
  clear hv hu hA
  cases e1 : flB F n with
  | false =>
    have HX : Hid (shOk F n p q m = false) := by show _ = _; rw [shOk, e1]; rfl
    clear hA2
    go_enter Tryd.func24, Tryd.ntmps24
    go_wp2_with fail
    refine (isFloor_any F n lo hi _ _ (HV.out.below (B := w.heap.size) (by repeat (first | (with_reducible exact Below.refl _ _) | (with_reducible refine below_ov ?_ ?_) | (with_reducible refine Below.setCell ?_ ?_ _) | (with_reducible refine Below.alloc ?_ ?_ _) | (with_reducible refine Below.drew ?_) | (with_reducible refine below_drewN ?_ _) | (refine Below.trans ?_ (Below.mono ‹Below _ _ _› (by first | omega | (simp; done) | (simp; omega)))) | exact Below.refl _ _ | omega | (focus (simp; done)) | (focus (simp; omega)))) hhi) (by first | omega | (simp; done) | (simp; omega)) hf).mono ?_
    rintro e w1 ⟨rfl, hb1⟩
    have hz1 := hb1.size
    rw [e1]
    go_wp2_with fail
    go_ret2
    exact sh_nil HX.out (by repeat (first | (with_reducible exact Below.refl _ _) | (with_reducible refine below_ov ?_ ?_) | (with_reducible refine Below.setCell ?_ ?_ _) | (with_reducible refine Below.alloc ?_ ?_ _) | (with_reducible refine Below.drew ?_) | (with_reducible refine below_drewN ?_ _) | (refine Below.trans ?_ (Below.mono ‹Below _ _ _› (by first | omega | (simp; done) | (simp; omega)))) | exact Below.refl _ _ | omega | (focus (simp; done)) | (focus (simp; omega))))
  | true =>
  have HG := hide e1
  cases e2 : inB m 1 8 with
  | false =>
    have HX : Hid (shOk F n p q m = false) := by show _ = _; rw [shOk, e2]; simp
    clear hA2
    go_enter Tryd.func24, Tryd.ntmps24
    go_wp2_with fail
    refine (isFloor_any F n lo hi _ _ (HV.out.below (B := w.heap.size) (by repeat (first | (with_reducible exact Below.refl _ _) | (with_reducible refine below_ov ?_ ?_) | (with_reducible refine Below.setCell ?_ ?_ _) | (with_reducible refine Below.alloc ?_ ?_ _) | (with_reducible refine Below.drew ?_) | (with_reducible refine below_drewN ?_ _) | (refine Below.trans ?_ (Below.mono ‹Below _ _ _› (by first | omega | (simp; done) | (simp; omega)))) | exact Below.refl _ _ | omega | (focus (simp; done)) | (focus (simp; omega)))) hhi) (by first | omega | (simp; done) | (simp; omega)) hf).mono ?_
    rintro e w1 ⟨rfl, hb1⟩
    have hz1 := hb1.size
    rw [e1]
    go_wp2_with (go_at_call 68; refine (inside_any _ _ _ _).mono ?_; rintro e w' ⟨rfl, rfl⟩)
    go_ret2
    exact sh_nil HX.out (by repeat (first | (with_reducible exact Below.refl _ _) | (with_reducible refine below_ov ?_ ?_) | (with_reducible refine Below.setCell ?_ ?_ _) | (with_reducible refine Below.alloc ?_ ?_ _) | (with_reducible refine Below.drew ?_) | (with_reducible refine below_drewN ?_ _) | (refine Below.trans ?_ (Below.mono ‹Below _ _ _› (by first | omega | (simp; done) | (simp; omega)))) | exact Below.refl _ _ | omega | (focus (simp; done)) | (focus (simp; omega))))
  | true =>
  have hm18 := inB_iff.1 e2
  have HE2 := hide e2
  obtain ⟨blk2, off2, rfl, k1, k2, k3⟩ := hA2 (by omega)
  have HC2 : Hid (∀ t, t < m → w.cell? ⟨blk2, off2 + t * 2, none⟩ = some (.int .i64 (p t)) ∧ w.cell? ⟨blk2, off2 + t * 2 + 1, none⟩ = some (.int .i64 (q t))) := fun t ht =>
    ⟨by simpa [iiC] using k3 t 0 ht (by omega), by simpa [iiC] using k3 t 1 ht (by omega)⟩
  have HPRE : Hid (∀ t, t ≤ m → Sl w lo2 hi2 2 (.slice (some ⟨blk2, off2, none⟩) t cap2) t (iiC p q)) := fun t ht =>
    SlA.shut (SlA.less (n := m) (fun _ => ⟨blk2, off2, rfl, k1, k2, k3⟩) ht) (by omega)
  have l2 : blk2 < w.heap.size := by omega
  clear hA2 k3
  go_enter Tryd.func24, Tryd.ntmps24
  go_wp2_with fail
  refine (isFloor_any F n lo hi _ _ (HV.out.below (B := w.heap.size) (by repeat (first | (with_reducible exact Below.refl _ _) | (with_reducible refine below_ov ?_ ?_) | (with_reducible refine Below.setCell ?_ ?_ _) | (with_reducible refine Below.alloc ?_ ?_ _) | (with_reducible refine Below.drew ?_) | (with_reducible refine below_drewN ?_ _) | (refine Below.trans ?_ (Below.mono ‹Below _ _ _› (by first | omega | (simp; done) | (simp; omega)))) | exact Below.refl _ _ | omega | (focus (simp; done)) | (focus (simp; omega)))) hhi) (by first | omega | (simp; done) | (simp; omega)) hf).mono ?_
  rintro e w1 ⟨rfl, hb1⟩
  rw [e1]
  have HB1 := hide hb1
  clear hb1 e1
  go_wp2_with (go_at_call 68; refine (inside_any _ _ _ _).mono ?_; rintro e w' ⟨rfl, rfl⟩)
  clear e2
  go_loopg [19] (m + 1) (fun gn b wr => ∃ t : Nat, t ≤ m ∧ m - t < gn ∧ b = .int .i64 t ∧ Hid (Below w.heap.size w wr) ∧ Hid (∀ j, j < t → (opB F n (p j) (q j) && !hasC p q (p j) (q j) j) = true))
  case atStart => exact ⟨0, by omega, by omega, rfl, HB1.out, fun j hj => absurd hj (Nat.not_lt_zero _)⟩
  case round =>
    obtain ⟨t, ht, hgt, rfl, HB, HJ⟩ := hrel
    have hz := HB.out.size
    by_cases htm : t < m
    · have c0 : wr.cell? ⟨blk2, off2 + t * 2, none⟩ = some (.int .i64 (p t)) := (HB.out.cell (p := ⟨blk2, off2 + t * 2, none⟩) l2).trans (HC2.out t htm).1
      have c1 : wr.cell? ⟨blk2, off2 + t * 2 + 1, none⟩ = some (.int .i64 (q t)) := (HB.out.cell (p := ⟨blk2, off2 + t * 2 + 1, none⟩) l2).trans (HC2.out t htm).2
      have l3 : blk2 < wr.heap.size := by omega
      have ht2 : t ≤ cap2 := by omega
      go_wp2_with fail
      obtain ⟨ab, hab⟩ : ∃ ab, ab = wr.heap.size := ⟨_, rfl⟩
      obtain ⟨Wa, hWa⟩ : ∃ Wa, Wa = wr.alloc (.cells #[.int .i64 (p t), .int .i64 (q t)] 38) := ⟨_, rfl⟩
      have XA : Hid (Bx2 Wa ab (p t) (q t)) := by show Bx2 _ _ _ _; rw [hWa, hab]; exact Bx2.new _ _ _
      have ba : Below wr.heap.size wr Wa := by rw [hWa]; exact (Below.refl _ _).alloc (Nat.le_refl _) _
      have HBA : Hid (Below w.heap.size w Wa) := HB.out.trans (ba.mono hz)
      rw [← hWa, ← hab]
      clear hWa hab ba c0 c1
      obtain ⟨x0, x1, xf, xl⟩ := XA.out
      have hza := HBA.out.size
      cases eo : opB F n (p t) (q t) with
      | false =>
        have HX : Hid (shOk F n p q m = false) := sh_bad htm (by rw [eo]; rfl)
        have HEO := hide eo
        (refine wp_region_below_lit (by kernel_rfl) (by kernel_rfl) ?_; (repeat (first | go_big_quiet_step ((first | (go_at_call 59; exact quiet_ov ((isOpen_any F n (p t) (q t) lo hi _ _ (HV.out.below (B := w.heap.size) (below_ov HBA.out (by omega)) hhi) (by simp [ov]; omega) HG.out))))) | quiet_step ((first | (go_at_call 59; exact quiet_ov ((isOpen_any F n (p t) (q t) lo hi _ _ (HV.out.below (B := w.heap.size) (below_ov HBA.out (by omega)) hhi) (by simp [ov]; omega) HG.out))))))); refine wpQuiet_nil ?_; intro w2 hb2; have hz2 := hb2.size; (try (simp at hz2)); obtain ⟨hcw2, hfw2⟩ := bcell hb2; (try (have hy2 : w.heap.size < w2.heap.size := by omega)); (try (have hyy2 : w.heap.size + 1 < w2.heap.size := by omega)))
        have HB2 : Hid (Below w.heap.size w w2) := HBA.out.trans (hb2.mono hza)
        clear x0 x1 xf xl hcw2 hfw2 hb2
        go_wp2_with fail
        go_ret2
        exact sh_nil HX.out HB2.out
      | true =>
        obtain ⟨tst, htst⟩ : ∃ z, hasC p q (p t) (q t) t = z := ⟨_, rfl⟩
        have HTST := hide htst
        clear htst
        (refine wp_region_below_lit (by kernel_rfl) (by kernel_rfl) ?_; (repeat (first | go_big_quiet_step ((first | (go_at_call 59; exact quiet_ov ((isOpen_any F n (p t) (q t) lo hi _ _ (HV.out.below (B := w.heap.size) (below_ov HBA.out (by omega)) hhi) (by simp [ov]; omega) HG.out))) | (go_at_call 69; exact quiet_ov ((ContainsCell_any p q t (p t) (q t) lo2 hi2 _ _ ((HPRE.out t (by omega)).below (B := w.heap.size) (below_ov HBA.out (by omega)) hhi2) (by simp [ov]; omega) (by omega)))))) | quiet_step ((first | (go_at_call 59; exact quiet_ov ((isOpen_any F n (p t) (q t) lo hi _ _ (HV.out.below (B := w.heap.size) (below_ov HBA.out (by omega)) hhi) (by simp [ov]; omega) HG.out))) | (go_at_call 69; exact quiet_ov ((ContainsCell_any p q t (p t) (q t) lo2 hi2 _ _ ((HPRE.out t (by omega)).below (B := w.heap.size) (below_ov HBA.out (by omega)) hhi2) (by simp [ov]; omega) (by omega)))))))); refine wpQuiet_nil ?_; intro w2 hb2; have hz2 := hb2.size; (try (simp at hz2)); obtain ⟨hcw2, hfw2⟩ := bcell hb2; (try (have hy2 : w.heap.size < w2.heap.size := by omega)); (try (have hyy2 : w.heap.size + 1 < w2.heap.size := by omega)))
        have HB2 : Hid (Below w.heap.size w w2) := HBA.out.trans (hb2.mono hza)
        clear x0 x1 xf xl hcw2 hfw2 hb2
        rw [HTST.out]
        cases tst with
        | true =>
          have HX : Hid (shOk F n p q m = false) := sh_bad htm (by rw [HTST.out]; simp)
          go_wp2_with fail
          go_ret2
          exact sh_nil HX.out HB2.out
        | false =>
          have HJ2 : Hid (∀ j, j < t + 1 → (opB F n (p j) (q j) && !hasC p q (p j) (q j) j) = true) := upto_snoc (p := fun j => opB F n (p j) (q j) && !hasC p q (p j) (q j) j) HJ.out (by simp [HTST.out, eo])
          clear eo
          go_wp2_with fail
          go_roundg (m - t)
          case measure => omega
          case rel => exact ⟨t + 1, by omega, by omega, by go_num, HB2.out, HJ2.out⟩
    · obtain rfl : t = m := by omega
      have HX : Hid (shOk F n p q t = true) := by show _ = _; rw [shOk, HG.out, HE2.out, allB_iff.2 HJ.out]; rfl
      have HOP : Hid (∀ j, j < t → opB F n (p j) (q j) = true) := fun j hj => ((sh_facts HX.out).2.2 j hj).1
      go_wp2_with fail
      refine (shareOut_any F n p q t lo hi lo2 hi2 _ _ _ (HV.out.below (B := w.heap.size) HB.out hhi) (by omega) (HU.out.below (B := w.heap.size) HB.out hhi2) (by omega) HG.out (by omega) (by omega) HOP.out).mono ?_
      rintro e w3 ⟨v3, rfl, hr3, hb3⟩
      have HR3 := hide hr3
      have HB3 : Hid (Below w.heap.size w w3) := HB.out.trans (hb3.mono hz)
      clear hr3 hb3
      obtain ⟨B3, c3', rfl⟩ := row_form HR3.out
      go_wp2_with fail
      go_ret2
      exact sh_row HX.out HR3.out hz HB3.out
theorem ShareOut_impl (F : Nat → ByteArray) (n : Nat) (p q : Nat → Int) (m lo hi : Nat) (v : Value) (lo2 hi2 : Nat) (u : Value) (w : World) (hv : Sl w lo hi 1 v n (sC F)) (hhi : hi ≤ w.heap.size) (hu : Sl w lo2 hi2 2 u m (iiC p q)) (hhi2 : hi2 ≤ w.heap.size) (hf : ffits F n) :
    Calls Tryd.prog 24 #[v, u] w fun e w' => ∃ v', e = .returned (.tuple #[v', .bool (shOk F n p q m)]) ∧ Own w' w.heap.size w'.heap.size 9 1 v' (shN F n p q m) (shN F n p q m) (sC (shT F n p q m)) ∧ Below w.heap.size w w' :=
  ShareOut_implR F n p q m lo hi v lo2 hi2 u w hv hhi hu hhi2 hf

end Go.Proofs.YtpckhpkbdanjoaaDoor

/-
  Closed facts on the whole program that every card of this seat asks.-/
namespace Go.Proofs.YtpckhpkbdanjoaaDoor
set_option linter.unusedVariables false
set_option linter.unusedSimpArgs false
open Go

theorem Tryd.mainIs0 : Tryd.pinned.checked.prog.mainIs = some (((true, "9bc3415960b78502ef8bbbaf3fc61dd07d7d66dca491c55dd25d91170ccba87f") : Bool × String).1, ((true, "9bc3415960b78502ef8bbbaf3fc61dd07d7d66dca491c55dd25d91170ccba87f") : Bool × String).2.toList) := by kernel_rfl
theorem Tryd.looks0 : false = Tryd.pinned.checked.prog.looks [] := by kernel_rfl

end Go.Proofs.YtpckhpkbdanjoaaDoor
