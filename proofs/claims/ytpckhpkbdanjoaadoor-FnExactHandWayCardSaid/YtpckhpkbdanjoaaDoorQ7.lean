/-
  Texts of this proof, one behind the other (part 7).
-/
import Derived.Test.YtpckhpkbdanjoaaDoorQ6
import Derived.Ground.NamesProg
import Derived.Shelf.Lay
import Derived.Shelf.Strings.Search3
import Derived.Deep.Heap
/-
  Walks: StepsFrom: the program's and the reference's.-/
namespace Go.Proofs.YtpckhpkbdanjoaaDoor
set_option linter.unusedVariables false
set_option linter.unusedSimpArgs false
open Go.RowKit

def sfOk (F : Nat → ByteArray) (n : Nat) (r c : Int) : Bool := flB F n && opB F n r c
def sfN (F : Nat → ByteArray) (n : Nat) (r c : Int) : Nat := if sfOk F n r c = true then n * (F 0).size else 0
def sfO (F : Nat → ByteArray) (n : Nat) (r c : Int) : Nat → Int := stF F n (r, c)
theorem fl_area {F : Nat → ByteArray} {n : Nat} (h : flB F n = true) : 1 ≤ n * (F 0).size ∧ n * (F 0).size ≤ 144 := by
  obtain ⟨g1, g2, g3, g4, _⟩ := flB_facts h
  have h5 : n * (F 0).size ≤ 12 * 12 := Nat.mul_le_mul g2 g4
  have h6 : 1 * 1 ≤ n * (F 0).size := Nat.mul_le_mul g1 g3
  omega
theorem sfN_le {F : Nat → ByteArray} {n : Nat} {r c : Int} : sfN F n r c ≤ 1048576 := by
  unfold sfN
  split
  · rename_i h
    simp only [sfOk, Bool.and_eq_true] at h
    have := fl_area h.1
    omega
  · omega
/-- What the call hands back. -/
def SfRes (F : Nat → ByteArray) (n : Nat) (r c : Int) (w : World) (e : Ending) (w' : World) : Prop := ∃ v', e = .returned (.tuple #[v', .bool (sfOk F n r c)]) ∧ Own w' w.heap.size w'.heap.size 3 1 v' (sfN F n r c) (sfN F n r c) (iC (sfO F n r c)) ∧ Below w.heap.size w w'
theorem sf_nil {F : Nat → ByteArray} {n : Nat} {r c : Int} {w w' : World} (h : sfOk F n r c = false) (hb : Below w.heap.size w w') : SfRes F n r c w (.returned (.tuple #[.slice none 0 0, .bool (sfOk F n r c)])) w' :=
  ⟨_, rfl, by rw [sfN, h]; exact Own.nil_ _ _ _ _ _ _, hb⟩
/-- The row of numbers, as the laws want it. -/
theorem st_row {w' : World} {g N co lo : Nat} {o : Nat → Int} (h : OwnL w' g (g + 1) 3 1 (.slice (some ⟨g, 0, none⟩) N co) N N (fun i => .int .i64 (o i))) (hN : 0 < N) (hl : lo ≤ g) : Own w' lo w'.heap.size 3 1 (.slice (some ⟨g, 0, none⟩) N co) N N (iC o) := by
  have h1 : OwnL w' g (g + 1) 3 1 (.slice (some ⟨g, 0, none⟩) N co) N (N * 1) (fun i => iC o (i / 1) (i % 1)) := by
    rw [Nat.mul_one]
    exact h.congr fun i _ => by simp [iC]
  exact (own_row (h1.rowL hN (by omega))).mono hl (Nat.le_refl _)
theorem sf_row {F : Nat → ByteArray} {n : Nat} {r c : Int} {w w' : World} {g co : Nat} (h : sfOk F n r c = true) (ho : OwnL w' g (g + 1) 3 1 (.slice (some ⟨g, 0, none⟩) (n * (F 0).size) co) (n * (F 0).size) (n * (F 0).size) (fun i => .int .i64 (stF F n (r, c) i))) (hl : w.heap.size ≤ g) (hb : Below w.heap.size w w') :
    SfRes F n r c w (.returned (.tuple #[.slice (some ⟨g, 0, none⟩) (n * (F 0).size) co, .bool (sfOk F n r c)])) w' := by
  have hN : sfN F n r c = n * (F 0).size := by rw [sfN, if_pos h]
  refine ⟨_, rfl, ?_, hb⟩
  rw [hN]
  have hf : flB F n = true := by simp only [sfOk, Bool.and_eq_true] at h; exact h.1
  have := fl_area hf
  exact st_row ho (by omega) hl
set_option maxRecDepth 100000 in
set_option maxHeartbeats 1600000 in
theorem seAsked_any (F : Nat → ByteArray) (n : Nat) (r c : Int) (lo hi : Nat) (v : Value) (w : World) (hv : Sl w lo hi 1 v n (sC F)) (hhi : hi ≤ w.heap.size) (hf : ffits F n) :
    Calls Tryd.prog 63 #[v, .agg #[.int .i64 r, .int .i64 c]] w fun e w' => e = .returned (.bool (sfOk F n r c)) ∧ Below w.heap.size w w' := by
  obtain ⟨A, cap, rfl, hcap, hA⟩ := hv.open_
  cases e1 : flB F n with
  | false =>
    have HX : Hid (sfOk F n r c = false) := by show _ = _; rw [sfOk, e1]; rfl
    go_enter Tryd.func63, Tryd.ntmps63
    go_wp2_with fail
    refine (seGood_any F n lo hi _ _ (hv.below (B := w.heap.size) (by repeat (first | (with_reducible exact Below.refl _ _) | (with_reducible refine below_ov ?_ ?_) | (with_reducible refine Below.setCell ?_ ?_ _) | (with_reducible refine Below.alloc ?_ ?_ _) | (with_reducible refine Below.drew ?_) | (with_reducible refine below_drewN ?_ _) | (refine Below.trans ?_ (Below.mono ‹Below _ _ _› (by first | omega | (simp; done) | (simp; omega)))) | exact Below.refl _ _ | omega | (focus (simp; done)) | (focus (simp; omega)))) hhi) (by first | omega | (simp; done) | (simp; omega)) hf).mono ?_
    rintro e w1 ⟨rfl, hb1⟩
    have hz1 := hb1.size
    rw [e1]
    go_wp2_with fail
    go_ret
    rw [HX.out]
    exact ⟨rfl, (by repeat (first | (with_reducible exact Below.refl _ _) | (with_reducible refine below_ov ?_ ?_) | (with_reducible refine Below.setCell ?_ ?_ _) | (with_reducible refine Below.alloc ?_ ?_ _) | (with_reducible refine Below.drew ?_) | (with_reducible refine below_drewN ?_ _) | (refine Below.trans ?_ (Below.mono ‹Below _ _ _› (by first | omega | (simp; done) | (simp; omega)))) | exact Below.refl _ _ | omega | (focus (simp; done)) | (focus (simp; omega))))⟩
  | true =>
    have HX : Hid (sfOk F n r c = opB F n r c) := by show _ = _; rw [sfOk, e1]; rfl
    have HG := hide e1
    go_enter Tryd.func63, Tryd.ntmps63
    go_wp2_with fail
    refine (seGood_any F n lo hi _ _ (hv.below (B := w.heap.size) (by repeat (first | (with_reducible exact Below.refl _ _) | (with_reducible refine below_ov ?_ ?_) | (with_reducible refine Below.setCell ?_ ?_ _) | (with_reducible refine Below.alloc ?_ ?_ _) | (with_reducible refine Below.drew ?_) | (with_reducible refine below_drewN ?_ _) | (refine Below.trans ?_ (Below.mono ‹Below _ _ _› (by first | omega | (simp; done) | (simp; omega)))) | exact Below.refl _ _ | omega | (focus (simp; done)) | (focus (simp; omega)))) hhi) (by first | omega | (simp; done) | (simp; omega)) hf).mono ?_
    rintro e w1 ⟨rfl, hb1⟩
    have hz1 := hb1.size
    (try (simp at hz1))
    rw [e1]
    clear e1
    have px0 := (hb1.cell (p := ⟨w.heap.size, 0, none⟩) (by simp)).trans (World.cell?_alloc_new _ _ _ _)
    have px1 := (hb1.cell (p := ⟨w.heap.size, 1, none⟩) (by simp)).trans (World.cell?_alloc_new _ _ _ _)
    simp at px0 px1
    have lp : w.heap.size < w1.heap.size := by omega
    go_wp2_with fail
    refine (seOpen_any F n r c lo hi _ _ (hv.below (B := w.heap.size) (by repeat (first | (with_reducible exact Below.refl _ _) | (with_reducible refine below_ov ?_ ?_) | (with_reducible refine Below.setCell ?_ ?_ _) | (with_reducible refine Below.alloc ?_ ?_ _) | (with_reducible refine Below.drew ?_) | (with_reducible refine below_drewN ?_ _) | (refine Below.trans ?_ (Below.mono ‹Below _ _ _› (by first | omega | (simp; done) | (simp; omega)))) | exact Below.refl _ _ | omega | (focus (simp; done)) | (focus (simp; omega)))) hhi) (by first | omega | (simp; done) | (simp; omega)) HG.out).mono ?_
    rintro e w2 ⟨rfl, hb2⟩
    have hz2 := hb2.size
    go_wp2_with fail
    go_ret
    rw [HX.out]
    exact ⟨rfl, (by repeat (first | (with_reducible exact Below.refl _ _) | (with_reducible refine below_ov ?_ ?_) | (with_reducible refine Below.setCell ?_ ?_ _) | (with_reducible refine Below.alloc ?_ ?_ _) | (with_reducible refine Below.drew ?_) | (with_reducible refine below_drewN ?_ _) | (refine Below.trans ?_ (Below.mono ‹Below _ _ _› (by first | omega | (simp; done) | (simp; omega)))) | exact Below.refl _ _ | omega | (focus (simp; done)) | (focus (simp; omega))))⟩
set_option maxRecDepth 100000 in
set_option maxHeartbeats 1600000 in
theorem StepsFrom_impl (F : Nat → ByteArray) (n : Nat) (r c : Int) (lo hi : Nat) (v : Value) (w : World) (hv : Sl w lo hi 1 v n (sC F)) (hhi : hi ≤ w.heap.size) (hf : ffits F n) :
    Calls Tryd.prog 31 #[v, .agg #[.int .i64 r, .int .i64 c]] w (SfRes F n r c w) := by
  obtain ⟨A, cap, rfl, hcap, hA⟩ := hv.open_
  cases e1 : flB F n with
  | false =>
    have HX : Hid (sfOk F n r c = false) := by show _ = _; rw [sfOk, e1]; rfl
    go_enter Tryd.func31, Tryd.ntmps31
    go_wp2_with fail
    refine (isFloor_any F n lo hi _ _ (hv.below (B := w.heap.size) (by repeat (first | (with_reducible exact Below.refl _ _) | (with_reducible refine below_ov ?_ ?_) | (with_reducible refine Below.setCell ?_ ?_ _) | (with_reducible refine Below.alloc ?_ ?_ _) | (with_reducible refine Below.drew ?_) | (with_reducible refine below_drewN ?_ _) | (refine Below.trans ?_ (Below.mono ‹Below _ _ _› (by first | omega | (simp; done) | (simp; omega)))) | exact Below.refl _ _ | omega | (focus (simp; done)) | (focus (simp; omega)))) hhi) (by first | omega | (simp; done) | (simp; omega)) hf).mono ?_
    rintro e w1 ⟨rfl, hb1⟩
    have hz1 := hb1.size
    rw [e1]
    go_wp2_with fail
    go_ret2
    have h := sf_nil HX.out (w' := w1) (w := w) (by repeat (first | (with_reducible exact Below.refl _ _) | (with_reducible refine below_ov ?_ ?_) | (with_reducible refine Below.setCell ?_ ?_ _) | (with_reducible refine Below.alloc ?_ ?_ _) | (with_reducible refine Below.drew ?_) | (with_reducible refine below_drewN ?_ _) | (refine Below.trans ?_ (Below.mono ‹Below _ _ _› (by first | omega | (simp; done) | (simp; omega)))) | exact Below.refl _ _ | omega | (focus (simp; done)) | (focus (simp; omega))))
    rw [HX.out] at h
    exact h
  | true =>
    have HG := hide e1
    go_enter Tryd.func31, Tryd.ntmps31
    go_wp2_with fail
    refine (isFloor_any F n lo hi _ _ (hv.below (B := w.heap.size) (by repeat (first | (with_reducible exact Below.refl _ _) | (with_reducible refine below_ov ?_ ?_) | (with_reducible refine Below.setCell ?_ ?_ _) | (with_reducible refine Below.alloc ?_ ?_ _) | (with_reducible refine Below.drew ?_) | (with_reducible refine below_drewN ?_ _) | (refine Below.trans ?_ (Below.mono ‹Below _ _ _› (by first | omega | (simp; done) | (simp; omega)))) | exact Below.refl _ _ | omega | (focus (simp; done)) | (focus (simp; omega)))) hhi) (by first | omega | (simp; done) | (simp; omega)) hf).mono ?_
    rintro e w1 ⟨rfl, hb1⟩
    have hz1 := hb1.size
    (try (simp at hz1))
    rw [e1]
    clear e1
    have HPX : Hid (∀ W, Below w1.heap.size w1 W → W.cell? ⟨w.heap.size, 0, none⟩ = some (.int .i64 r) ∧ W.cell? ⟨w.heap.size, 1, none⟩ = some (.int .i64 c)) := fun W hW =>
      ⟨(hW.cell (p := ⟨w.heap.size, 0, none⟩) (by show w.heap.size < _; omega)).trans ((hb1.cell (p := ⟨w.heap.size, 0, none⟩) (by simp)).trans (World.cell?_alloc_new _ _ _ _)), (hW.cell (p := ⟨w.heap.size, 1, none⟩) (by show w.heap.size < _; omega)).trans ((hb1.cell (p := ⟨w.heap.size, 1, none⟩) (by simp)).trans (World.cell?_alloc_new _ _ _ _))⟩
    have lp : w.heap.size < w1.heap.size := by omega
    obtain ⟨px0, px1⟩ := HPX.out _ (Below.refl _ _)
    cases e2 : opB F n r c with
    | false =>
      have HX : Hid (sfOk F n r c = false) := by show _ = _; rw [sfOk, HG.out, e2]; rfl
      go_wp2_with fail
      refine (isOpen_any F n r c lo hi _ _ (hv.below (B := w.heap.size) (by repeat (first | (with_reducible exact Below.refl _ _) | (with_reducible refine below_ov ?_ ?_) | (with_reducible refine Below.setCell ?_ ?_ _) | (with_reducible refine Below.alloc ?_ ?_ _) | (with_reducible refine Below.drew ?_) | (with_reducible refine below_drewN ?_ _) | (refine Below.trans ?_ (Below.mono ‹Below _ _ _› (by first | omega | (simp; done) | (simp; omega)))) | exact Below.refl _ _ | omega | (focus (simp; done)) | (focus (simp; omega)))) hhi) (by first | omega | (simp; done) | (simp; omega)) HG.out).mono ?_
      rintro e w2 ⟨rfl, hb2⟩
      have hz2 := hb2.size
      rw [e2]
      go_wp2_with fail
      go_ret2
      have h := sf_nil HX.out (w' := w2) (w := w) (by repeat (first | (with_reducible exact Below.refl _ _) | (with_reducible refine below_ov ?_ ?_) | (with_reducible refine Below.setCell ?_ ?_ _) | (with_reducible refine Below.alloc ?_ ?_ _) | (with_reducible refine Below.drew ?_) | (with_reducible refine below_drewN ?_ _) | (refine Below.trans ?_ (Below.mono ‹Below _ _ _› (by first | omega | (simp; done) | (simp; omega)))) | exact Below.refl _ _ | omega | (focus (simp; done)) | (focus (simp; omega))))
      rw [HX.out] at h
      exact h
    | true =>
      have HX : Hid (sfOk F n r c = true) := by show _ = _; rw [sfOk, HG.out, e2]; rfl
      have HO := hide e2
      go_wp2_with fail
      refine (isOpen_any F n r c lo hi _ _ (hv.below (B := w.heap.size) (by repeat (first | (with_reducible exact Below.refl _ _) | (with_reducible refine below_ov ?_ ?_) | (with_reducible refine Below.setCell ?_ ?_ _) | (with_reducible refine Below.alloc ?_ ?_ _) | (with_reducible refine Below.drew ?_) | (with_reducible refine below_drewN ?_ _) | (refine Below.trans ?_ (Below.mono ‹Below _ _ _› (by first | omega | (simp; done) | (simp; omega)))) | exact Below.refl _ _ | omega | (focus (simp; done)) | (focus (simp; omega)))) hhi) (by first | omega | (simp; done) | (simp; omega)) HG.out).mono ?_
      rintro e w2 ⟨rfl, hb2⟩
      have hz2 := hb2.size
      rw [e2]
      clear e2 px0 px1
      obtain ⟨px0, px1⟩ := HPX.out _ hb2
      have lp2 : w.heap.size < w2.heap.size := by omega
      go_wp2_with fail
      refine (stepsFrom_any F n r c lo hi _ _ (hv.below (B := w.heap.size) (by repeat (first | (with_reducible exact Below.refl _ _) | (with_reducible refine below_ov ?_ ?_) | (with_reducible refine Below.setCell ?_ ?_ _) | (with_reducible refine Below.alloc ?_ ?_ _) | (with_reducible refine Below.drew ?_) | (with_reducible refine below_drewN ?_ _) | (refine Below.trans ?_ (Below.mono ‹Below _ _ _› (by first | omega | (simp; done) | (simp; omega)))) | exact Below.refl _ _ | omega | (focus (simp; done)) | (focus (simp; omega)))) hhi) (by first | omega | (simp; done) | (simp; omega)) HG.out HO.out).mono ?_
      rintro e w3 ⟨g, rfl, ho, hg1, hg2, hb3⟩
      have hz3 := hb3.size
      have hbw : Below w.heap.size w w3 := (by repeat (first | (with_reducible exact Below.refl _ _) | (with_reducible refine below_ov ?_ ?_) | (with_reducible refine Below.setCell ?_ ?_ _) | (with_reducible refine Below.alloc ?_ ?_ _) | (with_reducible refine Below.drew ?_) | (with_reducible refine below_drewN ?_ _) | (refine Below.trans ?_ (Below.mono ‹Below _ _ _› (by first | omega | (simp; done) | (simp; omega)))) | exact Below.refl _ _ | omega | (focus (simp; done)) | (focus (simp; omega))))
      go_wp2_with fail
      go_ret2
      have h := sf_row HX.out ho (w := w) (by omega) hbw
      rw [HX.out] at h
      exact h
set_option maxRecDepth 100000 in
set_option maxHeartbeats 1600000 in
theorem StepsFrom_spec (F : Nat → ByteArray) (n : Nat) (r c : Int) (lo hi : Nat) (v : Value) (w : World) (hv : Sl w lo hi 1 v n (sC F)) (hhi : hi ≤ w.heap.size) (hf : ffits F n) :
    Calls Tryd.prog 32 #[v, .agg #[.int .i64 r, .int .i64 c]] w (SfRes F n r c w) := by
  obtain ⟨A, cap, rfl, hcap, hA⟩ := hv.open_
  cases e1 : sfOk F n r c with
  | false =>
    have HX := hide e1
    go_enter Tryd.func32, Tryd.ntmps32
    go_wp2_with fail
    refine (seAsked_any F n r c lo hi _ _ (hv.below (B := w.heap.size) (by repeat (first | (with_reducible exact Below.refl _ _) | (with_reducible refine below_ov ?_ ?_) | (with_reducible refine Below.setCell ?_ ?_ _) | (with_reducible refine Below.alloc ?_ ?_ _) | (with_reducible refine Below.drew ?_) | (with_reducible refine below_drewN ?_ _) | (refine Below.trans ?_ (Below.mono ‹Below _ _ _› (by first | omega | (simp; done) | (simp; omega)))) | exact Below.refl _ _ | omega | (focus (simp; done)) | (focus (simp; omega)))) hhi) (by first | omega | (simp; done) | (simp; omega)) hf).mono ?_
    rintro e w1 ⟨rfl, hb1⟩
    have hz1 := hb1.size
    rw [e1]
    go_wp2_with fail
    go_ret2
    have h := sf_nil HX.out (w' := w1) (w := w) (by repeat (first | (with_reducible exact Below.refl _ _) | (with_reducible refine below_ov ?_ ?_) | (with_reducible refine Below.setCell ?_ ?_ _) | (with_reducible refine Below.alloc ?_ ?_ _) | (with_reducible refine Below.drew ?_) | (with_reducible refine below_drewN ?_ _) | (refine Below.trans ?_ (Below.mono ‹Below _ _ _› (by first | omega | (simp; done) | (simp; omega)))) | exact Below.refl _ _ | omega | (focus (simp; done)) | (focus (simp; omega))))
    rw [HX.out] at h
    exact h
  | true =>
    have HX := hide e1
    have HGO : Hid (flB F n = true ∧ opB F n r c = true) := by
      show _ ∧ _
      simpa only [sfOk, Bool.and_eq_true] using e1
    go_enter Tryd.func32, Tryd.ntmps32
    go_wp2_with fail
    refine (seAsked_any F n r c lo hi _ _ (hv.below (B := w.heap.size) (by repeat (first | (with_reducible exact Below.refl _ _) | (with_reducible refine below_ov ?_ ?_) | (with_reducible refine Below.setCell ?_ ?_ _) | (with_reducible refine Below.alloc ?_ ?_ _) | (with_reducible refine Below.drew ?_) | (with_reducible refine below_drewN ?_ _) | (refine Below.trans ?_ (Below.mono ‹Below _ _ _› (by first | omega | (simp; done) | (simp; omega)))) | exact Below.refl _ _ | omega | (focus (simp; done)) | (focus (simp; omega)))) hhi) (by first | omega | (simp; done) | (simp; omega)) hf).mono ?_
    rintro e w1 ⟨rfl, hb1⟩
    have hz1 := hb1.size
    (try (simp at hz1))
    rw [e1]
    clear e1
    have px0 := (hb1.cell (p := ⟨w.heap.size, 0, none⟩) (by simp)).trans (World.cell?_alloc_new _ _ _ _)
    have px1 := (hb1.cell (p := ⟨w.heap.size, 1, none⟩) (by simp)).trans (World.cell?_alloc_new _ _ _ _)
    simp at px0 px1
    have lp : w.heap.size < w1.heap.size := by omega
    go_wp2_with fail
    refine (seSteps_any F n r c lo hi _ _ (hv.below (B := w.heap.size) (by repeat (first | (with_reducible exact Below.refl _ _) | (with_reducible refine below_ov ?_ ?_) | (with_reducible refine Below.setCell ?_ ?_ _) | (with_reducible refine Below.alloc ?_ ?_ _) | (with_reducible refine Below.drew ?_) | (with_reducible refine below_drewN ?_ _) | (refine Below.trans ?_ (Below.mono ‹Below _ _ _› (by first | omega | (simp; done) | (simp; omega)))) | exact Below.refl _ _ | omega | (focus (simp; done)) | (focus (simp; omega)))) hhi) (by first | omega | (simp; done) | (simp; omega)) HGO.out.1 HGO.out.2).mono ?_
    rintro e w3 ⟨g, co, rfl, ho, hg1, hg2, hb3⟩
    have hz3 := hb3.size
    have hbw : Below w.heap.size w w3 := (by repeat (first | (with_reducible exact Below.refl _ _) | (with_reducible refine below_ov ?_ ?_) | (with_reducible refine Below.setCell ?_ ?_ _) | (with_reducible refine Below.alloc ?_ ?_ _) | (with_reducible refine Below.drew ?_) | (with_reducible refine below_drewN ?_ _) | (refine Below.trans ?_ (Below.mono ‹Below _ _ _› (by first | omega | (simp; done) | (simp; omega)))) | exact Below.refl _ _ | omega | (focus (simp; done)) | (focus (simp; omega))))
    go_wp2_with fail
    go_ret2
    have h := sf_row HX.out ho (w := w) (by omega) hbw
    rw [HX.out] at h
    exact h

end Go.Proofs.YtpckhpkbdanjoaaDoor

/-
  Walks: a way is followed: the program's and the reference's.-/
namespace Go.Proofs
open Go.RowKit Go.Shelf
shelf_lay Lays.n144 Nm 144 at Tryd as YtpckhpkbdanjoaaDoor.laysContains
end Go.Proofs
namespace Go.Proofs.YtpckhpkbdanjoaaDoor
set_option linter.unusedVariables false
set_option linter.unusedSimpArgs false
open Go.RowKit Go.Shelf

/-- The direction of a letter, or -1. -/
def ltr (b : Int) : Int := if b = 110 then 0 else if b = 101 then 1 else if b = 115 then 2 else if b = 119 then 3 else -1
theorem ltr_dL {d : Nat} (hd : d < 4) : ltr (dL d) = d := by
  have h4 : d = 0 ∨ d = 1 ∨ d = 2 ∨ d = 3 := by omega
  rcases h4 with rfl | rfl | rfl | rfl <;> rfl
theorem ltr_cases (b : Int) : ltr b = -1 ∧ b ≠ 110 ∧ b ≠ 101 ∧ b ≠ 115 ∧ b ≠ 119 ∨ ∃ d, d < 4 ∧ b = dL d ∧ ltr b = d := by
  by_cases h0 : b = 110
  · exact .inr ⟨0, by omega, h0, by rw [h0]; rfl⟩
  by_cases h1 : b = 101
  · exact .inr ⟨1, by omega, h1, by rw [h1]; rfl⟩
  by_cases h2 : b = 115
  · exact .inr ⟨2, by omega, h2, by rw [h2]; rfl⟩
  by_cases h3 : b = 119
  · exact .inr ⟨3, by omega, h3, by rw [h3]; rfl⟩
  exact .inl ⟨by simp [ltr, h0, h1, h2, h3], h0, h1, h2, h3⟩
/-- Where the first letters lead, if they lead anywhere. -/
def fwA (F : Nat → ByteArray) (n : Nat) (a : Int × Int) (s : ByteArray) : Nat → Option (Int × Int)
  | 0 => some a
  | k + 1 => match fwA F n a s k with
    | none => none
    | some p => if 0 ≤ ltr (byteAt s k) ∧ opP F n (stp p (ltr (byteAt s k)).toNat) = true then some (stp p (ltr (byteAt s k)).toNat) else none
def fwOk (F : Nat → ByteArray) (n : Nat) (r c : Int) (s : ByteArray) : Bool := sfOk F n r c && (decide (s.size ≤ 200) && (fwA F n (r, c) s s.size).isSome)
def fwP (F : Nat → ByteArray) (n : Nat) (r c : Int) (s : ByteArray) : Int × Int := if fwOk F n r c s = true then (fwA F n (r, c) s s.size).getD (0, 0) else (0, 0)
theorem fwA_none {F : Nat → ByteArray} {n : Nat} {a : Int × Int} {s : ByteArray} {k : Nat} (h : fwA F n a s k = none) : ∀ {m : Nat}, k ≤ m → fwA F n a s m = none
  | 0, hm => by
    obtain rfl : k = 0 := by omega
    cases h
  | m + 1, hm => by
    rcases Nat.lt_or_ge k (m + 1) with h1 | h1
    · rw [fwA, fwA_none h (show k ≤ m by omega)]
    · obtain rfl : k = m + 1 := by omega
      exact h
theorem fwA_step {F : Nat → ByteArray} {n : Nat} {a p : Int × Int} {s : ByteArray} {k d : Nat} (h : fwA F n a s k = some p) (hd : ltr (byteAt s k) = d) (ho : opP F n (stp p d) = true) : fwA F n a s (k + 1) = some (stp p d) := by
  rw [fwA, h]
  simp only [hd, Int.toNat_natCast, ho, and_true]
  rw [if_pos (by omega)]
theorem fwA_wall {F : Nat → ByteArray} {n : Nat} {a p : Int × Int} {s : ByteArray} {k d : Nat} (h : fwA F n a s k = some p) (hd : ltr (byteAt s k) = d) (ho : opP F n (stp p d) = false) : fwA F n a s (k + 1) = none := by
  rw [fwA, h]
  simp only [hd, Int.toNat_natCast, ho]
  rw [if_neg (by simp)]
theorem fwA_bad {F : Nat → ByteArray} {n : Nat} {a p : Int × Int} {s : ByteArray} {k : Nat} (h : fwA F n a s k = some p) (hd : ltr (byteAt s k) = -1) : fwA F n a s (k + 1) = none := by
  rw [fwA, h]
  simp only [hd]
  rw [if_neg (by omega)]
theorem fwA_open {F : Nat → ByteArray} {n : Nat} {a p : Int × Int} {s : ByteArray} (ha : opP F n a = true) : ∀ {k : Nat}, fwA F n a s k = some p → opP F n p = true
  | 0, h => by
    injection h with h
    rw [← h]; exact ha
  | k + 1, h => by
    rw [fwA] at h
    cases e : fwA F n a s k with
    | none => rw [e] at h; cases h
    | some q =>
      rw [e] at h
      simp only at h
      split at h
      · rename_i h1
        injection h with h
        rw [← h]; exact h1.2
      · cases h
theorem fw_no {F : Nat → ByteArray} {n : Nat} {r c : Int} {s : ByteArray} {k : Nat} (h : fwA F n (r, c) s k = none) (hk : k ≤ s.size) : fwOk F n r c s = false := by
  rw [fwOk, fwA_none h hk]
  simp
theorem dLs_get {d : Nat} (h : d < (⟨#[110, 101, 115, 119]⟩ : ByteArray).size) : (((⟨#[110, 101, 115, 119]⟩ : ByteArray)[d]).toNat : Int) = dL d := by
  have h4 : d = 0 ∨ d = 1 ∨ d = 2 ∨ d = 3 := by have : d < 4 := h; omega
  rcases h4 with rfl | rfl | rfl | rfl <;> rfl
set_option maxHeartbeats 1600000 in
theorem seLetter_any (b : Int) (w : World) :
    Calls Tryd.prog 84 #[.int .u8 b] w fun e w' => e = .returned (.int .i64 (ltr b)) ∧ w = w' := by
  go_enter Tryd.func84, Tryd.ntmps84
  go_wp2_with fail
  go_loop [3] (fun dv => ∃ d : Nat, d ≤ 4 ∧ dv = .int .i64 d ∧ Hid (∀ e, e < d → b ≠ dL e)) (fun dv => 4 - (intOf dv).toNat)
  case atStart => exact ⟨0, by omega, rfl, fun e he => by omega⟩
  case round =>
    obtain ⟨d, hd, rfl, he⟩ := hrel
    by_cases hd4 : d < 4
    · have hsz : d < (⟨#[110, 101, 115, 119]⟩ : ByteArray).size := hd4
      have hge := dLs_get hsz
      by_cases hb : b = dL d
      · have hq : (b == (((⟨#[110, 101, 115, 119]⟩ : ByteArray)[d]).toNat : Int)) = true := by rw [hge, hb]; simp
        have HX : Hid (ltr b = d) := by show _ = _; rw [hb]; exact ltr_dL hd4
        clear hb hge
        go_wp2_with fail
        go_ret
        exact ⟨ret_int HX.out.symm, rfl⟩
      · have hq : (b == (((⟨#[110, 101, 115, 119]⟩ : ByteArray)[d]).toNat : Int)) = false := by rw [hge]; simpa using hb
        have HX : Hid (∀ e, e < d + 1 → b ≠ dL e) := fun e h => by
          rcases Nat.lt_or_ge e d with h1 | h1
          · exact he.out e h1
          · obtain rfl : e = d := by omega
            exact hb
        clear hb hge
        go_wp2_with fail
        go_round
        case rel => exact ⟨d + 1, by omega, by go_num, HX.out⟩
        case measure => simp [intOf]; omega
    · obtain rfl : d = 4 := by omega
      have HX : Hid (ltr b = -1) := by
        show _ = _
        rcases ltr_cases b with h | ⟨d, hd, hb, _⟩
        · exact h.1
        · exact absurd hb (he.out d hd)
      go_wp2_with fail
      go_ret
      exact ⟨ret_int HX.out.symm, rfl⟩
theorem extract_one (s : ByteArray) {i : Nat} (hi : i < s.size) : s.extract i (i + 1) = ⟨#[s[i]]⟩ := by
  apply WideShapes.bytes_inj
  rw [ByteArray.data_extract, Array.toList_extract]
  simp only [List.extract_eq_take_drop]
  rw [List.take_drop]
  have h : s.data.toList[i]? = some s[i] := by rw [List.getElem?_eq_getElem (by simpa using hi)]; rfl
  apply List.ext_getElem?
  intro j
  simp only [List.getElem?_drop, List.getElem?_take]
  match j with
  | 0 => simp [h]
  | j + 1 => simp
theorem Contains_d (s : ByteArray) (i : Nat) (hi : i < s.size) (w : World) :
    Calls Tryd.prog 83 #[.string ⟨#[110, 101, 115, 119]⟩, .string (s.extract i (i + 1))] w fun e w' => e = .returned (.bool (decide (0 ≤ ltr (byteAt s i)))) ∧ w = w' := by
  have hcon := Any.strings_Contains_one YtpckhpkbdanjoaaDoor.laysContains ⟨#[110, 101, 115, 119]⟩ s[i] w
  change Calls Tryd.prog 83 _ _ (fun e w' => _) at hcon
  rw [extract_one s hi]
  refine hcon.mono fun e w' ⟨he, hw⟩ => ⟨?_, hw.symm⟩
  rw [he]
  congr 2
  rw [← byteAt_eq hi]
  generalize s[i] = b
  have key : ∀ n : Fin 256, decide (0 ≤ Lib.indexByte [110, 101, 115, 119] (UInt8.ofNat n.val)) = decide (0 ≤ ltr (n.val : Int)) := by decide +kernel
  have h := key ⟨b.toNat, b.toNat_lt⟩
  simp only [UInt8.ofNat_toNat] at h
  exact h

end Go.Proofs.YtpckhpkbdanjoaaDoor

/-
  Regions that draw their order, two operations that write at choice: a tree of orders.-/
namespace Go.Proofs.YtpckhpkbdanjoaaDoor
set_option linter.unusedVariables false
set_option linter.unusedSimpArgs false
open Go

inductive MT where
  | nil : MT
  | step (k : Nat) (b : Bool) (t : MT) : MT
  | fork (i : Nat) (s : MT) (j : Nat) (t : MT) : MT
def MT.len : MT → Nat
  | .nil => 0
  | .step _ _ t => t.len + 1
  | .fork _ s _ _ => s.len + 1
section
variable {P : Program} {ops : Array Oper} {md : Region.Mode} {C : World → Prop} {Q : Act → World → Prop}
def MT.from (md : Region.Mode) (ops : Array Oper) : MT → Array Bool → Bool
  | .nil, listed => (Region.ready md ops listed).isEmpty
  | .step k b r, listed => (if b then (Region.ready md ops listed).contains k && Region.free md ops listed k else Region.ready md ops listed == [k]) && r.from md ops (listed.setIfInBounds k true)
  | .fork i s j t, listed => Region.ready md ops listed == [i, j] && (s.len == t.len) && s.from md ops (listed.setIfInBounds i true) && t.from md ops (listed.setIfInBounds j true)
def wpMT (P : Program) (ops : Array Oper) (C : World → Prop) (Q : Act → World → Prop) : MT → Act → World → Prop
  | .nil, a, w => Q a w
  | .step k true r, a, w => ∃ o v, ops[k]? = some o ∧ YieldsAll P ops C o v a ∧ wpMT P ops C Q r (a.put o.dst v) w
  | .step k false r, a, w => eOp P ops k (fun a' w' => C w' ∧ wpMT P ops C Q r a' w') a w
  | .fork i s j t, a, w => eOp P ops i (fun a' w' => C w' ∧ wpMT P ops C Q s a' w') a w ∧ eOp P ops j (fun a' w' => C w' ∧ wpMT P ops C Q t a' w') a w
theorem wpAnyM_tree (hs : Region.noSelect ops = true) : ∀ (r : MT) (listed : Array Bool) (a : Act) (w : World), C w → r.from md ops listed = true → wpMT P ops C Q r a w → wpAnyM P md ops C Q r.len listed a w
  | .nil, _, _, _, _, hB, h => ⟨by simpa [MT.from] using hB, h⟩
  | .step k true r, listed, a, w, hC, hB, h => by
    simp only [MT.from, if_true, Bool.and_eq_true] at hB
    obtain ⟨⟨hr, hf⟩, hB'⟩ := hB
    obtain ⟨o, v, ho, hy, hK⟩ := h
    exact wpAnyM_first ho (Region.noSelect_spec hs) r.len listed a w hC (Region.free_spec ho hf) (by simpa using hr) hy (wpAnyM_tree hs r _ _ _ hC hB' hK)
  | .step k false r, listed, a, w, hC, hB, h => by
    simp only [MT.from, Bool.false_eq_true, if_false, Bool.and_eq_true, beq_iff_eq] at hB
    obtain ⟨hr, hB'⟩ := hB
    refine ⟨fun h0 => (by rw [hr] at h0; cases h0), fun i hi => ?_⟩
    rw [hr] at hi
    obtain rfl : i = k := by simpa using hi
    exact eOp_mono (fun a' w' h' => ⟨h'.1, wpAnyM_tree hs r _ a' w' h'.1 hB' h'.2⟩) h
  | .fork i s j t, listed, a, w, hC, hB, h => by
    simp only [MT.from, Bool.and_eq_true, beq_iff_eq] at hB
    obtain ⟨⟨⟨hr, hl⟩, hB1⟩, hB2⟩ := hB
    refine ⟨fun h0 => (by rw [hr] at h0; cases h0), fun k hk => ?_⟩
    rw [hr] at hk
    simp only [List.mem_cons, List.mem_nil_iff, or_false] at hk
    rcases hk with rfl | rfl
    · exact eOp_mono (fun a' w' h' => ⟨h'.1, wpAnyM_tree hs s _ a' w' h'.1 hB1 h'.2⟩) h.1
    · refine eOp_mono (fun a' w' h' => ⟨h'.1, ?_⟩) h.2
      rw [hl]
      exact wpAnyM_tree hs t _ a' w' h'.1 hB2 h'.2
theorem wp_region_tree {id : Nat} {Q : Exit → Act → World → Prop} {a : Act} {w : World} {l : List Oper} (r : MT) (C : World → Prop) (hm : P.follows .mixedOrders = true) (hs : Region.noSelect l.toArray = true) (hl : r.len = l.toArray.size)
    (hB : r.from .any l.toArray (Array.replicate l.toArray.size false) = true) (hC : C { w with drawn := w.drawn + 1 })
    (h : wpMT P l.toArray C (fun a' w' => Q .normal a' w') r a { w with drawn := w.drawn + 1 }) : (Code.region id l.toArray true).wp P Q a w := by
  refine wp_region_any hm (wpAny_of_M (C := C) (Q := fun a' w' => Q .normal a' w') (fun _ _ h => h) _ _ _ _ ?_)
  rw [← hl]
  exact wpAnyM_tree hs r _ a _ hC (by rw [hl]; exact hB) h
theorem tree_look {k : Nat} {r : MT} {a : Act} {w : World} (o : Oper) (v : Value) (hk : ops[k]? = some o) (hw : Region.wanted o (yielded ops a.tmps) = true) (hv : ∀ w, C w → (execOp a.eval o).run P w = .ok (.value v) w)
    (h : wpMT P ops C Q r (a.put o.dst v) w) : wpMT P ops C Q (.step k true r) a w := ⟨o, v, hk, .inl ⟨hw, hv⟩, h⟩
theorem tree_value {k : Nat} {r : MT} {a : Act} {w : World} (o : Oper) (v : Value) (w' : World) (hk : ops[k]? = some o) (hw : Region.wanted o (yielded ops a.tmps) = true) (hv : (execOp a.eval o).run P w = .ok (.value v) w') (hC : C w')
    (h : wpMT P ops C Q r (a.put o.dst v) w') : eOp P ops k (fun a' w' => C w' ∧ wpMT P ops C Q r a' w') a w := by
  unfold eOp
  simp only [hk, hw, if_true, hv, goesUpon]
  exact ⟨hC, h⟩
theorem wpMT_eff {k : Nat} {r : MT} {a : Act} {w : World} (h : eOp P ops k (fun a' w' => C w' ∧ wpMT P ops C Q r a' w') a w) : wpMT P ops C Q (.step k false r) a w := h
theorem wpMT_fork {i j : Nat} {s t : MT} {a : Act} {w : World} (h : eOp P ops i (fun a' w' => C w' ∧ wpMT P ops C Q s a' w') a w) (h' : eOp P ops j (fun a' w' => C w' ∧ wpMT P ops C Q t a' w') a w) : wpMT P ops C Q (.fork i s j t) a w := ⟨h, h'⟩
theorem wpMT_nil {a : Act} {w : World} (h : Q a w) : wpMT P ops C Q .nil a w := h
end

end Go.Proofs.YtpckhpkbdanjoaaDoor

/-
  A box of two integers; two more steps of a region that draws its order by a tree.-/
namespace Go.Proofs.YtpckhpkbdanjoaaDoor
set_option linter.unusedVariables false
set_option linter.unusedSimpArgs false
open Go Go.RowKit Go.Deep

theorem tree_call {P : Program} {ops : Array Oper} {C : World → Prop} {Q : Act → World → Prop} {k : Nat} {r : MT} {a : Act} {w : World} (o : Oper) (f : FuncId) (args : Array Value) (hk : ops[k]? = some o) (hw : Region.wanted o (yielded ops a.tmps) = true) (hv : (execOp a.eval o).run P w = .ok (.enter f args) w)
    (h : Calls P f args w fun e w'' => ∃ v, e = .returned v ∧ C w'' ∧ wpMT P ops C Q r (a.put o.dst v) w'') : eOp P ops k (fun a' w' => C w' ∧ wpMT P ops C Q r a' w') a w := by
  unfold eOp
  simp only [hk, hw, if_true, hv, goesUpon]
  exact h
theorem tree_store {P : Program} {ops : Array Oper} {C : World → Prop} {Q : Act → World → Prop} {k : Nat} {r : MT} {a : Act} {w : World} (o : Oper) (w' : World) (hk : ops[k]? = some o) (hw : Region.wanted o (yielded ops a.tmps) = true) (hv : (execOp a.eval o).run P w = .ok .skip w') (hC : C w')
    (h : wpMT P ops C Q r (a.put o.dst undef) w') : eOp P ops k (fun a' w' => C w' ∧ wpMT P ops C Q r a' w') a w := by
  unfold eOp
  simp only [hk, hw, if_true, hv, goesUpon]
  exact ⟨hC, h⟩

theorem wp_region_mixd {P : Program} {id : Nat} {Q : Exit → Act → World → Prop} {a : Act} {w : World} {l : List Oper} (r : List (Nat × Bool)) (C : World → Prop) (hm : P.follows .mixedOrders = true) (hs : Region.noSelect l.toArray = true) (hl : r.length = l.toArray.size)
    (hB : mixFrom .any l.toArray r (Array.replicate l.toArray.size false) = true) (hC : C w.drew)
    (h : ∀ W, Hid (W = w.drew) → C W → wpMix P l.toArray C (fun a' w' => Q .normal a' w') r a W) : (Code.region id l.toArray true).wp P Q a w :=
  wp_region_mix r C hm hs hl hB hC (h _ (hide rfl) hC)

/-- A box of two integers. -/
structure Bx2 (w : World) (b : Nat) (x y : Int) : Prop where
  c0 : w.cell? ⟨b, 0, none⟩ = some (.int .i64 x)
  c1 : w.cell? ⟨b, 1, none⟩ = some (.int .i64 y)
  fr : ∀ o, w.frozen? ⟨b, o, none⟩ = false
  lt : b < w.heap.size
section
variable {w w' : World} {b b' : Nat} {x y x' y' : Int}
theorem Bx2.keep (h : Bx2 w b x y) (hk : w'.heap[b]? = w.heap[b]?) (hs : b < w'.heap.size) : Bx2 w' b x y :=
  ⟨(World.cell?_of_block (a := ⟨b, 0, none⟩) hk).trans h.c0, (World.cell?_of_block (a := ⟨b, 1, none⟩) hk).trans h.c1, fun o => (World.frozen?_of_block (a := ⟨b, o, none⟩) hk).trans (h.fr o), hs⟩
theorem Bx2.below {B : Nat} (h : Bx2 w b x y) (hb : Below B w w') (hB : b < B) : Bx2 w' b x y := h.keep (hb.block b hB) (Nat.lt_of_lt_of_le h.lt hb.size)
theorem Bx2.new (w : World) (x y : Int) : Bx2 (w.alloc (.cells #[.int .i64 x, .int .i64 y] 38)) w.heap.size x y :=
  ⟨World.cell?_alloc_new _ _ _ _, World.cell?_alloc_new _ _ _ _, fun o => by simp only [World.frozen?]; rw [heap_alloc_new]; simp, by simp⟩
theorem Bx2.set (h : Bx2 w b x y) (x' y' : Int) : Bx2 ((w.setCell ⟨b, 0, none⟩ (.int .i64 x')).setCell ⟨b, 1, none⟩ (.int .i64 y')) b x' y' := by
  have h0 := h.c0
  have h1 := h.c1
  exact ⟨by simp [go_sem, h0, h1], by simp [go_sem, h0, h1], fun o => by simp [go_sem, h.fr], by simp [World.setCell]; exact h.lt⟩
theorem Bx2.other (h : Bx2 w b x y) (hne : b ≠ b') (u v : Value) : Bx2 ((w.setCell ⟨b', 0, none⟩ u).setCell ⟨b', 1, none⟩ v) b x y :=
  h.keep ((Deep.blk_setCell_other _ _ _ _ hne).trans (Deep.blk_setCell_other _ _ _ _ hne)) (by simp [World.setCell]; exact h.lt)
end

end Go.Proofs.YtpckhpkbdanjoaaDoor

/-
  Walks: FollowWay: the program's and the reference's.-/
namespace Go.Proofs.YtpckhpkbdanjoaaDoor
set_option linter.unusedVariables false
set_option linter.unusedSimpArgs false
open Go.RowKit Go.Shelf

/-- What the call hands back. -/
def FwRes (F : Nat → ByteArray) (n : Nat) (r c : Int) (s : ByteArray) (w : World) (e : Ending) (w' : World) : Prop := e = .returned (.tuple #[.agg #[.int .i64 (fwP F n r c s).1, .int .i64 (fwP F n r c s).2], .bool (fwOk F n r c s)]) ∧ Below w.heap.size w w'
theorem fw_nil {F : Nat → ByteArray} {n : Nat} {r c : Int} {s : ByteArray} {w w' : World} (h : fwOk F n r c s = false) (hb : Below w.heap.size w w') : FwRes F n r c s w (.returned (.tuple #[.agg #[.int .i64 0, .int .i64 0], .bool false])) w' :=
  ⟨by rw [fwP, h]; rfl, hb⟩
theorem fw_at {F : Nat → ByteArray} {n : Nat} {r c : Int} {s : ByteArray} {w w' : World} {p : Int × Int} (h1 : sfOk F n r c = true) (h2 : s.size ≤ 200) (h : fwA F n (r, c) s s.size = some p) (hb : Below w.heap.size w w') : FwRes F n r c s w (.returned (.tuple #[.agg #[.int .i64 p.1, .int .i64 p.2], .bool true])) w' := by
  have h3 : fwOk F n r c s = true := by rw [fwOk, h1, h, decide_eq_true h2]; rfl
  exact ⟨by rw [fwP, if_pos h3, h, h3]; rfl, hb⟩
set_option maxRecDepth 100000 in
set_option maxHeartbeats 3200000 in
theorem FollowWay_spec (F : Nat → ByteArray) (n : Nat) (r c : Int) (s : ByteArray) (lo hi : Nat) (v : Value) (w : World) (hv : Sl w lo hi 1 v n (sC F)) (hhi : hi ≤ w.heap.size) (hf : ffits F n) (hms : s.size ≤ maxLen) :
    Calls Tryd.prog 37 #[v, .agg #[.int .i64 r, .int .i64 c], .string s] w (FwRes F n r c s w) := by
  obtain ⟨A, capF, rfl, hcap, hA⟩ := hv.open_
  unfold maxLen at hms
  clear hA
  go_enter Tryd.func37, Tryd.ntmps37
  go_wp2_with fail
  refine (seAsked_any F n r c lo hi _ _ (hv.below (B := w.heap.size) (by repeat (first | (with_reducible exact Below.refl _ _) | (with_reducible refine below_ov ?_ ?_) | (with_reducible refine Below.setCell ?_ ?_ _) | (with_reducible refine Below.alloc ?_ ?_ _) | (with_reducible refine Below.drew ?_) | (with_reducible refine below_drewN ?_ _) | (refine Below.trans ?_ (Below.mono ‹Below _ _ _› (by first | omega | (simp; done) | (simp; omega)))) | exact Below.refl _ _ | omega | (focus (simp; done)) | (focus (simp; omega)))) hhi) (by simp; omega) hf).mono ?_
  rintro e w1 ⟨rfl, hb1⟩
  have hz1 := hb1.size
  simp at hz1
  have hb01 : Below w.heap.size w w1 := (by repeat (first | (with_reducible exact Below.refl _ _) | (with_reducible refine below_ov ?_ ?_) | (with_reducible refine Below.setCell ?_ ?_ _) | (with_reducible refine Below.alloc ?_ ?_ _) | (with_reducible refine Below.drew ?_) | (with_reducible refine below_drewN ?_ _) | (refine Below.trans ?_ (Below.mono ‹Below _ _ _› (by first | omega | (simp; done) | (simp; omega)))) | exact Below.refl _ _ | omega | (focus (simp; done)) | (focus (simp; omega))))
  have B1 : Bx2 w1 w.heap.size r c := ((Bx2.new w r c).below ((Below.refl _ _).alloc (Nat.le_refl _) _) (by simp)).below hb1 (by simp; omega)
  have R1 : Bx2 w1 (w.heap.size + 1) 0 0 := by
    have h := Bx2.new (w.alloc (.cells #[.int .i64 r, .int .i64 c] 38)) 0 0
    simp only [World.size_alloc] at h
    exact h.below hb1 (by simp)
  cases e1 : sfOk F n r c with
  | false =>
    have HX : Hid (fwOk F n r c s = false) := by show _ = _; rw [fwOk, e1]; rfl
    obtain ⟨r0, r1, rf, rl⟩ := R1
    clear B1
    go_wp2_with fail
    refine bodyPost_ret (v := .tuple #[.agg #[.int .i64 0, .int .i64 0], .bool false]) (by simp [results, Tryd.results37, go_sem, *]) rfl (fw_nil HX.out ?_)
    exact (hb01.setCell (by simp) _).setCell (by simp) _
  | true =>
    have HS := hide e1
    have HGO : Hid (flB F n = true ∧ opB F n r c = true) := by
      show _ ∧ _
      simpa only [sfOk, Bool.and_eq_true] using e1
    clear e1
    by_cases hs2 : s.size ≤ 200
    · have d2 : decide ((s.size : Int) > 200) = false := decide_eq_false (by omega)
      have HB1 := hide B1
      have HR1 := hide R1
      clear B1 R1
      go_wp2_with fail
      go_loopg [8, 9] (s.size + 1) (fun gn iv dv wr => ∃ (k : Nat) (p : Int × Int), k ≤ s.size ∧ s.size - k < gn ∧ iv = .int .i64 k ∧ Hid (fwA F n (r, c) s k = some p) ∧ Hid (Bx2 wr w.heap.size p.1 p.2) ∧ Hid (Bx2 wr (w.heap.size + 1) 0 0) ∧ Below w.heap.size w wr)
      case atStart => exact ⟨0, (r, c), by omega, by omega, rfl, rfl, HB1, HR1, hb01⟩
      case round =>
        clear HB1 HR1
        obtain ⟨k, p, hk, hgk, rfl, HA, HB, HR, hb⟩ := hrel
        have hzr := hb.size
        obtain ⟨p0, p1, pf, pl⟩ := HB.out
        obtain ⟨r0, r1, rf, rl⟩ := HR.out
        by_cases hkn : k < s.size
        · have hby := byteAt_eq hkn
          have HOP := hide (fwA_open (show opP F n (r, c) = true from HGO.out.2) HA.out)
          rcases ltr_cases (s[k].toNat : Int) with ⟨hL, -⟩ | ⟨d, hd, -, hL⟩
          · have HX : Hid (fwOk F n r c s = false) := fw_no (fwA_bad HA.out (by rw [← hby]; exact hL)) (show k + 1 ≤ s.size by omega)
            clear hby
            go_wp2_with (go_at_call 84; refine (seLetter_any _ _).mono ?_; rintro e w' ⟨rfl, rfl⟩)
            refine bodyPost_ret (v := .tuple #[.agg #[.int .i64 0, .int .i64 0], .bool false]) (by simp [results, Tryd.results37, go_sem, *]) rfl (fw_nil HX.out ?_)
            exact (hb.setCell (by simp) _).setCell (by simp) _
          · have HL : Hid (ltr (byteAt s k) = d) := by show _ = _; rw [← hby]; exact hL
            clear hby
            obtain ⟨y, hy⟩ : ∃ y, stp p d = y := ⟨_, rfl⟩
            have HY := hide hy
            obtain ⟨b1, b2, b3, b4⟩ := opP_bd HOP.out
            obtain ⟨g1, g2, g3, g4, _, _⟩ := flB_facts HGO.out.1
            clear hy
            go_wp2_with (go_at_call 84; refine (seLetter_any _ _).mono ?_; rintro e w' ⟨rfl, rfl⟩)
            refine (seStep_p p y d _ HY.out hd (by omega) (by omega) (by omega) (by omega)).mono ?_
            rintro e w2 ⟨rfl, hb2⟩
            have hz2 := hb2.size
            go_wp2_with fail
            refine (seOpen_any F n y.1 y.2 lo hi _ _ (hv.below (B := w.heap.size) (by repeat (first | (with_reducible exact Below.refl _ _) | (with_reducible refine below_ov ?_ ?_) | (with_reducible refine Below.setCell ?_ ?_ _) | (with_reducible refine Below.alloc ?_ ?_ _) | (with_reducible refine Below.drew ?_) | (with_reducible refine below_drewN ?_ _) | (refine Below.trans ?_ (Below.mono ‹Below _ _ _› (by first | omega | (simp; done) | (simp; omega)))) | exact Below.refl _ _ | omega | (focus (simp; done)) | (focus (simp; omega)))) hhi) (by omega) HGO.out.1).mono ?_
            rintro e w3 ⟨rfl, hb3⟩
            have hz3 := hb3.size
            have hb23 : Below wr.heap.size wr w3 := hb2.trans (hb3.mono (by omega))
            have HB3 := hide (HB.out.below hb23 pl)
            have HR3 := hide (HR.out.below hb23 rl)
            have hbw3 : Below w.heap.size w w3 := hb.trans (hb23.mono (by omega))
            clear p0 p1 pf pl r0 r1 rf rl
            cases e1 : opB F n y.1 y.2 with
            | false =>
              have HX : Hid (fwOk F n r c s = false) := fw_no (fwA_wall HA.out HL.out (by rw [HY.out]; exact e1)) (show k + 1 ≤ s.size by omega)
              obtain ⟨r0, r1, rf, rl⟩ := HR3.out
              go_wp2_with fail
              refine bodyPost_ret (v := .tuple #[.agg #[.int .i64 0, .int .i64 0], .bool false]) (by simp [results, Tryd.results37, go_sem, *]) rfl (fw_nil HX.out ?_)
              exact (hbw3.setCell (by simp) _).setCell (by simp) _
            | true =>
              have HA2 : Hid (fwA F n (r, c) s (k + 1) = some y) := by
                have h := fwA_step HA.out HL.out (by rw [HY.out]; exact e1)
                rw [HY.out] at h
                exact h
              obtain ⟨p0, p1, pf, pl⟩ := HB3.out
              go_wp2_with fail
              refine (seStep_p p y d _ HY.out hd (by omega) (by omega) (by omega) (by omega)).mono ?_
              rintro e w4 ⟨rfl, hb4⟩
              have hz4 := hb4.size
              have HB4 := hide (HB3.out.below hb4 pl)
              have HR4 := hide (HR3.out.below hb4 (by have := HR3.out.lt; exact this))
              have hbw4 : Below w.heap.size w w4 := hbw3.trans (hb4.mono (by omega))
              clear p0 p1 pf pl
              obtain ⟨p0, p1, pf, pl⟩ := HB4.out
              go_wp2_with fail
              go_roundg (s.size - k)
              case measure => omega
              case rel => exact ⟨k + 1, y, by omega, by omega, by go_num, HA2.out, HB4.out.set _ _, HR4.out.other (by omega) _ _, (hbw4.setCell (by simp) _).setCell (by simp) _⟩
        · obtain rfl : k = s.size := by omega
          go_wp2_with fail
          refine bodyPost_ret (v := .tuple #[.agg #[.int .i64 p.1, .int .i64 p.2], .bool true]) (by simp [results, Tryd.results37, go_sem, *]) rfl (fw_at HS.out hs2 HA.out ?_)
          exact (hb.setCell (by simp) _).setCell (by simp) _
    · have d2 : decide ((s.size : Int) > 200) = true := decide_eq_true (by omega)
      have HX : Hid (fwOk F n r c s = false) := by show _ = _; rw [fwOk, decide_eq_false hs2]; simp
      obtain ⟨r0, r1, rf, rl⟩ := R1
      clear B1
      go_wp2_with fail
      refine bodyPost_ret (v := .tuple #[.agg #[.int .i64 0, .int .i64 0], .bool false]) (by simp [results, Tryd.results37, go_sem, *]) rfl (fw_nil HX.out ?_)
      exact (hb01.setCell (by simp) _).setCell (by simp) _
set_option maxRecDepth 100000 in
set_option maxHeartbeats 3200000 in
theorem FollowWay_impl (F : Nat → ByteArray) (n : Nat) (r c : Int) (s : ByteArray) (lo hi : Nat) (v : Value) (w : World) (hv : Sl w lo hi 1 v n (sC F)) (hhi : hi ≤ w.heap.size) (hf : ffits F n) (hms : s.size ≤ maxLen) :
    Calls Tryd.prog 36 #[v, .agg #[.int .i64 r, .int .i64 c], .string s] w (FwRes F n r c s w) := by
  obtain ⟨A, capF, rfl, hcap, hA⟩ := hv.open_
  unfold maxLen at hms
  clear hA
  go_enter Tryd.func36, Tryd.ntmps36
  go_wp2_with fail
  refine (isFloor_any F n lo hi _ _ (hv.below (B := w.heap.size) (by repeat (first | (with_reducible exact Below.refl _ _) | (with_reducible refine below_ov ?_ ?_) | (with_reducible refine Below.setCell ?_ ?_ _) | (with_reducible refine Below.alloc ?_ ?_ _) | (with_reducible refine Below.drew ?_) | (with_reducible refine below_drewN ?_ _) | (refine Below.trans ?_ (Below.mono ‹Below _ _ _› (by first | omega | (simp; done) | (simp; omega)))) | exact Below.refl _ _ | omega | (focus (simp; done)) | (focus (simp; omega)))) hhi) (by simp; omega) hf).mono ?_
  rintro e w0 ⟨rfl, hb0⟩
  have hz0 := hb0.size
  simp at hz0
  have hb00 : Below w.heap.size w w0 := (by repeat (first | (with_reducible exact Below.refl _ _) | (with_reducible refine below_ov ?_ ?_) | (with_reducible refine Below.setCell ?_ ?_ _) | (with_reducible refine Below.alloc ?_ ?_ _) | (with_reducible refine Below.drew ?_) | (with_reducible refine below_drewN ?_ _) | (refine Below.trans ?_ (Below.mono ‹Below _ _ _› (by first | omega | (simp; done) | (simp; omega)))) | exact Below.refl _ _ | omega | (focus (simp; done)) | (focus (simp; omega))))
  have B0 : Bx2 w0 w.heap.size r c := ((Bx2.new w r c).below ((Below.refl _ _).alloc (Nat.le_refl _) _) (by simp)).below hb0 (by simp; omega)
  have R0 : Bx2 w0 (w.heap.size + 1) 0 0 := by
    have h := Bx2.new (w.alloc (.cells #[.int .i64 r, .int .i64 c] 38)) 0 0
    simp only [World.size_alloc] at h
    exact h.below hb0 (by simp)
  cases e0 : flB F n with
  | false =>
    have HX : Hid (fwOk F n r c s = false) := by show _ = _; rw [fwOk, sfOk, e0]; rfl
    obtain ⟨r0, r1, rf, rl⟩ := R0
    clear B0
    go_wp2_with fail
    refine bodyPost_ret (v := .tuple #[.agg #[.int .i64 0, .int .i64 0], .bool false]) (by simp [results, Tryd.results36, go_sem, *]) rfl (fw_nil HX.out ?_)
    exact (hb00.setCell (by simp) _).setCell (by simp) _
  | true =>
  have HG := hide e0
  have HB0 := hide B0
  have HR0 := hide R0
  obtain ⟨p0, p1, pf, pl⟩ := B0
  clear e0 R0
  go_wp2_with fail
  refine (isOpen_any F n r c lo hi _ _ (hv.below (B := w.heap.size) hb00 hhi) (by omega) HG.out).mono ?_
  rintro e w1 ⟨rfl, hb1⟩
  have hz1 := hb1.size
  have hb01 : Below w.heap.size w w1 := hb00.trans (hb1.mono (by omega))
  have B1 := HB0.out.below hb1 pl
  have R1 := HR0.out.below hb1 HR0.out.lt
  clear p0 p1 pf pl
  cases e1 : opB F n r c with
  | false =>
    have HX : Hid (fwOk F n r c s = false) := by show _ = _; rw [fwOk, sfOk, e1]; simp
    obtain ⟨r0, r1, rf, rl⟩ := R1
    clear B1
    go_wp2_with fail
    refine bodyPost_ret (v := .tuple #[.agg #[.int .i64 0, .int .i64 0], .bool false]) (by simp [results, Tryd.results36, go_sem, *]) rfl (fw_nil HX.out ?_)
    exact (hb01.setCell (by simp) _).setCell (by simp) _
  | true =>
    have HS : Hid (sfOk F n r c = true) := by show _ = _; rw [sfOk, HG.out, e1]; rfl
    have HO : Hid (opP F n (r, c) = true) := e1
    clear e1
    by_cases hs2 : s.size ≤ 200
    · have d2 : decide ((s.size : Int) > 200) = false := decide_eq_false (by omega)
      have HB1 := hide B1
      have HR1 := hide R1
      clear B1 R1
      go_wp2_with fail
      go_loopg [26] (s.size + 1) (fun gn iv wr => ∃ (k : Nat) (p : Int × Int), k ≤ s.size ∧ s.size - k < gn ∧ iv = .int .i64 k ∧ Hid (fwA F n (r, c) s k = some p) ∧ Hid (Bx2 wr w.heap.size p.1 p.2) ∧ Hid (Bx2 wr (w.heap.size + 1) 0 0) ∧ Below w.heap.size w wr)
      case atStart => exact ⟨0, (r, c), by omega, by omega, rfl, rfl, HB1, HR1, hb01⟩
      case round =>
        clear HB1 HR1
        obtain ⟨k, p, hk, hgk, rfl, HA, HB, HR, hb⟩ := hrel
        have hzr := hb.size
        obtain ⟨p0, p1, pf, pl⟩ := HB.out
        obtain ⟨r0, r1, rf, rl⟩ := HR.out
        by_cases hkn : k < s.size
        · have hby := byteAt_eq hkn
          have HOP := hide (fwA_open HO.out HA.out)
          rcases ltr_cases (s[k].toNat : Int) with ⟨hL, -⟩ | ⟨d, hd, hbd, hL⟩
          · rw [hby] at hL
            have HX : Hid (fwOk F n r c s = false) := fw_no (fwA_bad HA.out hL) (show k + 1 ≤ s.size by omega)
            clear hby
            go_wp2_with (go_at_call 83; refine (Contains_d s k hkn _).mono ?_; rintro e w' ⟨rfl, rfl⟩)
            refine bodyPost_ret (v := .tuple #[.agg #[.int .i64 0, .int .i64 0], .bool false]) (by simp [results, Tryd.results36, go_sem, *]) rfl (fw_nil HX.out ?_)
            exact (hb.setCell (by simp) _).setCell (by simp) _
          · rw [hby] at hL
            have HL := hide hL
            have d0 : decide (0 ≤ ltr (byteAt s k)) = true := by rw [hL]; exact decide_eq_true (by omega)
            clear hby hL
            obtain ⟨y, hy⟩ : ∃ y, stp p d = y := ⟨_, rfl⟩
            have HY := hide hy
            obtain ⟨b1, b2, b3, b4⟩ := opP_bd HOP.out
            obtain ⟨g1, g2, g3, g4, _, _⟩ := flB_facts HG.out
            have hzd : wr.drew.heap.size = wr.heap.size := rfl
            have HBD := hide hbd
            clear hy hbd
            go_wp2_with (go_at_call 83; refine (Contains_d s k hkn _).mono ?_; rintro e w' ⟨rfl, rfl⟩)
            refine wp_region_mix [(1, true), (2, true), (3, true), (0, false), (4, false), (5, false)] (fun _ => True) (by kernel_rfl) (by kernel_rfl) (by kernel_rfl) (by kernel_rfl) trivial ?_
            refine mix_look _ _ rfl rfl (fun w' _ => BigFrame.run_move _ rfl w') ?_
            go_simp
            refine mix_look _ _ rfl rfl (fun w' _ => BigFrame.run_move _ rfl w') ?_
            go_simp
            refine mix_look _ (.int .u8 (s[k].toNat : Int)) rfl rfl (fun w' hw' => (by go_simp)) ?_
            go_simp
            refine mix_value _ (.agg #[.int .i64 p.1, .int .i64 p.2]) wr.drew rfl rfl (by go_simp) trivial ?_
            go_simp
            refine mix_call _ 75 #[.agg #[.int .i64 p.1, .int .i64 p.2], .int .u8 (dL d)] rfl rfl (by rw [← HBD.out]; go_simp) ?_
            refine (stepTo_p p y d _ HY.out hd (by omega) (by omega) (by omega) (by omega)).mono ?_
            rintro e w2 ⟨rfl, hb2⟩
            have hz2 := hb2.size
            refine ⟨_, rfl, trivial, ?_⟩
            go_simp
            have HB2 := hide ((HB.out.keep (w' := wr.drew) rfl pl).below hb2 pl)
            have HR2 := hide ((HR.out.keep (w' := wr.drew) rfl rl).below hb2 rl)
            have hb22 : Below w.heap.size w w2 := (Below.drew hb).trans (hb2.mono (by omega))
            clear p0 p1 pf pl r0 r1 rf rl
            obtain ⟨p0, p1, pf, pl⟩ := HB2.out
            obtain ⟨W3, hW3⟩ : ∃ W3, W3 = (w2.setCell ⟨w.heap.size, 0, none⟩ (.int .i64 y.1)).setCell ⟨w.heap.size, 1, none⟩ (.int .i64 y.2) := ⟨_, rfl⟩
            have HW3 := hide hW3
            have HB3 : Hid (Bx2 W3 w.heap.size y.1 y.2) := by show Bx2 _ _ _ _; rw [hW3]; exact HB2.out.set _ _
            have HR3 : Hid (Bx2 W3 (w.heap.size + 1) 0 0) := by show Bx2 _ _ _ _; rw [hW3]; exact HR2.out.other (by omega) _ _
            have hb33 : Below w.heap.size w W3 := by rw [hW3]; exact (hb22.setCell (by simp) _).setCell (by simp) _
            have hz33 := hb33.size
            clear hW3
            refine mix_store _ W3 rfl rfl (by rw [HW3.out]; go_simp) trivial ?_
            go_simp
            refine wpMix_nil ?_
            clear p0 p1 pf pl
            obtain ⟨p0, p1, pf, pl⟩ := HB3.out
            go_wp2_with fail
            refine (isOpen_any F n y.1 y.2 lo hi _ _ (hv.below (B := w.heap.size) hb33 hhi) (by omega) HG.out).mono ?_
            rintro e w3 ⟨rfl, hb3⟩
            have hz3 := hb3.size
            have HB4 := hide (HB3.out.below hb3 pl)
            have HR4 := hide (HR3.out.below hb3 HR3.out.lt)
            have hbw4 : Below w.heap.size w w3 := hb33.trans (hb3.mono (by omega))
            clear p0 p1 pf pl
            cases e1 : opB F n y.1 y.2 with
            | false =>
              have HX : Hid (fwOk F n r c s = false) := fw_no (fwA_wall HA.out HL.out (by rw [HY.out]; exact e1)) (show k + 1 ≤ s.size by omega)
              obtain ⟨r0, r1, rf, rl⟩ := HR4.out
              go_wp2_with fail
              refine bodyPost_ret (v := .tuple #[.agg #[.int .i64 0, .int .i64 0], .bool false]) (by simp [results, Tryd.results36, go_sem, *]) rfl (fw_nil HX.out ?_)
              exact (hbw4.setCell (by simp) _).setCell (by simp) _
            | true =>
              have HA2 : Hid (fwA F n (r, c) s (k + 1) = some y) := by
                have h := fwA_step HA.out HL.out (by rw [HY.out]; exact e1)
                rw [HY.out] at h
                exact h
              go_wp2_with fail
              go_roundg (s.size - k)
              case measure => omega
              case rel => exact ⟨k + 1, y, by omega, by omega, by go_num, HA2.out, HB4, HR4, hbw4⟩
        · obtain rfl : k = s.size := by omega
          go_wp2_with fail
          refine bodyPost_ret (v := .tuple #[.agg #[.int .i64 p.1, .int .i64 p.2], .bool true]) (by simp [results, Tryd.results36, go_sem, *]) rfl (fw_at HS.out hs2 HA.out ?_)
          exact (hb.setCell (by simp) _).setCell (by simp) _
    · have d2 : decide ((s.size : Int) > 200) = true := decide_eq_true (by omega)
      have HX : Hid (fwOk F n r c s = false) := by show _ = _; rw [fwOk, decide_eq_false hs2]; simp
      obtain ⟨r0, r1, rf, rl⟩ := R1
      clear B1
      go_wp2_with fail
      refine bodyPost_ret (v := .tuple #[.agg #[.int .i64 0, .int .i64 0], .bool false]) (by simp [results, Tryd.results36, go_sem, *]) rfl (fw_nil HX.out ?_)
      exact (hb01.setCell (by simp) _).setCell (by simp) _

end Go.Proofs.YtpckhpkbdanjoaaDoor
