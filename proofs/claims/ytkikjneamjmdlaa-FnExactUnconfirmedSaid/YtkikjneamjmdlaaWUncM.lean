/-
  Walks: the messages not heard: the program's answer; a channel copied slice by slice, marked.
-/
import Derived.Test.YtkikjneamjmdlaaWUncD
import Derived.Test.YtkikjneamjmdlaaOChannel
import Derived.Test.YtkikjneamjmdlaaMMessage
namespace Go.Proofs.Ytkikjneamjmdlaa
set_option linter.unusedVariables false
set_option linter.unusedSimpArgs false
open Go.RowKit

set_option maxRecDepth 100000 in
set_option maxHeartbeats 1600000 in
theorem toChannel3_any (S R H : Ms) (lo hi : Nat) (vS vR vH : Value) (w : World) (hS : Sl w lo hi 3 vS S.n S.c) (hR : Sl w lo hi 3 vR R.n R.c) (hH : Sl w lo hi 3 vH H.n H.c) (hhi : hi ≤ w.heap.size) (fS : S.fits) (fR : R.fits) (fH : H.fits) :
    Calls Try.prog 6 #[.agg #[vS, vR, vH]] w fun e w' => ∃ uS uR uH m1 m2, e = .returned (.agg #[uS, uR, uH]) ∧ (w.heap.size ≤ m1 ∧ m1 ≤ m2 ∧ m2 ≤ w'.heap.size) ∧ Own w' w.heap.size m1 40 3 uS S.n S.n S.c ∧ Own w' m1 m2 40 3 uR R.n R.n R.c ∧ Own w' m2 w'.heap.size 40 3 uH H.n H.n H.c ∧ Below w.heap.size w w' := by
  go_enter Try.func6, Try.ntmps6
  go_wp2_with fail
  refine (toMessageS_any S.f S.m S.g S.n lo hi vS _ (hS.below (B := w.heap.size) (by repeat (first | (with_reducible exact Below.refl _ _) | (with_reducible refine below_ov ?_ ?_) | (with_reducible refine Below.setCell ?_ ?_ _) | (with_reducible refine Below.alloc ?_ ?_ _) | (with_reducible refine Below.drew ?_) | (with_reducible refine below_drewN ?_ _) | (refine Below.trans ?_ (Below.mono ‹Below _ _ _› (by first | omega | (simp; done) | (simp; omega)))) | exact Below.refl _ _ | omega | (focus (simp; done)) | (focus (simp; omega)))) hhi) (by simp; omega) fS.1).mono ?_
  rintro e w1 ⟨u1, rfl, ho1, hb1⟩
  have hz1 := hb1.size
  simp at hz1
  have a1 : w1.cell? ⟨w.heap.size, 1, none⟩ = some vR := (hb1.cell (p := ⟨w.heap.size, 1, none⟩) (by simp; omega)).trans ((World.cell?_alloc_lt _ _ _ (by simp; omega)).trans ((World.cell?_alloc_lt _ _ _ (by simp)).trans (World.cell?_alloc_new _ _ _ _)))
  have a2 : w1.cell? ⟨w.heap.size, 2, none⟩ = some vH := (hb1.cell (p := ⟨w.heap.size, 2, none⟩) (by simp; omega)).trans ((World.cell?_alloc_lt _ _ _ (by simp; omega)).trans ((World.cell?_alloc_lt _ _ _ (by simp)).trans (World.cell?_alloc_new _ _ _ _)))
  obtain ⟨hcw1, hfw1⟩ := bcell hb1
  obtain ⟨A1, k1, rfl, hk1, _⟩ := ho1.sl.open_
  have o1 : w1.cell? ⟨w.heap.size + 1 + 1, 0, none⟩ = some (.slice none 0 0) := (hb1.cell (p := ⟨w.heap.size + 1 + 1, 0, none⟩) (by simp)).trans (World.cell?_alloc_at _ _ _ _ (by simp))
  have o2 : w1.cell? ⟨w.heap.size + 1 + 1, 1, none⟩ = some (.slice none 0 0) := (hb1.cell (p := ⟨w.heap.size + 1 + 1, 1, none⟩) (by simp)).trans (World.cell?_alloc_at _ _ _ _ (by simp))
  have o3 : w1.cell? ⟨w.heap.size + 1 + 1, 2, none⟩ = some (.slice none 0 0) := (hb1.cell (p := ⟨w.heap.size + 1 + 1, 2, none⟩) (by simp)).trans (World.cell?_alloc_at _ _ _ _ (by simp))
  have r1 : w1.cell? ⟨w.heap.size + 1, 0, none⟩ = some (.slice none 0 0) := (hb1.cell (p := ⟨w.heap.size + 1, 0, none⟩) (by simp <;> omega)).trans ((World.cell?_alloc_lt _ _ _ (by simp)).trans (World.cell?_alloc_at _ _ _ _ (by simp)))
  have r2 : w1.cell? ⟨w.heap.size + 1, 1, none⟩ = some (.slice none 0 0) := (hb1.cell (p := ⟨w.heap.size + 1, 1, none⟩) (by simp <;> omega)).trans ((World.cell?_alloc_lt _ _ _ (by simp)).trans (World.cell?_alloc_at _ _ _ _ (by simp)))
  have r3 : w1.cell? ⟨w.heap.size + 1, 2, none⟩ = some (.slice none 0 0) := (hb1.cell (p := ⟨w.heap.size + 1, 2, none⟩) (by simp <;> omega)).trans ((World.cell?_alloc_lt _ _ _ (by simp)).trans (World.cell?_alloc_at _ _ _ _ (by simp)))
  have q1 : ∀ o, w1.frozen? ⟨w.heap.size + 1 + 1, o, none⟩ = false := fun o => (hfw1 _ _ (by simp)).trans (by simp [go_sem])
  have q2 : ∀ o, w1.frozen? ⟨w.heap.size + 1, o, none⟩ = false := fun o => (hfw1 _ _ (by simp <;> omega)).trans (by simp [go_sem])
  go_wp2_with fail
  have hS1 := ho1.aside (a := ⟨w.heap.size + 1 + 1, 0, none⟩) (by simp) (.slice A1 S.n k1)
  refine (toMessageS_any R.f R.m R.g R.n lo hi vR _ (hR.below (B := w.heap.size) (by repeat (first | (with_reducible exact Below.refl _ _) | (with_reducible refine below_ov ?_ ?_) | (with_reducible refine Below.setCell ?_ ?_ _) | (with_reducible refine Below.alloc ?_ ?_ _) | (with_reducible refine Below.drew ?_) | (with_reducible refine below_drewN ?_ _) | (refine Below.trans ?_ (Below.mono ‹Below _ _ _› (by first | omega | (simp; done) | (simp; omega)))) | exact Below.refl _ _ | omega | (focus (simp; done)) | (focus (simp; omega)))) hhi) (by simp [World.setCell]; omega) fR.1).mono ?_
  rintro e w2 ⟨u2, rfl, ho2, hb2⟩
  have hz2 := hb2.size
  simp [World.setCell] at hz2
  obtain ⟨A2, k2, rfl, hk2, _⟩ := ho2.sl.open_
  have cc : ∀ b o, b < w1.heap.size → w2.cell? ⟨b, o, none⟩ = (w1.setCell ⟨w.heap.size + 1 + 1, 0, none⟩ (.slice A1 S.n k1)).cell? ⟨b, o, none⟩ := fun b o h => hb2.cell (p := ⟨b, o, none⟩) (by simpa [World.setCell] using h)
  have ff : ∀ b o, b < w1.heap.size → w2.frozen? ⟨b, o, none⟩ = w1.frozen? ⟨b, o, none⟩ := fun b o h => (hb2.frozen (p := ⟨b, o, none⟩) (by simpa [World.setCell] using h)).trans (by simp [go_sem])
  have a2' := (cc w.heap.size 2 (by omega)).trans ((World.cell?_setCell_other _ _ _ _ (by simp)).trans a2)
  have o1' := (cc (w.heap.size + 1 + 1) 0 (by omega)).trans (World.cell?_setCell_same _ _ _ o1)
  have o2' := (cc (w.heap.size + 1 + 1) 1 (by omega)).trans ((World.cell?_setCell_other _ _ _ _ (by simp)).trans o2)
  have o3' := (cc (w.heap.size + 1 + 1) 2 (by omega)).trans ((World.cell?_setCell_other _ _ _ _ (by simp)).trans o3)
  have r1' := (cc (w.heap.size + 1) 0 (by omega)).trans ((World.cell?_setCell_other _ _ _ _ (by simp)).trans r1)
  have r2' := (cc (w.heap.size + 1) 1 (by omega)).trans ((World.cell?_setCell_other _ _ _ _ (by simp)).trans r2)
  have r3' := (cc (w.heap.size + 1) 2 (by omega)).trans ((World.cell?_setCell_other _ _ _ _ (by simp)).trans r3)
  have q1' : ∀ o, w2.frozen? ⟨w.heap.size + 1 + 1, o, none⟩ = false := fun o => (ff _ o (by omega)).trans (q1 o)
  have q2' : ∀ o, w2.frozen? ⟨w.heap.size + 1, o, none⟩ = false := fun o => (ff _ o (by omega)).trans (q2 o)
  go_wp2_with fail
  have hS2 := (hS1.below hb2 (by simp [World.setCell])).aside (a := ⟨w.heap.size + 1 + 1, 1, none⟩) (by simp) (.slice A2 R.n k2)
  have hR2 := ho2.aside (a := ⟨w.heap.size + 1 + 1, 1, none⟩) (by simp [World.setCell]; omega) (.slice A2 R.n k2)
  refine (toMessageS_any H.f H.m H.g H.n lo hi vH _ (hH.below (B := w.heap.size) (by repeat (first | (with_reducible exact Below.refl _ _) | (with_reducible refine below_ov ?_ ?_) | (with_reducible refine Below.setCell ?_ ?_ _) | (with_reducible refine Below.alloc ?_ ?_ _) | (with_reducible refine Below.drew ?_) | (with_reducible refine below_drewN ?_ _) | (refine Below.trans ?_ (Below.mono ‹Below _ _ _› (by first | omega | (simp; done) | (simp; omega)))) | exact Below.refl _ _ | omega | (focus (simp; done)) | (focus (simp; omega)))) hhi) (by simp [World.setCell]; omega) fH.1).mono ?_
  rintro e w3 ⟨u3, rfl, ho3, hb3⟩
  have hz3 := hb3.size
  simp [World.setCell] at hz3
  obtain ⟨A3, k3, rfl, hk3, _⟩ := ho3.sl.open_
  have cc3 : ∀ b o, b < w2.heap.size → w3.cell? ⟨b, o, none⟩ = (w2.setCell ⟨w.heap.size + 1 + 1, 1, none⟩ (.slice A2 R.n k2)).cell? ⟨b, o, none⟩ := fun b o h => hb3.cell (p := ⟨b, o, none⟩) (by simpa [World.setCell] using h)
  have ff3 : ∀ b o, b < w2.heap.size → w3.frozen? ⟨b, o, none⟩ = w2.frozen? ⟨b, o, none⟩ := fun b o h => (hb3.frozen (p := ⟨b, o, none⟩) (by simpa [World.setCell] using h)).trans (by simp [go_sem])
  have o1'' := (cc3 (w.heap.size + 1 + 1) 0 (by omega)).trans ((World.cell?_setCell_other _ _ _ _ (by simp)).trans o1')
  have o2'' := (cc3 (w.heap.size + 1 + 1) 1 (by omega)).trans (World.cell?_setCell_same _ _ _ o2')
  have o3'' := (cc3 (w.heap.size + 1 + 1) 2 (by omega)).trans ((World.cell?_setCell_other _ _ _ _ (by simp)).trans o3')
  have r1'' := (cc3 (w.heap.size + 1) 0 (by omega)).trans ((World.cell?_setCell_other _ _ _ _ (by simp)).trans r1')
  have r2'' := (cc3 (w.heap.size + 1) 1 (by omega)).trans ((World.cell?_setCell_other _ _ _ _ (by simp)).trans r2')
  have r3'' := (cc3 (w.heap.size + 1) 2 (by omega)).trans ((World.cell?_setCell_other _ _ _ _ (by simp)).trans r3')
  have q1'' : ∀ o, w3.frozen? ⟨w.heap.size + 1 + 1, o, none⟩ = false := fun o => (ff3 _ o (by omega)).trans (q1' o)
  have q2'' : ∀ o, w3.frozen? ⟨w.heap.size + 1, o, none⟩ = false := fun o => (ff3 _ o (by omega)).trans (q2' o)
  go_wp2_with fail
  refine bodyPost_ret (v := .agg #[.slice A1 S.n k1, .slice A2 R.n k2, .slice A3 H.n k3]) (by simp [results, Try.results6, go_sem, r1'', r2'', r3'', o1'', o2'', o3'']) rfl ⟨_, _, _, w1.heap.size, w2.heap.size, rfl, ⟨by omega, by omega, by simp [World.setCell]; omega⟩, ?_, ?_, ?_, ?_⟩
  · exact (((((hS2.below hb3 (by simp [World.setCell]; omega)).aside (by simp) _).aside (by simp; try omega) _).aside (by simp; try omega) _).aside (by simp; try omega) _).mono (by simp; try omega) (Nat.le_refl _)
  · exact (((((hR2.below hb3 (by simp [World.setCell])).aside (by simp [World.setCell]; try omega) _).aside (by simp [World.setCell]; try omega) _).aside (by simp [World.setCell]; try omega) _).aside (by simp [World.setCell]; try omega) _).mono (by simp [World.setCell]; try omega) (Nat.le_refl _)
  · exact ((((ho3.aside (by simp [World.setCell]; try omega) _).aside (by simp [World.setCell]; try omega) _).aside (by simp [World.setCell]; try omega) _).aside (by simp [World.setCell]; try omega) _).mono (by simp [World.setCell]; try omega) (by simp [World.setCell]; try omega)
  · exact (by repeat (first | (with_reducible exact Below.refl _ _) | (with_reducible refine below_ov ?_ ?_) | (with_reducible refine Below.setCell ?_ ?_ _) | (with_reducible refine Below.alloc ?_ ?_ _) | (with_reducible refine Below.drew ?_) | (with_reducible refine below_drewN ?_ _) | (refine Below.trans ?_ (Below.mono ‹Below _ _ _› (by first | omega | (simp; done) | (simp; omega)))) | exact Below.refl _ _ | omega | (focus (simp; done)) | (focus (simp; omega))))
set_option maxRecDepth 100000 in
set_option maxHeartbeats 1600000 in
theorem markChannel_any (q : Int) (S R H : Ms) (lo m1 m2 hi : Nat) (vS vR vH : Value) (w : World) (hS : Own w lo m1 40 3 vS S.n S.n S.c) (hR : Own w m1 m2 40 3 vR R.n R.n R.c) (hH : Own w m2 hi 40 3 vH H.n H.n H.c) (h1 : lo ≤ m1) (h2 : m1 ≤ m2) (h3 : m2 ≤ hi) (hhi : hi ≤ w.heap.size) (fS : S.fits) (fR : R.fits) (fH : H.fits) (hq : 0 ≤ q) (hq' : q ≤ 1000) :
    Calls Try.prog 10 #[.agg #[vS, vR, vH], .int .i64 q] w fun e w' => e = .returned (.int .i64 (q + (S.n : Int) * 3 + (R.n : Int) * 3 + (H.n : Int) * 3)) ∧ Only lo hi w w' := by
  have nS := fS.1
  have nR := fR.1
  have nH := fH.1
  obtain ⟨A, cap, rfl, hcap, _⟩ := id hS.sl.open_
  obtain ⟨A2, cap2, rfl, hcap2, _⟩ := id hR.sl.open_
  obtain ⟨A3, cap3, rfl, hcap3, _⟩ := id hH.sl.open_
  have HS := hide hS
  have HR := hide hR
  have HH := hide hH
  clear hS hR hH
  go_enter Try.func10, Try.ntmps10
  go_wp2_with fail
  have B0 : Hid (Box3 (w.alloc (.cells #[.slice A S.n cap, .slice A2 R.n cap2, .slice A3 H.n cap3] 30)) w.heap.size (.slice A S.n cap) (.slice A2 R.n cap2) (.slice A3 H.n cap3)) := Box3.new _ _ _ _ _
  refine (markMessageS_any q S.n lo m1 0 _ (fun _ => .bool false) _ ((HS.out.alloc (by omega) _).l _) (by simp; omega) (by omega) (by omega) (by omega)).mono ?_
  rintro e w1 ⟨rfl, _, hO1⟩
  have hz1 := hO1.size
  simp at hz1
  have R1 := hide ((HR.out.alloc (by omega) _).keepO hO1 (.inr (Nat.le_refl _)) (by simp; omega))
  have H1 := hide ((HH.out.alloc (by omega) _).keepO hO1 (.inr (by omega)) (by simp; omega))
  obtain ⟨x0, x1, x2⟩ := B0.out
  have y1 : w1.cell? ⟨w.heap.size, 1, none⟩ = some (.slice A2 R.n cap2) := (World.cell?_of_block (hO1.block w.heap.size (by simp) (.inr (by omega)))).trans x1
  have y2 : w1.cell? ⟨w.heap.size, 2, none⟩ = some (.slice A3 H.n cap3) := (World.cell?_of_block (hO1.block w.heap.size (by simp) (.inr (by omega)))).trans x2
  have HO1 : Hid (Only lo hi w w1) := (Only.of_below ((Below.refl w.heap.size w).alloc (Nat.le_refl _) _)).trans (hO1.mono' (Nat.le_refl _) (by omega))
  clear x0 x1 x2 hO1
  go_wp2_with fail
  refine (markMessageS_any (q + (S.n : Int) * 3) R.n m1 m2 0 _ (fun _ => .bool false) _ (R1.out.l _) (by omega) (by omega) (by omega) (by omega)).mono ?_
  rintro e w2 ⟨rfl, _, hO2⟩
  have hz2 := hO2.size
  have H2 := hide (H1.out.keepO hO2 (.inr (Nat.le_refl _)) (by omega))
  have z2 : w2.cell? ⟨w.heap.size, 2, none⟩ = some (.slice A3 H.n cap3) := (World.cell?_of_block (hO2.block w.heap.size (by omega) (.inr (by omega)))).trans y2
  have HO2 : Hid (Only lo hi w w2) := HO1.out.trans (hO2.mono' (by omega) (by omega))
  clear y1 y2 hO2
  go_wp2_with fail
  refine (markMessageS_any (q + (S.n : Int) * 3 + (R.n : Int) * 3) H.n m2 hi 0 _ (fun _ => .bool false) _ (H2.out.l _) (by omega) (by omega) (by omega) (by omega)).mono ?_
  rintro e w3 ⟨rfl, _, hO3⟩
  have HO3 : Hid (Only lo hi w w3) := HO2.out.trans (hO3.mono' (by omega) (by omega))
  clear z2 hO3
  go_wp2_with fail
  go_ret
  exact ⟨rfl, HO3.out⟩
set_option maxRecDepth 100000 in
set_option maxHeartbeats 3200000 in
theorem Unconfirmed_implR (S R H : Ms) (lo hi : Nat) (vS vR vH : Value) (w : World) (hS : Sl w lo hi 3 vS S.n S.c) (hR : Sl w lo hi 3 vR R.n R.c) (hH : Sl w lo hi 3 vH H.n H.c) (hhi : hi ≤ w.heap.size) (fS : S.fits) (fR : R.fits) (fH : H.fits) :
    Calls Try.prog 7 #[.agg #[vS, vR, vH]] w (UcRes S R H w) := by
  have nS := fS.1
  have nH := fH.1
  cases hc : chanB S R H with
  | false =>
    have HC := hide hc
    go_enter Try.func7, Try.ntmps7
    go_wp2_with fail
    refine (isChannel_any S R H lo hi w.heap.size vS vR vH _ (hS.below (B := w.heap.size) (by repeat (first | (with_reducible exact Below.refl _ _) | (with_reducible refine below_ov ?_ ?_) | (with_reducible refine Below.setCell ?_ ?_ _) | (with_reducible refine Below.alloc ?_ ?_ _) | (with_reducible refine Below.drew ?_) | (with_reducible refine below_drewN ?_ _) | (refine Below.trans ?_ (Below.mono ‹Below _ _ _› (by first | omega | (simp; done) | (simp; omega)))) | exact Below.refl _ _ | omega | (focus (simp; done)) | (focus (simp; omega)))) hhi) (hR.below (B := w.heap.size) (by repeat (first | (with_reducible exact Below.refl _ _) | (with_reducible refine below_ov ?_ ?_) | (with_reducible refine Below.setCell ?_ ?_ _) | (with_reducible refine Below.alloc ?_ ?_ _) | (with_reducible refine Below.drew ?_) | (with_reducible refine below_drewN ?_ _) | (refine Below.trans ?_ (Below.mono ‹Below _ _ _› (by first | omega | (simp; done) | (simp; omega)))) | exact Below.refl _ _ | omega | (focus (simp; done)) | (focus (simp; omega)))) hhi) (hH.below (B := w.heap.size) (by repeat (first | (with_reducible exact Below.refl _ _) | (with_reducible refine below_ov ?_ ?_) | (with_reducible refine Below.setCell ?_ ?_ _) | (with_reducible refine Below.alloc ?_ ?_ _) | (with_reducible refine Below.drew ?_) | (with_reducible refine below_drewN ?_ _) | (refine Below.trans ?_ (Below.mono ‹Below _ _ _› (by first | omega | (simp; done) | (simp; omega)))) | exact Below.refl _ _ | omega | (focus (simp; done)) | (focus (simp; omega)))) hhi) (by simp; omega) fS fR fH (by simp) (World.cell?_alloc_new _ _ _ _) (World.cell?_alloc_new _ _ _ _) (World.cell?_alloc_new _ _ _ _)).mono ?_
    rintro e w1 ⟨rfl, hb1⟩
    have hz1 := hb1.size
    rw [HC.out]
    go_wp2_with fail
    go_ret2
    exact uc_nil HC.out (by repeat (first | (with_reducible exact Below.refl _ _) | (with_reducible refine below_ov ?_ ?_) | (with_reducible refine Below.setCell ?_ ?_ _) | (with_reducible refine Below.alloc ?_ ?_ _) | (with_reducible refine Below.drew ?_) | (with_reducible refine below_drewN ?_ _) | (refine Below.trans ?_ (Below.mono ‹Below _ _ _› (by first | omega | (simp; done) | (simp; omega)))) | exact Below.refl _ _ | omega | (focus (simp; done)) | (focus (simp; omega))))
  | true =>
    have HC := hide hc
    go_enter Try.func7, Try.ntmps7
    go_wp2_with fail
    refine (isChannel_any S R H lo hi w.heap.size vS vR vH _ (hS.below (B := w.heap.size) (by repeat (first | (with_reducible exact Below.refl _ _) | (with_reducible refine below_ov ?_ ?_) | (with_reducible refine Below.setCell ?_ ?_ _) | (with_reducible refine Below.alloc ?_ ?_ _) | (with_reducible refine Below.drew ?_) | (with_reducible refine below_drewN ?_ _) | (refine Below.trans ?_ (Below.mono ‹Below _ _ _› (by first | omega | (simp; done) | (simp; omega)))) | exact Below.refl _ _ | omega | (focus (simp; done)) | (focus (simp; omega)))) hhi) (hR.below (B := w.heap.size) (by repeat (first | (with_reducible exact Below.refl _ _) | (with_reducible refine below_ov ?_ ?_) | (with_reducible refine Below.setCell ?_ ?_ _) | (with_reducible refine Below.alloc ?_ ?_ _) | (with_reducible refine Below.drew ?_) | (with_reducible refine below_drewN ?_ _) | (refine Below.trans ?_ (Below.mono ‹Below _ _ _› (by first | omega | (simp; done) | (simp; omega)))) | exact Below.refl _ _ | omega | (focus (simp; done)) | (focus (simp; omega)))) hhi) (hH.below (B := w.heap.size) (by repeat (first | (with_reducible exact Below.refl _ _) | (with_reducible refine below_ov ?_ ?_) | (with_reducible refine Below.setCell ?_ ?_ _) | (with_reducible refine Below.alloc ?_ ?_ _) | (with_reducible refine Below.drew ?_) | (with_reducible refine below_drewN ?_ _) | (refine Below.trans ?_ (Below.mono ‹Below _ _ _› (by first | omega | (simp; done) | (simp; omega)))) | exact Below.refl _ _ | omega | (focus (simp; done)) | (focus (simp; omega)))) hhi) (by simp; omega) fS fR fH (by simp) (World.cell?_alloc_new _ _ _ _) (World.cell?_alloc_new _ _ _ _) (World.cell?_alloc_new _ _ _ _)).mono ?_
    rintro e w1 ⟨rfl, hb1⟩
    have hz1 := hb1.size
    simp at hz1
    rw [HC.out]
    have HB1 : Hid (Below w.heap.size w w1) := (by repeat (first | (with_reducible exact Below.refl _ _) | (with_reducible refine below_ov ?_ ?_) | (with_reducible refine Below.setCell ?_ ?_ _) | (with_reducible refine Below.alloc ?_ ?_ _) | (with_reducible refine Below.drew ?_) | (with_reducible refine below_drewN ?_ _) | (refine Below.trans ?_ (Below.mono ‹Below _ _ _› (by first | omega | (simp; done) | (simp; omega)))) | exact Below.refl _ _ | omega | (focus (simp; done)) | (focus (simp; omega))))
    have x0 : w1.cell? ⟨w.heap.size, 0, none⟩ = some vS := (hb1.cell (p := ⟨w.heap.size, 0, none⟩) (by simp)).trans (World.cell?_alloc_new _ _ _ _)
    have x2 : w1.cell? ⟨w.heap.size, 2, none⟩ = some vH := (hb1.cell (p := ⟨w.heap.size, 2, none⟩) (by simp)).trans (World.cell?_alloc_new _ _ _ _)
    have X2 := hide x2
    clear hb1 x2 hc
    go_wp2_with fail
    refine (CloneM_any S lo hi vS _ (hS.below (B := w.heap.size) HB1.out hhi) (by omega) (by omega)).mono ?_
    rintro e w2 ⟨v2, rfl, hr2, hb2⟩
    have hz2 := hb2.size
    have HB2 : Hid (Below w.heap.size w w2) := HB1.out.trans (hb2.mono (by omega))
    have HR2 := hide hr2
    have X3 : Hid (w2.cell? ⟨w.heap.size, 2, none⟩ = some vH) := (hb2.cell (p := ⟨w.heap.size, 2, none⟩) (by show w.heap.size < _; omega)).trans X2.out
    clear hr2 hb2 x0
    obtain ⟨B2, c2, rfl⟩ := row_form HR2.out
    go_wp2_with fail
    refine (DeleteFuncU_any S H lo hi w.heap.size w1.heap.size vH _ w2 HR2.out (by omega) (hH.below (B := w.heap.size) HB2.out hhi) (by omega) (by omega) X3.out (by omega) (by omega)).mono ?_
    rintro e w3 ⟨v3, rfl, ho3, hb3⟩
    have hz3 := hb3.size
    have HO3 := hide ho3
    have HB3 : Hid (Below w.heap.size w w3) := HB2.out.trans (hb3.mono (by omega))
    clear ho3 hb3
    obtain ⟨A3, c3, rfl, _, _⟩ := id HO3.out.sl.open_
    go_wp2_with fail
    go_ret2
    exact uc_row HC.out HO3.out (by omega) HB3.out
theorem Unconfirmed_impl (S R H : Ms) (lo hi : Nat) (vS vR vH : Value) (w : World) (hS : Sl w lo hi 3 vS S.n S.c) (hR : Sl w lo hi 3 vR R.n R.c) (hH : Sl w lo hi 3 vH H.n H.c) (hhi : hi ≤ w.heap.size) (fS : S.fits) (fR : R.fits) (fH : H.fits) :
    Calls Try.prog 7 #[.agg #[vS, vR, vH]] w fun e w' => ∃ v', e = .returned (.tuple #[v', .bool (chanB S R H)]) ∧ Own w' w.heap.size w'.heap.size 40 3 v' (ucR S R H).n (ucR S R H).n (ucR S R H).c ∧ Below w.heap.size w w' :=
  Unconfirmed_implR S R H lo hi vS vR vH w hS hR hH hhi fS fR fH

end Go.Proofs.Ytkikjneamjmdlaa
