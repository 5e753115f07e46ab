/-
  Walks: the law's own words on channels: a copy, a size, a comparison; both checks at a struct.
-/
import Derived.Test.YtkikjneamjmdlaaWChan2
import Derived.Deep.Heap
namespace Go.Proofs.Ytkikjneamjmdlaa
set_option linter.unusedVariables false
set_option linter.unusedSimpArgs false
open Go.RowKit

theorem Own.aside {w : World} {lo hi E sz n k : Nat} {v : Value} {c : Nat → Nat → Value} (h : Own w lo hi E sz v n k c) {a : Addr} (ha : a.block < lo) (u : Value) : Own (w.setCell a u) lo hi E sz v n k c :=
  h.keep fun b h1 h2 => Deep.blk_setCell_other _ _ _ _ (by omega)

set_option maxRecDepth 100000 in
set_option maxHeartbeats 1600000 in
theorem toChannel_any (S R H : Ms) (lo hi : Nat) (vS vR vH : Value) (w : World) (hS : Sl w lo hi 3 vS S.n S.c) (hR : Sl w lo hi 3 vR R.n R.c) (hH : Sl w lo hi 3 vH H.n H.c) (hhi : hi ≤ w.heap.size) (fS : S.fits) (fR : R.fits) (fH : H.fits) :
    Calls Try.prog 6 #[.agg #[vS, vR, vH]] w fun e w' => ∃ uS uR uH, e = .returned (.agg #[uS, uR, uH]) ∧ Own w' w.heap.size w'.heap.size 40 3 uS S.n S.n S.c ∧ Own w' w.heap.size w'.heap.size 40 3 uR R.n R.n R.c ∧ Own w' w.heap.size w'.heap.size 40 3 uH H.n H.n H.c ∧ Below w.heap.size w w' := by
  go_enter Try.func6, Try.ntmps6
  go_wp2_with fail
  refine (toMessageS_any S.f S.m S.g S.n lo hi vS _ (hS.below (B := w.heap.size) (by repeat (first | (with_reducible exact Below.refl _ _) | (with_reducible refine below_ov ?_ ?_) | (with_reducible refine Below.setCell ?_ ?_ _) | (with_reducible refine Below.alloc ?_ ?_ _) | (with_reducible refine Below.drew ?_) | (with_reducible refine below_drewN ?_ _) | (refine Below.trans ?_ (Below.mono ‹Below _ _ _› (by first | omega | (simp; done) | (simp; omega)))) | exact Below.refl _ _ | omega | (focus (simp; done)) | (focus (simp; omega)))) hhi) (by simp; omega) fS.1).mono ?_
  rintro e w1 ⟨u1, rfl, ho1, hb1⟩
  have hz1 := hb1.size
  simp at hz1
  have a1 : w1.cell? ⟨w.heap.size, 1, none⟩ = some vR := (hb1.cell (p := ⟨w.heap.size, 1, none⟩) (by simp; omega)).trans ((World.cell?_alloc_lt _ _ _ (by simp; omega)).trans ((World.cell?_alloc_lt _ _ _ (by simp)).trans (World.cell?_alloc_new _ _ _ _)))
  have a2 : w1.cell? ⟨w.heap.size, 2, none⟩ = some vH := (hb1.cell (p := ⟨w.heap.size, 2, none⟩) (by simp; omega)).trans ((World.cell?_alloc_lt _ _ _ (by simp; omega)).trans ((World.cell?_alloc_lt _ _ _ (by simp)).trans (World.cell?_alloc_new _ _ _ _)))
  obtain ⟨hcw1, hfw1⟩ := bcell hb1
  obtain ⟨A1, k1, rfl, hk1, _⟩ := ho1.sl.open_
  have o1 : w1.cell? ⟨w.heap.size + 1 + 1, 0, none⟩ = some (.slice none 0 0) := (hb1.cell (p := ⟨w.heap.size + 1 + 1, 0, none⟩) (by simp)).trans (World.cell?_alloc_at _ _ _ _ (by simp))
  have o2 : w1.cell? ⟨w.heap.size + 1 + 1, 1, none⟩ = some (.slice none 0 0) := (hb1.cell (p := ⟨w.heap.size + 1 + 1, 1, none⟩) (by simp)).trans (World.cell?_alloc_at _ _ _ _ (by simp))
  have o3 : w1.cell? ⟨w.heap.size + 1 + 1, 2, none⟩ = some (.slice none 0 0) := (hb1.cell (p := ⟨w.heap.size + 1 + 1, 2, none⟩) (by simp)).trans (World.cell?_alloc_at _ _ _ _ (by simp))
  have r1 : w1.cell? ⟨w.heap.size + 1, 0, none⟩ = some (.slice none 0 0) := (hb1.cell (p := ⟨w.heap.size + 1, 0, none⟩) (by simp <;> omega)).trans ((World.cell?_alloc_lt _ _ _ (by simp)).trans (World.cell?_alloc_at _ _ _ _ (by simp)))
  have r2 : w1.cell? ⟨w.heap.size + 1, 1, none⟩ = some (.slice none 0 0) := (hb1.cell (p := ⟨w.heap.size + 1, 1, none⟩) (by simp <;> omega)).trans ((World.cell?_alloc_lt _ _ _ (by simp)).trans (World.cell?_alloc_at _ _ _ _ (by simp)))
  have r3 : w1.cell? ⟨w.heap.size + 1, 2, none⟩ = some (.slice none 0 0) := (hb1.cell (p := ⟨w.heap.size + 1, 2, none⟩) (by simp <;> omega)).trans ((World.cell?_alloc_lt _ _ _ (by simp)).trans (World.cell?_alloc_at _ _ _ _ (by simp)))
  have q1 : ∀ o, w1.frozen? ⟨w.heap.size + 1 + 1, o, none⟩ = false := fun o => (hfw1 _ _ (by simp)).trans (by simp [go_sem])
  have q2 : ∀ o, w1.frozen? ⟨w.heap.size + 1, o, none⟩ = false := fun o => (hfw1 _ _ (by simp <;> omega)).trans (by simp [go_sem])
  go_wp2_with fail
  have hS1 := ho1.aside (a := ⟨w.heap.size + 1 + 1, 0, none⟩) (by simp) (.slice A1 S.n k1)
  refine (toMessageS_any R.f R.m R.g R.n lo hi vR _ (hR.below (B := w.heap.size) (by repeat (first | (with_reducible exact Below.refl _ _) | (with_reducible refine below_ov ?_ ?_) | (with_reducible refine Below.setCell ?_ ?_ _) | (with_reducible refine Below.alloc ?_ ?_ _) | (with_reducible refine Below.drew ?_) | (with_reducible refine below_drewN ?_ _) | (refine Below.trans ?_ (Below.mono ‹Below _ _ _› (by first | omega | (simp; done) | (simp; omega)))) | exact Below.refl _ _ | omega | (focus (simp; done)) | (focus (simp; omega)))) hhi) (by simp [World.setCell]; omega) fR.1).mono ?_
  rintro e w2 ⟨u2, rfl, ho2, hb2⟩
  have hz2 := hb2.size
  simp [World.setCell] at hz2
  obtain ⟨A2, k2, rfl, hk2, _⟩ := ho2.sl.open_
  have cc : ∀ b o, b < w1.heap.size → w2.cell? ⟨b, o, none⟩ = (w1.setCell ⟨w.heap.size + 1 + 1, 0, none⟩ (.slice A1 S.n k1)).cell? ⟨b, o, none⟩ := fun b o h => hb2.cell (p := ⟨b, o, none⟩) (by simpa [World.setCell] using h)
  have ff : ∀ b o, b < w1.heap.size → w2.frozen? ⟨b, o, none⟩ = w1.frozen? ⟨b, o, none⟩ := fun b o h => (hb2.frozen (p := ⟨b, o, none⟩) (by simpa [World.setCell] using h)).trans (by simp [go_sem])
  have a2' := (cc w.heap.size 2 (by omega)).trans ((World.cell?_setCell_other _ _ _ _ (by simp)).trans a2)
  have o1' := (cc (w.heap.size + 1 + 1) 0 (by omega)).trans (World.cell?_setCell_same _ _ _ o1)
  have o2' := (cc (w.heap.size + 1 + 1) 1 (by omega)).trans ((World.cell?_setCell_other _ _ _ _ (by simp)).trans o2)
  have o3' := (cc (w.heap.size + 1 + 1) 2 (by omega)).trans ((World.cell?_setCell_other _ _ _ _ (by simp)).trans o3)
  have r1' := (cc (w.heap.size + 1) 0 (by omega)).trans ((World.cell?_setCell_other _ _ _ _ (by simp)).trans r1)
  have r2' := (cc (w.heap.size + 1) 1 (by omega)).trans ((World.cell?_setCell_other _ _ _ _ (by simp)).trans r2)
  have r3' := (cc (w.heap.size + 1) 2 (by omega)).trans ((World.cell?_setCell_other _ _ _ _ (by simp)).trans r3)
  have q1' : ∀ o, w2.frozen? ⟨w.heap.size + 1 + 1, o, none⟩ = false := fun o => (ff _ o (by omega)).trans (q1 o)
  have q2' : ∀ o, w2.frozen? ⟨w.heap.size + 1, o, none⟩ = false := fun o => (ff _ o (by omega)).trans (q2 o)
  go_wp2_with fail
  have hS2 := (hS1.below hb2 (by simp [World.setCell])).aside (a := ⟨w.heap.size + 1 + 1, 1, none⟩) (by simp) (.slice A2 R.n k2)
  have hR2 := ho2.aside (a := ⟨w.heap.size + 1 + 1, 1, none⟩) (by simp [World.setCell]; omega) (.slice A2 R.n k2)
  refine (toMessageS_any H.f H.m H.g H.n lo hi vH _ (hH.below (B := w.heap.size) (by repeat (first | (with_reducible exact Below.refl _ _) | (with_reducible refine below_ov ?_ ?_) | (with_reducible refine Below.setCell ?_ ?_ _) | (with_reducible refine Below.alloc ?_ ?_ _) | (with_reducible refine Below.drew ?_) | (with_reducible refine below_drewN ?_ _) | (refine Below.trans ?_ (Below.mono ‹Below _ _ _› (by first | omega | (simp; done) | (simp; omega)))) | exact Below.refl _ _ | omega | (focus (simp; done)) | (focus (simp; omega)))) hhi) (by simp [World.setCell]; omega) fH.1).mono ?_
  rintro e w3 ⟨u3, rfl, ho3, hb3⟩
  have hz3 := hb3.size
  simp [World.setCell] at hz3
  obtain ⟨A3, k3, rfl, hk3, _⟩ := ho3.sl.open_
  have cc3 : ∀ b o, b < w2.heap.size → w3.cell? ⟨b, o, none⟩ = (w2.setCell ⟨w.heap.size + 1 + 1, 1, none⟩ (.slice A2 R.n k2)).cell? ⟨b, o, none⟩ := fun b o h => hb3.cell (p := ⟨b, o, none⟩) (by simpa [World.setCell] using h)
  have ff3 : ∀ b o, b < w2.heap.size → w3.frozen? ⟨b, o, none⟩ = w2.frozen? ⟨b, o, none⟩ := fun b o h => (hb3.frozen (p := ⟨b, o, none⟩) (by simpa [World.setCell] using h)).trans (by simp [go_sem])
  have o1'' := (cc3 (w.heap.size + 1 + 1) 0 (by omega)).trans ((World.cell?_setCell_other _ _ _ _ (by simp)).trans o1')
  have o2'' := (cc3 (w.heap.size + 1 + 1) 1 (by omega)).trans (World.cell?_setCell_same _ _ _ o2')
  have o3'' := (cc3 (w.heap.size + 1 + 1) 2 (by omega)).trans ((World.cell?_setCell_other _ _ _ _ (by simp)).trans o3')
  have r1'' := (cc3 (w.heap.size + 1) 0 (by omega)).trans ((World.cell?_setCell_other _ _ _ _ (by simp)).trans r1')
  have r2'' := (cc3 (w.heap.size + 1) 1 (by omega)).trans ((World.cell?_setCell_other _ _ _ _ (by simp)).trans r2')
  have r3'' := (cc3 (w.heap.size + 1) 2 (by omega)).trans ((World.cell?_setCell_other _ _ _ _ (by simp)).trans r3')
  have q1'' : ∀ o, w3.frozen? ⟨w.heap.size + 1 + 1, o, none⟩ = false := fun o => (ff3 _ o (by omega)).trans (q1' o)
  have q2'' : ∀ o, w3.frozen? ⟨w.heap.size + 1, o, none⟩ = false := fun o => (ff3 _ o (by omega)).trans (q2' o)
  go_wp2_with fail
  refine bodyPost_ret (v := .agg #[.slice A1 S.n k1, .slice A2 R.n k2, .slice A3 H.n k3]) (by simp [results, Try.results6, go_sem, r1'', r2'', r3'', o1'', o2'', o3'']) rfl ⟨_, _, _, rfl, ?_, ?_, ?_, ?_⟩
  · exact (((((hS2.below hb3 (by simp [World.setCell]; omega)).aside (by simp) _).aside (by simp; try omega) _).aside (by simp; try omega) _).aside (by simp; try omega) _).mono (by simp; try omega) (by simp [World.setCell]; try omega)
  · exact (((((hR2.below hb3 (by simp [World.setCell])).aside (by simp [World.setCell]; try omega) _).aside (by simp [World.setCell]; try omega) _).aside (by simp [World.setCell]; try omega) _).aside (by simp [World.setCell]; try omega) _).mono (by simp [World.setCell]; try omega) (by simp [World.setCell]; try omega)
  · exact ((((ho3.aside (by simp [World.setCell]; try omega) _).aside (by simp [World.setCell]; try omega) _).aside (by simp [World.setCell]; try omega) _).aside (by simp [World.setCell]; try omega) _).mono (by simp [World.setCell]; try omega) (by simp [World.setCell]; try omega)
  · exact (by repeat (first | (with_reducible exact Below.refl _ _) | (with_reducible refine below_ov ?_ ?_) | (with_reducible refine Below.setCell ?_ ?_ _) | (with_reducible refine Below.alloc ?_ ?_ _) | (with_reducible refine Below.drew ?_) | (with_reducible refine below_drewN ?_ _) | (refine Below.trans ?_ (Below.mono ‹Below _ _ _› (by first | omega | (simp; done) | (simp; omega)))) | exact Below.refl _ _ | omega | (focus (simp; done)) | (focus (simp; omega))))

end Go.Proofs.Ytkikjneamjmdlaa
