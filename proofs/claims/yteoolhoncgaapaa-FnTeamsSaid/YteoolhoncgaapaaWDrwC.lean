/-
  Walks: what the reference draws of cylinders: whatever it is.
-/
import Derived.Test.YteoolhoncgaapaaWCur2
namespace Go.Proofs.Yteoolhoncgaapaa
set_option linter.unusedVariables false
set_option linter.unusedSimpArgs false
open Go.RowKit

/-- A box of two integers. -/
structure BxI (w : World) (b : Nat) (x y : Int) : Prop where
  c0 : w.cell? ⟨b, 0, none⟩ = some (.int .i64 x)
  c1 : w.cell? ⟨b, 1, none⟩ = some (.int .i64 y)
  fr : ∀ o, w.frozen? ⟨b, o, none⟩ = false
  lt : b < w.heap.size
section
variable {w w' : World} {b g : Nat} {x y : Int}
theorem BxI.keep (h : BxI w b x y) (hk : w'.heap[b]? = w.heap[b]?) (hs : w.heap.size ≤ w'.heap.size) : BxI w' b x y :=
  ⟨(World.cell?_of_block (a := ⟨b, 0, none⟩) hk).trans h.c0, (World.cell?_of_block (a := ⟨b, 1, none⟩) hk).trans h.c1, fun o => (World.frozen?_of_block (a := ⟨b, o, none⟩) hk).trans (h.fr o), Nat.lt_of_lt_of_le h.lt hs⟩
theorem BxI.only (h : BxI w b x y) (hO : Only g (g + 1) w w') (hne : b ≠ g) : BxI w' b x y := h.keep (hO.block b h.lt (by omega)) hO.size
theorem BxI.alloc (h : BxI w b x y) (o : Obj) : BxI (w.alloc o) b x y := h.keep (((Below.refl _ _).alloc (Nat.le_refl _) o).block b h.lt) (by simp)
theorem BxI.new (w : World) (x y : Int) (t : TypeId) : BxI (w.alloc (.cells #[.int .i64 x, .int .i64 y] t)) w.heap.size x y :=
  ⟨World.cell?_alloc_new _ _ _ _, World.cell?_alloc_new _ _ _ _, fun o => by simp [go_sem], by simp⟩
theorem BxI.set0 (h : BxI w b x y) (x' : Int) : BxI (w.setCell ⟨b, 0, none⟩ (.int .i64 x')) b x' y := by
  have h0 := h.c0
  have h1 := h.c1
  exact ⟨by simp [go_sem, h0, h1], by simp [go_sem, h0, h1], fun o => by simp [go_sem, h.fr], by simp [World.setCell]; exact h.lt⟩
theorem BxI.set1 (h : BxI w b x y) (y' : Int) : BxI (w.setCell ⟨b, 1, none⟩ (.int .i64 y')) b x y' := by
  have h0 := h.c0
  have h1 := h.c1
  exact ⟨by simp [go_sem, h0, h1], by simp [go_sem, h0, h1], fun o => by simp [go_sem, h.fr], by simp [World.setCell]; exact h.lt⟩
theorem BxI.other {b' : Nat} (h : BxI w b x y) (hne : b ≠ b') (o : Nat) (u : Value) : BxI (w.setCell ⟨b', o, none⟩ u) b x y := h.keep (Deep.blk_setCell_other _ _ _ _ hne) (by simp [World.setCell])
end

set_option maxRecDepth 100000 in
set_option maxHeartbeats 1600000 in
theorem rateOf_any (g m : Nat) (w : World) (h : Cu w g m) (hm : m < 100000000) :
    Calls Try.prog 56 #[.pointer (some ⟨g, 0, none⟩)] w fun e w' => ∃ v : Int, e = .returned (.int .i64 v) ∧ Cu w' g (m + 10) ∧ Only g (g + 1) w w' := by
  go_enter Try.func56, Try.ntmps56
  go_wp2_with fail
  refine (pick_any g _ _ _ (by repeat (first | (with_reducible refine Cu.alloc ?_ _) | (with_reducible refine Cu.drewN ?_ _) | (with_reducible refine Cu.drew ?_) | (with_reducible assumption))) (by omega)).mono ?_
  rintro e w1 ⟨v1, rfl, hv1, hC1, hO1⟩
  have hz1 := hO1.size
  (try (simp at hz1))
  go_wp2_with fail
  refine (among_new g _ _ _ _ _ _ (by repeat (first | (with_reducible refine Cu.alloc ?_ _) | (with_reducible refine Cu.drewN ?_ _) | (with_reducible refine Cu.drew ?_) | (with_reducible assumption))) (by first | (with_reducible rfl) | simp) (by omega) (by rfl) (by decide) (by decide) (by simp [isI])).mono ?_
  rintro e w2 ⟨v2, rfl, hM2, hC2, hO2⟩
  have hz2 := hO2.size
  (try (simp at hz2))
  go_wp2_with fail
  refine (among_new g _ _ _ _ _ _ (by repeat (first | (with_reducible refine Cu.alloc ?_ _) | (with_reducible refine Cu.drewN ?_ _) | (with_reducible refine Cu.drew ?_) | (with_reducible assumption))) (by first | (with_reducible rfl) | simp) (by omega) (by rfl) (by decide) (by decide) (by simp [isI])).mono ?_
  rintro e w3 ⟨v3, rfl, hM3, hC3, hO3⟩
  have hz3 := hO3.size
  (try (simp at hz3))
  go_wp2_with fail
  go_ret
  exact ⟨_, rfl, hC3.more (by omega), (hO1.trans hO2).trans hO3⟩
set_option maxRecDepth 100000 in
set_option maxHeartbeats 1600000 in
theorem wayOf_any (g m : Nat) (w : World) (h : Cu w g m) (hm : m < 100000000) :
    Calls Try.prog 64 #[.pointer (some ⟨g, 0, none⟩)] w fun e w' => ∃ v : Int, e = .returned (.int .i64 v) ∧ Cu w' g (m + 10) ∧ Only g (g + 1) w w' := by
  go_enter Try.func64, Try.ntmps64
  go_wp2_with fail
  refine (among_new g _ _ _ _ _ _ (by repeat (first | (with_reducible refine Cu.alloc ?_ _) | (with_reducible refine Cu.drewN ?_ _) | (with_reducible refine Cu.drew ?_) | (with_reducible assumption))) (by first | (with_reducible rfl) | simp) (by omega) (by rfl) (by decide) (by decide) (by simp [isI])).mono ?_
  rintro e w1 ⟨v1, rfl, hM1, hC1, hO1⟩
  have hz1 := hO1.size
  (try (simp at hz1))
  go_wp2_with fail
  refine (among_new g _ _ _ _ _ _ (by repeat (first | (with_reducible refine Cu.alloc ?_ _) | (with_reducible refine Cu.drewN ?_ _) | (with_reducible refine Cu.drew ?_) | (with_reducible assumption))) (by first | (with_reducible rfl) | simp) (by omega) (by rfl) (by decide) (by decide) (by simp [isI])).mono ?_
  rintro e w2 ⟨v2, rfl, hM2, hC2, hO2⟩
  have hz2 := hO2.size
  (try (simp at hz2))
  go_wp2_with fail
  go_ret
  exact ⟨_, rfl, hC2.more (by omega), hO1.trans hO2⟩
set_option maxRecDepth 100000 in
set_option maxHeartbeats 1600000 in
theorem reserveOf_any (g m : Nat) (w : World) (h : Cu w g m) (hm : m < 100000000) :
    Calls Try.prog 65 #[.pointer (some ⟨g, 0, none⟩)] w fun e w' => ∃ v : Int, e = .returned (.int .i64 v) ∧ Cu w' g (m + 10) ∧ Only g (g + 1) w w' := by
  go_enter Try.func65, Try.ntmps65
  go_wp2_with fail
  refine (among_new g _ _ _ _ _ _ (by repeat (first | (with_reducible refine Cu.alloc ?_ _) | (with_reducible refine Cu.drewN ?_ _) | (with_reducible refine Cu.drew ?_) | (with_reducible assumption))) (by first | (with_reducible rfl) | simp) (by omega) (by rfl) (by decide) (by decide) (by simp [isI])).mono ?_
  rintro e w1 ⟨v1, rfl, hM1, hC1, hO1⟩
  have hz1 := hO1.size
  (try (simp at hz1))
  go_wp2_with fail
  refine (among_new g _ _ _ _ _ _ (by repeat (first | (with_reducible refine Cu.alloc ?_ _) | (with_reducible refine Cu.drewN ?_ _) | (with_reducible refine Cu.drew ?_) | (with_reducible assumption))) (by first | (with_reducible rfl) | simp) (by omega) (by rfl) (by decide) (by decide) (by simp [isI])).mono ?_
  rintro e w2 ⟨v2, rfl, hM2, hC2, hO2⟩
  have hz2 := hO2.size
  (try (simp at hz2))
  go_wp2_with fail
  go_ret
  exact ⟨_, rfl, hC2.more (by omega), hO1.trans hO2⟩
set_option maxRecDepth 100000 in
set_option maxHeartbeats 1600000 in
theorem barOf_any (g m : Nat) (w : World) (h : Cu w g m) (hm : m < 100000000) :
    Calls Try.prog 57 #[.pointer (some ⟨g, 0, none⟩)] w fun e w' => ∃ v : Int, e = .returned (.int .i64 v) ∧ Cu w' g (m + 10) ∧ Only g (g + 1) w w' := by
  go_enter Try.func57, Try.ntmps57
  go_wp2_with fail
  refine (pick_any g _ _ _ (by repeat (first | (with_reducible refine Cu.alloc ?_ _) | (with_reducible refine Cu.drewN ?_ _) | (with_reducible refine Cu.drew ?_) | (with_reducible assumption))) (by omega)).mono ?_
  rintro e w1 ⟨v1, rfl, hv1, hC1, hO1⟩
  have hz1 := hO1.size
  (try (simp at hz1))
  go_wp2_with fail
  refine (among_new g _ _ _ _ _ _ (by repeat (first | (with_reducible refine Cu.alloc ?_ _) | (with_reducible refine Cu.drewN ?_ _) | (with_reducible refine Cu.drew ?_) | (with_reducible assumption))) (by first | (with_reducible rfl) | simp) (by omega) (by rfl) (by decide) (by decide) (by simp [isI])).mono ?_
  rintro e w2 ⟨v2, rfl, hM2, hC2, hO2⟩
  have hz2 := hO2.size
  (try (simp at hz2))
  go_wp2_with fail
  refine (among_new g _ _ _ _ _ _ (by repeat (first | (with_reducible refine Cu.alloc ?_ _) | (with_reducible refine Cu.drewN ?_ _) | (with_reducible refine Cu.drew ?_) | (with_reducible assumption))) (by first | (with_reducible rfl) | simp) (by omega) (by rfl) (by decide) (by decide) (by simp [isI])).mono ?_
  rintro e w3 ⟨v3, rfl, hM3, hC3, hO3⟩
  have hz3 := hO3.size
  (try (simp at hz3))
  go_wp2_with fail
  go_ret
  exact ⟨_, rfl, hC3.more (by omega), (hO1.trans hO2).trans hO3⟩
set_option maxRecDepth 100000 in
set_option maxHeartbeats 3200000 in
theorem cylinder_any (g m : Nat) (w : World) (h : Cu w g m) (hm : m < 100000000) :
    Calls Try.prog 55 #[.pointer (some ⟨g, 0, none⟩)] w fun e w' => ∃ x y : Int, e = .returned (.agg #[.int .i64 x, .int .i64 y]) ∧ Cu w' g (m + 20) ∧ Only g (g + 1) w w' := by
  have hg := h.lt
  have h0 : Cu (w.alloc (.cells #[.int .i64 0, .int .i64 0] 26)) g m := h.alloc _
  go_enter Try.func55, Try.ntmps55
  go_wp2_with fail
  refine (among_new g _ _ _ _ _ _ (by repeat (first | (with_reducible refine Cu.alloc ?_ _) | (with_reducible refine Cu.drewN ?_ _) | (with_reducible refine Cu.drew ?_) | (with_reducible assumption))) (by first | (with_reducible rfl) | simp) (by omega) (by rfl) (by decide) (by decide) (by simp [isI])).mono ?_
  rintro e w1 ⟨v1, rfl, hM1, hC1, hO1⟩
  have hz1 := hO1.size
  (try (simp at hz1))
  go_wp2_with fail
  refine (pick_any g _ _ _ (by repeat (first | (with_reducible refine Cu.alloc ?_ _) | (with_reducible refine Cu.drewN ?_ _) | (with_reducible refine Cu.drew ?_) | (with_reducible assumption))) (by omega)).mono ?_
  rintro e w2 ⟨v2, rfl, hv2, hC2, hO2⟩
  have hz2 := hO2.size
  (try (simp at hz2))
  go_wp2_with fail
  refine (among_new g _ _ _ _ _ _ (by repeat (first | (with_reducible refine Cu.alloc ?_ _) | (with_reducible refine Cu.drewN ?_ _) | (with_reducible refine Cu.drew ?_) | (with_reducible assumption))) (by first | (with_reducible rfl) | simp) (by omega) (by rfl) (by decide) (by decide) (by simp [isI])).mono ?_
  rintro e w3 ⟨v3, rfl, hM3, hC3, hO3⟩
  have hz3 := hO3.size
  (try (simp at hz3))
  have R3 : BxI w3 w.heap.size 0 0 := (((BxI.new w 0 0 26).only hO1 (by omega)).only hO2 (by omega)).only hO3 (by omega)
  go_wp2_with fail
  obtain ⟨W3, hW3⟩ : ∃ W, W = w3.alloc (.cells #[.int .i64 v1, .int .i64 v3] 26) := ⟨_, rfl⟩
  have S4 : BxI W3 w3.heap.size v1 v3 := by rw [hW3]; exact BxI.new _ _ _ _
  have R4 : BxI W3 w.heap.size 0 0 := by rw [hW3]; exact R3.alloc _
  have C4 : Cu W3 g (m + 2 + 2 + 2) := by rw [hW3]; exact hC3.alloc _
  have O4 : Only g (g + 1) w W3 := by
    rw [hW3]
    exact ((((Only.refl _ _ w).alloc _).trans hO1).trans hO2).trans hO3 |>.alloc _
  rw [← hW3]
  have hl : g < w3.heap.size := by omega
  clear R3 hW3
  go_wp2_with fail
  refine (pick_any g _ _ _ (by repeat (first | (with_reducible refine Cu.alloc ?_ _) | (with_reducible refine Cu.drewN ?_ _) | (with_reducible refine Cu.drew ?_) | (with_reducible assumption))) (by omega)).mono ?_
  rintro e w4 ⟨v4, rfl, hv4, hC4, hO4⟩
  have hz4 := hO4.size
  (try (simp at hz4))
  have S5 := S4.only hO4 (by omega)
  have R5 := R4.only hO4 (by omega)
  have O5 := O4.trans hO4
  clear S4 R4 O4
  have hr5 : w.heap.size ≠ w3.heap.size := by omega
  by_cases e0 : v4 = 0
  · subst e0
    go_wp2_with fail
    refine (among_new g _ _ _ _ _ _ (by repeat (first | (with_reducible refine Cu.alloc ?_ _) | (with_reducible refine Cu.drewN ?_ _) | (with_reducible refine Cu.drew ?_) | (with_reducible assumption))) (by first | (with_reducible rfl) | simp) (by omega) (by rfl) (by decide) (by decide) (by simp [isI])).mono ?_
    rintro e w5 ⟨v5, rfl, hM5, hC5, hO5⟩
    have hz5 := hO5.size
    (try (simp at hz5))
    have S6 := S5.only hO5 (by omega)
    have R6 := R5.only hO5 (by omega)
    obtain ⟨p0, p1, pf, pl⟩ := S6
    obtain ⟨q0, q1, qf, ql⟩ := R6
    go_wp2_with fail
    exact bodyPost_ret (v := .agg #[.int .i64 v5, .int .i64 v3]) (by simp [results, Try.results55, go_sem, *]) rfl ⟨_, _, rfl, ((((hC5.set (p := ⟨w3.heap.size, 0, none⟩) (by show g < w3.heap.size; omega) _).set (p := ⟨w.heap.size, 0, none⟩) (by show g < w.heap.size; omega) _).set (p := ⟨w.heap.size, 1, none⟩) (by show g < w.heap.size; omega) _)).more (by omega), ((((O5.trans hO5).setNew (a := ⟨w3.heap.size, 0, none⟩) (by show w.heap.size ≤ w3.heap.size; omega) _).setNew (a := ⟨w.heap.size, 0, none⟩) (by show w.heap.size ≤ w.heap.size; omega) _).setNew (a := ⟨w.heap.size, 1, none⟩) (by show w.heap.size ≤ w.heap.size; omega) _)⟩
  · by_cases e1 : v4 = 1
    · subst e1
      go_wp2_with fail
      refine (among_new g _ _ _ _ _ _ (by repeat (first | (with_reducible refine Cu.alloc ?_ _) | (with_reducible refine Cu.drewN ?_ _) | (with_reducible refine Cu.drew ?_) | (with_reducible assumption))) (by first | (with_reducible rfl) | simp) (by omega) (by rfl) (by decide) (by decide) (by simp [isI])).mono ?_
      rintro e w5 ⟨v5, rfl, hM5, hC5, hO5⟩
      have hz5 := hO5.size
      (try (simp at hz5))
      have S6 := S5.only hO5 (by omega)
      have R6 := R5.only hO5 (by omega)
      obtain ⟨p0, p1, pf, pl⟩ := S6
      obtain ⟨q0, q1, qf, ql⟩ := R6
      go_wp2_with fail
      exact bodyPost_ret (v := .agg #[.int .i64 v1, .int .i64 v5]) (by simp [results, Try.results55, go_sem, *]) rfl ⟨_, _, rfl, ((((hC5.set (p := ⟨w3.heap.size, 1, none⟩) (by show g < w3.heap.size; omega) _).set (p := ⟨w.heap.size, 0, none⟩) (by show g < w.heap.size; omega) _).set (p := ⟨w.heap.size, 1, none⟩) (by show g < w.heap.size; omega) _)).more (by omega), ((((O5.trans hO5).setNew (a := ⟨w3.heap.size, 1, none⟩) (by show w.heap.size ≤ w3.heap.size; omega) _).setNew (a := ⟨w.heap.size, 0, none⟩) (by show w.heap.size ≤ w.heap.size; omega) _).setNew (a := ⟨w.heap.size, 1, none⟩) (by show w.heap.size ≤ w.heap.size; omega) _)⟩
    · have d0 : (v4 == 0) = false := by simp [e0]
      have d1 : (v4 == 1) = false := by simp [e1]
      obtain ⟨p0, p1, pf, pl⟩ := S5
      obtain ⟨q0, q1, qf, ql⟩ := R5
      go_wp2_with fail
      exact bodyPost_ret (v := .agg #[.int .i64 v1, .int .i64 v3]) (by simp [results, Try.results55, go_sem, *]) rfl ⟨_, _, rfl, (((hC4.set (p := ⟨w.heap.size, 0, none⟩) (by show g < w.heap.size; omega) _).set (p := ⟨w.heap.size, 1, none⟩) (by show g < w.heap.size; omega) _)).more (by omega), ((O5.setNew (a := ⟨w.heap.size, 0, none⟩) (by show w.heap.size ≤ w.heap.size; omega) _).setNew (a := ⟨w.heap.size, 1, none⟩) (by show w.heap.size ≤ w.heap.size; omega) _)⟩

end Go.Proofs.Yteoolhoncgaapaa
