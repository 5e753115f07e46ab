/-
  The library's Sort and Compact at a row of the call's own.
-/
import Derived.Test.YtaijbihjkbpoeaaWSort
import Derived.Test.YtaijbihjkbpoeaaWPut
namespace Go.Proofs.Ytaijbihjkbpoeaa
set_option linter.unusedVariables false
set_option linter.unusedSimpArgs false
open Go.RowKit Go.Shelf Go.Sort

theorem sort_row {L : List (List UInt8)} {base : Nat} {v : Value} {w : World} (h : TRow w base v L) (hl : L.length ≤ 64) :
    Calls Try.prog 64 #[v] w fun e w' => e = .returned (.tuple #[]) ∧ TRow w' base v (L.mergeSort fun x y => decide (x ≤ y)) ∧ Below base w w' := by
  have hms : (L.mergeSort fun x y => decide (x ≤ y)).length = L.length := List.length_mergeSort L
  rcases h.2 with ⟨h0, h1⟩ | ⟨g, cap, cur, rfl, hbg, hg, hnc, hcm, hcs, htake⟩
  · have hl0 : L = [] := List.eq_nil_of_length_eq_zero h1
    subst hl0
    subst h0
    exact (sort_n none 0 w).mono fun e w' ⟨h2, h3⟩ => ⟨h2, by subst h3; simpa using h, by subst h3; exact Below.refl _ _⟩
  · obtain ⟨g', cap', e1, hbg', hgl, _, _, _, hH⟩ := Lib.holds_of_ownsRow (enc := encStr) h (by simp)
    injection e1 with e1 e2 e3
    injection e1 with e1
    injection e1 with e1 _ _
    subst e1 e3
    refine (sort_c g 0 cap L w hH hgl (by omega)).mono fun e w' ⟨h2, n, os, h3⟩ => ⟨h2, ?_, ?_⟩
    · subst h3
      have := ownsRow_sorted (n := n) (os := os) (ts := L.mergeSort fun x y => decide (x ≤ y)) (ss := L) hms hbg hg hnc hcm hcs
      rw [TRow, hms]
      exact this
    · subst h3
      exact (Below.refl base w).grown (grownBy_sorted _) (Nat.le_trans hbg' (Nat.le_of_lt hgl)) (fun j hj => by cases hj; exact hbg)
theorem compact_row {L : List (List UInt8)} {base : Nat} {v : Value} {w : World} (h : TRow w base v L) (hl : L.length ≤ 64) :
    Calls Try.prog 65 #[v] w fun e w' => ∃ v', e = .returned v' ∧ TRow w' base v' (Lib.compact L) ∧ Below base w w' := by
  have hle := Lib.compact_length_le L
  rcases h.2 with ⟨h0, h1⟩ | ⟨g, cap, cur, rfl, hbg, hg, hnc, hcm, hcs, htake⟩
  · have hl0 : L = [] := List.eq_nil_of_length_eq_zero h1
    subst hl0
    subst h0
    refine (compact_n none 0 w).mono fun e w' ⟨h2, h3⟩ => ⟨_, h2, ?_, by subst h3; exact Below.refl _ _⟩
    subst h3
    exact World.ownsRow_nil _ _ _ _
  · obtain ⟨g', cap', e1, hbg', hgl, _, _, _, hH⟩ := Lib.holds_of_ownsRow (enc := encStr) h (by simp)
    injection e1 with e1 e2 e3
    injection e1 with e1
    injection e1 with e1 _ _
    subst e1 e3
    refine (compact_c g 0 cap L w hH (by omega) hnc).mono fun e w' ⟨h2, q, h3⟩ => ⟨_, h2, ?_, ?_⟩
    · subst h3
      have hc := Lib.ownsRow_putRow (q := q) (k := (Lib.compact L).length) (ys := Lib.compact L ++ List.replicate (L.length - (Lib.compact L).length) []) h (by simp; omega) (by omega)
      rw [List.take_left] at hc
      exact hc
    · subst h3
      exact Lib.below_putRow (Below.refl base w) hbg

end Go.Proofs.Ytaijbihjkbpoeaa
