/-
  Walks: what the reference draws of lists of checks, cylinders, rates: whatever it is.
-/
import Derived.Test.YteoolhoncgaapaaWDrwC2
import Derived.Test.YteoolhoncgaapaaPFlt
import Derived.Test.YteoolhoncgaapaaWL1
import Derived.Deep.LoopGhost
namespace Go.Proofs.Yteoolhoncgaapaa
set_option linter.unusedVariables false
set_option linter.unusedSimpArgs false
open Go.RowKit

/-- A row of whole numbers of the call's own: n elements of sz cells. -/
def IRow (w : World) (lo sz : Nat) (v : Value) (n : Nat) : Prop :=
  (v = .slice none 0 0 ∧ n = 0) ∨ ∃ q cap, v = .slice (some ⟨q, 0, none⟩) n cap ∧ n ≤ cap ∧ lo ≤ q ∧ q < w.heap.size ∧ (∀ o, w.frozen? ⟨q, o, none⟩ = false) ∧ ∀ o, o < n * sz → ∃ x, w.cell? ⟨q, o, none⟩ = some (.int .i64 x)
section
variable {w w' : World} {lo sz n g E : Nat} {v : Value} {xs : List Value}
theorem IRow.of_own (h : w.ownsRow lo E sz v n xs) (hx : ∀ u ∈ xs, isI u = true) : IRow w lo sz v n := by
  rcases h.2 with ⟨h0, h1⟩ | ⟨q, cap, cur, rfl, hq, hh, hnc, _⟩
  · exact .inl ⟨h0, h1⟩
  · refine .inr ⟨q, cap, rfl, hnc, hq, (h.lt q rfl).2, fun o => h.frozenAt o, fun o ho => ?_⟩
    have h2 := h.cellAt o ho
    have h3 : o < xs.length := by rw [h.1]; exact ho
    rw [List.getElem?_eq_getElem h3] at h2
    obtain ⟨x, hx'⟩ := isI_int (hx _ (List.getElem_mem h3))
    exact ⟨x, by rw [h2, hx']⟩
theorem IRow.keep (h : IRow w lo sz v n) (hk : ∀ q, lo ≤ q → q < w.heap.size → w'.heap[q]? = w.heap[q]?) (hs : w.heap.size ≤ w'.heap.size) : IRow w' lo sz v n := by
  rcases h with h | ⟨q, cap, h0, h1, h2, h3, h4, h5⟩
  · exact .inl h
  · refine .inr ⟨q, cap, h0, h1, h2, by omega, fun o => (World.frozen?_of_block (a := ⟨q, o, none⟩) (hk q h2 h3)).trans (h4 o), fun o ho => ?_⟩
    obtain ⟨x, hx⟩ := h5 o ho
    exact ⟨x, (World.cell?_of_block (a := ⟨q, o, none⟩) (hk q h2 h3)).trans hx⟩
theorem IRow.only (h : IRow w lo sz v n) (hO : Only g (g + 1) w w') (hg : g < lo) : IRow w' lo sz v n := h.keep (fun q h1 h2 => hO.block q h2 (by omega)) hO.size
theorem IRow.alloc (h : IRow w lo sz v n) (o : Obj) : IRow (w.alloc o) lo sz v n := h.keep (fun q _ h2 => ((Below.refl _ _).alloc (Nat.le_refl _) o).block q h2) (by simp)
theorem IRow.below (h : IRow w lo sz v n) (hb : Below w.heap.size w w') : IRow w' lo sz v n := h.keep (fun q _ h2 => hb.block q h2) hb.size
theorem IRow.drewN (h : IRow w lo sz v n) (k : Nat) : IRow (w.drewN k) lo sz v n := h.keep (fun _ _ _ => rfl) (Nat.le_refl _)
theorem IRow.set {q cap o : Nat} (h : IRow w lo sz (.slice (some ⟨q, 0, none⟩) n cap) n) (x : Int) : IRow (w.setCell ⟨q, o, none⟩ (.int .i64 x)) lo sz (.slice (some ⟨q, 0, none⟩) n cap) n := by
  rcases h with ⟨h, _⟩ | ⟨q', cap', h0, h1, h2, h3, h4, h5⟩
  · cases h
  · cases h0
    refine .inr ⟨q, cap, rfl, h1, h2, by simp [World.setCell]; exact h3, fun o' => by simp [go_sem, h4], fun o' ho => ?_⟩
    obtain ⟨y, hy⟩ := h5 o' ho
    by_cases e : o' = o
    · subst e
      exact ⟨x, by simp [go_sem, hy]⟩
    · exact ⟨y, (World.cell?_setCell_other w ⟨q, o, none⟩ ⟨q, o', none⟩ _ (fun h => e (by cases h; rfl))).trans hy⟩
/-- A number that lies in a cell. -/
noncomputable def atI (w : World) (q o : Nat) : Int := match w.cell? ⟨q, o, none⟩ with
  | some (.int .i64 x) => x
  | _ => 0
theorem atI_eq {q o : Nat} (h : ∃ x, w.cell? ⟨q, o, none⟩ = some (.int .i64 x)) : w.cell? ⟨q, o, none⟩ = some (.int .i64 (atI w q o)) := by
  obtain ⟨x, hx⟩ := h
  rw [atI, hx]
theorem IRow.sl1 (h : IRow w lo 1 v n) : ∃ f : Nat → Int, Sl w lo w.heap.size 1 v n (fun i _ => .int .i64 (f i)) := by
  rcases h with ⟨rfl, rfl⟩ | ⟨q, cap, rfl, h1, h2, h3, h4, h5⟩
  · exact ⟨fun _ => 0, Sl.nil_⟩
  · refine ⟨fun i => atI w q i, _, _, rfl, h1, fun hn => ⟨q, 0, rfl, h2, h3, fun i j hi hj => ?_⟩⟩
    obtain rfl : j = 0 := by omega
    simp only [Nat.mul_one, Nat.add_zero, Nat.zero_add]
    exact atI_eq (h5 i (by omega))
theorem IRow.sl2 (h : IRow w lo 2 v n) : ∃ f k : Nat → Int, Sl w lo w.heap.size 2 v n (iiC f k) := by
  rcases h with ⟨rfl, rfl⟩ | ⟨q, cap, rfl, h1, h2, h3, h4, h5⟩
  · exact ⟨fun _ => 0, fun _ => 0, Sl.nil_⟩
  · refine ⟨fun i => atI w q (i * 2), fun i => atI w q (i * 2 + 1), _, _, rfl, h1, fun hn => ⟨q, 0, rfl, h2, h3, fun i j hi hj => ?_⟩⟩
    have hj' : j = 0 ∨ j = 1 := by omega
    rcases hj' with rfl | rfl
    · simp only [Nat.add_zero, Nat.zero_add]
      exact atI_eq (h5 (i * 2) (by omega))
    · simp only [Nat.zero_add]
      exact atI_eq (h5 (i * 2 + 1) (by omega))
theorem row_only (h : w.ownsRow lo E sz v n xs) (hO : Only g (g + 1) w w') (hg : g < lo) : w'.ownsRow lo E sz v n xs := by
  obtain ⟨hl, h1⟩ := id h
  refine ⟨hl, ?_⟩
  rcases h1 with h1 | ⟨q, cap, cur, rfl, hq, hh, r⟩
  · exact .inl h1
  · exact .inr ⟨q, cap, cur, rfl, hq, by rw [hO.block q (h.lt q rfl).2 (by omega)]; exact hh, r⟩
end
theorem infoInt : (Try.prog.info? 3).map (fun i => (i.zero, i.size, i.bytes)) = some (some (.int .i64 0), 1, 8) := by kernel_rfl
theorem infoCheck : (Try.prog.info? 64).map (fun i => (i.zero, i.size, i.bytes)) = some (some (.agg #[.int .i64 0, .int .i64 0]), 2, 16) := by kernel_rfl
theorem infoCyl : (Try.prog.info? 26).map (fun i => (i.zero, i.size, i.bytes)) = some (some (.agg #[.int .i64 0, .int .i64 0]), 2, 16) := by kernel_rfl

end Go.Proofs.Yteoolhoncgaapaa
