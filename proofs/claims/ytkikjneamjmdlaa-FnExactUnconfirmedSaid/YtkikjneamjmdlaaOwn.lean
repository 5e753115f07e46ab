/-
  Words for slices of the call's own: 'Own w lo hi E sz v n k c': v is a slice of n elements (E: their type, sz cells each) in a block of the call's own from lo on and below hi; its first k elements are known.
-/
import Derived.Test.YtkikjneamjmdlaaMem
import Derived.Deep.AppendLies
import Derived.Deep.Onto
namespace Go.Proofs.Ytkikjneamjmdlaa
set_option linter.unusedVariables false
set_option linter.unusedSimpArgs false
open Go.RowKit

def Own (w : World) (lo hi E sz : Nat) (v : Value) (n k : Nat) (c : Nat → Nat → Value) : Prop :=
  ∃ xs, w.ownsRow lo E sz v n xs ∧ (∀ g, v.ownBlock = some g → g < hi) ∧ ∀ i j, i < k → j < sz → xs[i * sz + j]? = some (c i j)
theorem lin_lt {n sz i j : Nat} (hi : i < n) (hj : j < sz) : i * sz + j < n * sz := by
  have : (i + 1) * sz ≤ n * sz := Nat.mul_le_mul_right sz hi
  have : (i + 1) * sz = i * sz + sz := Nat.succ_mul i sz
  omega
section
variable {w w' : World} {lo hi lo' hi' E sz n k g cap : Nat} {v u : Value} {c c' : Nat → Nat → Value}
theorem Own.nil_ (w : World) (lo hi E sz : Nat) (c : Nat → Nat → Value) : Own w lo hi E sz (.slice none 0 0) 0 0 c :=
  ⟨[], w.ownsRow_nil lo E sz, fun g h => (by cases h), fun i j h => absurd h (by omega)⟩
theorem Own.sl (h : Own w lo hi E sz v n n c) : Sl w lo hi sz v n c := by
  obtain ⟨xs, ⟨hl, h1⟩, h2, h3⟩ := h
  rcases h1 with ⟨rfl, rfl⟩ | ⟨g, cap, cur, rfl, hg, hh, hnc, hcm, hsz, ht⟩
  · exact Sl.nil_
  · refine ⟨_, _, rfl, hnc, fun hn => ⟨g, 0, rfl, hg, h2 g rfl, fun i j hi hj => ?_⟩⟩
    have h4 := h3 i j hi hj
    have hlt := lin_lt hi hj
    rw [← ht, List.getElem?_take, if_pos hlt] at h4
    rw [Nat.zero_add]
    simpa [World.cell?, hh] using h4
theorem Own.keep (h : Own w lo hi E sz v n k c) (hk : ∀ b, lo ≤ b → b < hi → w'.heap[b]? = w.heap[b]?) : Own w' lo hi E sz v n k c := by
  obtain ⟨xs, ⟨hl, h1⟩, h2, h3⟩ := h
  refine ⟨xs, ⟨hl, ?_⟩, h2, h3⟩
  rcases h1 with h1 | ⟨g, cap, cur, rfl, hg, hh, r⟩
  · exact .inl h1
  · exact .inr ⟨g, cap, cur, rfl, hg, by rw [hk g hg (h2 g rfl)]; exact hh, r⟩
theorem Own.below {B : Nat} (h : Own w lo hi E sz v n k c) (hb : Below B w w') (hB : hi ≤ B) : Own w' lo hi E sz v n k c := h.keep fun b _ h2 => hb.block b (by omega)
theorem Own.mono (h : Own w lo hi E sz v n k c) (h1 : lo' ≤ lo) (h2 : hi ≤ hi') : Own w lo' hi' E sz v n k c := by
  obtain ⟨xs, a, b, d⟩ := h
  exact ⟨xs, a.mono h1, fun g hg => Nat.lt_of_lt_of_le (b g hg) h2, d⟩
theorem Own.alloc (h : Own w lo hi E sz v n k c) (hB : hi ≤ w.heap.size) (o : Obj) : Own (w.alloc o) lo hi E sz v n k c := h.below ((Below.refl _ _).alloc (Nat.le_refl _) o) hB
theorem Own.congr (h : Own w lo hi E sz v n k c) (hc : ∀ i j, i < k → j < sz → c i j = c' i j) : Own w lo hi E sz v n k c' := by
  obtain ⟨xs, a, b, d⟩ := h
  exact ⟨xs, a, b, fun i j hi hj => (d i j hi hj).trans (by rw [hc i j hi hj])⟩
theorem Own.less (h : Own w lo hi E sz v n k c) {k' : Nat} (hk : k' ≤ k) : Own w lo hi E sz v n k' c := by
  obtain ⟨xs, a, b, d⟩ := h
  exact ⟨xs, a, b, fun i j hi hj => d i j (by omega) hj⟩
theorem Own.has (h : Own w lo hi E sz (.slice (some ⟨g, 0, none⟩) n cap) n k c) {o : Nat} (ho : o < n * sz) : ∃ u, w.cell? ⟨g, o, none⟩ = some u := by
  obtain ⟨xs, a, b, d⟩ := h
  have h1 := a.cellAt o ho
  have h2 : o < xs.length := by rw [a.1]; exact ho
  exact ⟨xs[o], by rw [h1]; exact List.getElem?_eq_getElem h2⟩
theorem Own.free (h : Own w lo hi E sz (.slice (some ⟨g, 0, none⟩) n cap) n k c) (o : Nat) : w.frozen? ⟨g, o, none⟩ = false := by
  obtain ⟨xs, a, b, d⟩ := h
  exact a.frozenAt o
theorem Own.at_ (h : Own w lo hi E sz (.slice (some ⟨g, 0, none⟩) n cap) n k c) {i j : Nat} (hi : i < k) (hj : j < sz) (hn : k ≤ n) : w.cell? ⟨g, i * sz + j, none⟩ = some (c i j) := by
  obtain ⟨xs, a, b, d⟩ := h
  rw [a.cellAt _ (lin_lt (by omega) hj)]
  exact d i j hi hj
theorem Own.block (h : Own w lo hi E sz (.slice (some ⟨g, 0, none⟩) n cap) n k c) : lo ≤ g ∧ g < hi := by
  obtain ⟨xs, a, b, d⟩ := h
  exact ⟨(a.lt g rfl).1, b g rfl⟩
theorem Own.store1 (h : Own w lo hi E 1 (.slice (some ⟨g, 0, none⟩) n cap) n k c) (hk : k < n) : Own (w.setCell ⟨g, k, none⟩ (c k 0)) lo hi E 1 (.slice (some ⟨g, 0, none⟩) n cap) n (k + 1) c := by
  obtain ⟨xs, a, b, d⟩ := h
  have hl := a.1
  refine ⟨_, (a.stored k (c k 0)).1, b, fun i j hi hj => ?_⟩
  obtain rfl : j = 0 := by omega
  simp only [Nat.mul_one, Nat.add_zero]
  rcases Nat.lt_or_ge i k with h1 | h1
  · rw [List.getElem?_set_ne (by omega)]
    simpa using d i 0 h1 hj
  · obtain rfl : i = k := by omega
    rw [List.getElem?_set_self (by omega)]
theorem Own.store2 (h : Own w lo hi E 2 (.slice (some ⟨g, 0, none⟩) n cap) n k c) (hk : k < n) :
    Own ((w.setCell ⟨g, k * 2, none⟩ (c k 0)).setCell ⟨g, k * 2 + 1, none⟩ (c k 1)) lo hi E 2 (.slice (some ⟨g, 0, none⟩) n cap) n (k + 1) c := by
  obtain ⟨xs, a, b, d⟩ := h
  have hl := a.1
  refine ⟨_, ((a.stored (k * 2) (c k 0)).1.stored (k * 2 + 1) (c k 1)).1, b, fun i j hi hj => ?_⟩
  rcases Nat.lt_or_ge i k with h1 | h1
  · rw [List.getElem?_set_ne (by omega), List.getElem?_set_ne (by omega)]
    exact d i j h1 hj
  · obtain rfl : i = k := by omega
    match j, hj with
    | 0, _ => rw [List.getElem?_set_ne (by omega)]; exact List.getElem?_set_self (by omega)
    | 1, _ => rw [List.getElem?_set_self (by rw [List.length_set]; omega)]
theorem Own.store3 (h : Own w lo hi E 3 (.slice (some ⟨g, 0, none⟩) n cap) n k c) (hk : k < n) :
    Own (((w.setCell ⟨g, k * 3, none⟩ (c k 0)).setCell ⟨g, k * 3 + 1, none⟩ (c k 1)).setCell ⟨g, k * 3 + 2, none⟩ (c k 2)) lo hi E 3 (.slice (some ⟨g, 0, none⟩) n cap) n (k + 1) c := by
  obtain ⟨xs, a, b, d⟩ := h
  have hl := a.1
  refine ⟨_, (((a.stored (k * 3) (c k 0)).1.stored (k * 3 + 1) (c k 1)).1.stored (k * 3 + 2) (c k 2)).1, b, fun i j hi hj => ?_⟩
  rcases Nat.lt_or_ge i k with h1 | h1
  · rw [List.getElem?_set_ne (by omega), List.getElem?_set_ne (by omega), List.getElem?_set_ne (by omega)]
    exact d i j h1 hj
  · obtain rfl : i = k := by omega
    match j, hj with
    | 0, _ => rw [List.getElem?_set_ne (by omega), List.getElem?_set_ne (by omega)]; exact List.getElem?_set_self (by omega)
    | 1, _ => rw [List.getElem?_set_ne (by omega), List.getElem?_set_self (by rw [List.length_set]; omega)]
    | 2, _ => rw [List.getElem?_set_self (by rw [List.length_set, List.length_set]; omega)]
theorem Own.store4 (h : Own w lo hi E 4 (.slice (some ⟨g, 0, none⟩) n cap) n k c) (hk : k < n) :
    Own ((((w.setCell ⟨g, k * 4, none⟩ (c k 0)).setCell ⟨g, k * 4 + 1, none⟩ (c k 1)).setCell ⟨g, k * 4 + 2, none⟩ (c k 2)).setCell ⟨g, k * 4 + 3, none⟩ (c k 3)) lo hi E 4 (.slice (some ⟨g, 0, none⟩) n cap) n (k + 1) c := by
  obtain ⟨xs, a, b, d⟩ := h
  have hl := a.1
  refine ⟨_, ((((a.stored (k * 4) (c k 0)).1.stored (k * 4 + 1) (c k 1)).1.stored (k * 4 + 2) (c k 2)).1.stored (k * 4 + 3) (c k 3)).1, b, fun i j hi hj => ?_⟩
  rcases Nat.lt_or_ge i k with h1 | h1
  · rw [List.getElem?_set_ne (by omega), List.getElem?_set_ne (by omega), List.getElem?_set_ne (by omega), List.getElem?_set_ne (by omega)]
    exact d i j h1 hj
  · obtain rfl : i = k := by omega
    match j, hj with
    | 0, _ => rw [List.getElem?_set_ne (by omega), List.getElem?_set_ne (by omega), List.getElem?_set_ne (by omega)]; exact List.getElem?_set_self (by omega)
    | 1, _ => rw [List.getElem?_set_ne (by omega), List.getElem?_set_ne (by omega), List.getElem?_set_self (by rw [List.length_set]; omega)]
    | 2, _ => rw [List.getElem?_set_ne (by omega), List.getElem?_set_self (by rw [List.length_set, List.length_set]; omega)]
    | 3, _ => rw [List.getElem?_set_self (by rw [List.length_set, List.length_set, List.length_set]; omega)]
end

end Go.Proofs.Ytkikjneamjmdlaa
