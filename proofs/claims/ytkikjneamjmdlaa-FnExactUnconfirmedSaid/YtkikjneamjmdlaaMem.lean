/-
  Words for slices that are read: 'Sl w lo hi sz v n c': v is a slice of n elements of sz cells each, that lie in a block from lo on and below hi; cell j of element i holds 'c i j'. nil is let in (n = 0).
-/
import Derived.Test.YtkikjneamjmdlaaBase
namespace Go.Proofs.Ytkikjneamjmdlaa
set_option linter.unusedVariables false
set_option linter.unusedSimpArgs false
open Go.RowKit

def Sl (w : World) (lo hi sz : Nat) (v : Value) (n : Nat) (c : Nat → Nat → Value) : Prop :=
  ∃ A cap, v = .slice A n cap ∧ n ≤ cap ∧ (0 < n → ∃ b off, A = some ⟨b, off, none⟩ ∧ lo ≤ b ∧ b < hi ∧ ∀ i j, i < n → j < sz → w.cell? ⟨b, off + i * sz + j, none⟩ = some (c i j))
/-- What is known of the address, behind the value's form. -/
def SlA (w : World) (lo hi sz : Nat) (A : Option Addr) (n : Nat) (c : Nat → Nat → Value) : Prop :=
  0 < n → ∃ b off, A = some ⟨b, off, none⟩ ∧ lo ≤ b ∧ b < hi ∧ ∀ i j, i < n → j < sz → w.cell? ⟨b, off + i * sz + j, none⟩ = some (c i j)
section
variable {w w' : World} {lo hi lo' hi' sz n cap : Nat} {v : Value} {A : Option Addr} {c : Nat → Nat → Value}
theorem Sl.open_ (h : Sl w lo hi sz v n c) : ∃ A cap, v = .slice A n cap ∧ n ≤ cap ∧ SlA w lo hi sz A n c := h
theorem SlA.shut (h : SlA w lo hi sz A n c) (hc : n ≤ cap) : Sl w lo hi sz (.slice A n cap) n c := ⟨A, cap, rfl, hc, h⟩
theorem SlA.keep (h : SlA w lo hi sz A n c) (hk : ∀ k, lo ≤ k → k < hi → w'.heap[k]? = w.heap[k]?) : SlA w' lo hi sz A n c := fun hn => by
  obtain ⟨b, off, h1, h2, h3, h4⟩ := h hn
  exact ⟨b, off, h1, h2, h3, fun i j hi hj => (World.cell?_of_block (w := w) (hk b h2 h3)).trans (h4 i j hi hj)⟩
theorem SlA.below {B : Nat} (h : SlA w lo hi sz A n c) (hb : Below B w w') (hB : hi ≤ B) : SlA w' lo hi sz A n c := h.keep fun k _ h2 => hb.block k (by omega)
theorem SlA.mono (h : SlA w lo hi sz A n c) (h1 : lo' ≤ lo) (h2 : hi ≤ hi') : SlA w lo' hi' sz A n c := fun hn => by
  obtain ⟨b, off, a1, a2, a3, a4⟩ := h hn
  exact ⟨b, off, a1, by omega, by omega, a4⟩
theorem Sl.keep (h : Sl w lo hi sz v n c) (hk : ∀ k, lo ≤ k → k < hi → w'.heap[k]? = w.heap[k]?) : Sl w' lo hi sz v n c := by
  obtain ⟨A, cap, h1, h2, h3⟩ := h
  exact ⟨A, cap, h1, h2, SlA.keep h3 hk⟩
theorem Sl.below {B : Nat} (h : Sl w lo hi sz v n c) (hb : Below B w w') (hB : hi ≤ B) : Sl w' lo hi sz v n c := h.keep fun k _ h2 => hb.block k (by omega)
theorem Sl.mono (h : Sl w lo hi sz v n c) (h1 : lo' ≤ lo) (h2 : hi ≤ hi') : Sl w lo' hi' sz v n c := by
  obtain ⟨A, cap, a1, a2, a3⟩ := h
  exact ⟨A, cap, a1, a2, SlA.mono a3 h1 h2⟩
theorem SlA.less (h : SlA w lo hi sz A n c) {k : Nat} (hk : k ≤ n) : SlA w lo hi sz A k c := fun h0 => by
  obtain ⟨b, off, a1, a2, a3, a4⟩ := h (by omega)
  exact ⟨b, off, a1, a2, a3, fun i j hi hj => a4 i j (by omega) hj⟩
theorem Sl.nil_ : Sl w lo hi sz (.slice none 0 0) 0 c := ⟨none, 0, rfl, Nat.le_refl _, fun h => absurd h (Nat.lt_irrefl _)⟩
end

/-- All of the first n are so. -/
def allB (p : Nat → Bool) : Nat → Bool
  | 0 => true
  | n + 1 => allB p n && p n
theorem allB_iff {p : Nat → Bool} {n : Nat} : allB p n = true ↔ ∀ i, i < n → p i = true := by
  induction n with
  | zero => simp [allB]
  | succ n ih =>
    simp only [allB, Bool.and_eq_true, ih]
    exact ⟨fun ⟨h1, h2⟩ i hi => by
      rcases Nat.lt_or_ge i n with h | h
      · exact h1 i h
      · obtain rfl : i = n := by omega
        exact h2, fun h => ⟨fun i hi => h i (by omega), h n (by omega)⟩⟩
theorem allB_false {p : Nat → Bool} {n i : Nat} (hi : i < n) (h : p i = false) : allB p n = false := by
  cases ha : allB p n with
  | false => rfl
  | true => rw [allB_iff.1 ha i hi] at h; cases h
/-- Up to here all were so; and this one. -/
theorem upto_snoc {p : Nat → Bool} {k : Nat} (h : ∀ j, j < k → p j = true) (hk : p k = true) : ∀ j, j < k + 1 → p j = true := fun j hj => by
  rcases Nat.lt_or_ge j k with h1 | h1
  · exact h j h1
  · obtain rfl : j = k := by omega
    exact hk

theorem upto_snocF {p : Nat → Bool} {k : Nat} (h : ∀ j, j < k → p j = false) (hk : p k = false) : ∀ j, j < k + 1 → p j = false := fun j hj => by
  rcases Nat.lt_or_ge j k with h1 | h1
  · exact h j h1
  · obtain rfl : j = k := by omega
    exact hk
/-! ### A region that draws its order, whose calls make memory: one walk, in a class of worlds in which the old blocks read as they did. -/
/-- x above W's blocks, W's own blocks below. -/
def ov (W x : World) : World := { x with heap := (W.heap.toList ++ x.heap.toList.drop W.heap.size).toArray, os := W.os, tape := W.tape, output := W.output }
theorem ov_block (W x : World) (k : Nat) (hk : k < W.heap.size) : (ov W x).heap[k]? = W.heap[k]? := by
  simp [ov, List.getElem?_append, hk]
theorem ov_below (W x : World) : Below W.heap.size W (ov W x) := ⟨rfl, rfl, rfl, by simp [ov], fun k hk => ov_block W x k hk⟩
theorem ov_of_below {W w' : World} (h : Below W.heap.size W w') : w' = ov W w' := by
  have hh : w'.heap = (W.heap.toList ++ w'.heap.toList.drop W.heap.size).toArray := by
    apply Array.ext_getElem?
    intro i
    by_cases hi : i < W.heap.size
    · rw [h.block i hi]; simp [List.getElem?_append, hi]
    · simp [List.getElem?_append, hi]
      congr 1
      omega
  cases w' with
  | mk heap tape drawn os output =>
    simp only [ov]
    have h1 := h.os
    have h2 := h.tape
    have h3 := h.output
    simp only at h1 h2 h3 hh
    rw [← hh, h1, h2, h3]
theorem ov_class (W : World) : (fun w' => Below W.heap.size W w') = (fun w' => ∃ x, w' = ov W x) := by
  funext w'
  exact propext ⟨fun h => ⟨w', ov_of_below h⟩, fun ⟨x, hx⟩ => hx ▸ ov_below W x⟩
@[go_sem] theorem ov_cell (W x : World) (b o : Nat) (hb : b < W.heap.size) : (ov W x).cell? ⟨b, o, none⟩ = W.cell? ⟨b, o, none⟩ := (ov_below W x).cell (p := ⟨b, o, none⟩) hb
@[go_sem] theorem ov_frozen (W x : World) (b o : Nat) (hb : b < W.heap.size) : (ov W x).frozen? ⟨b, o, none⟩ = W.frozen? ⟨b, o, none⟩ := (ov_below W x).frozen (p := ⟨b, o, none⟩) hb
theorem wp_region_below_lit {P : Program} {id : Nat} {Q : Exit → Act → World → Prop} {a : Act} {w : World} {l : List Oper} (hm : P.follows .mixedOrders = true) (hB : Region.lexB .any l.toArray = true)
    (h : wpQuiet P l.toArray (fun w' => ∃ x, w' = ov w x) (fun a' => ∀ w', Below w.heap.size w w' → Q .normal a' w') l a) : (Code.region id l.toArray true).wp P Q a w := by
  have e := ov_class w
  refine wp_region_quiet (C := fun w' => ∃ x, w' = ov w x) hm hB ?_ ?_
  · exact (congrFun e _).mp (Below.drew (Below.refl w.heap.size w))
  · have e2 : (fun a' => ∀ w', Below w.heap.size w w' → Q .normal a' w') = (fun a' => ∀ w', (∃ x, w' = ov w x) → Q .normal a' w') := by
      funext a'
      refine propext ⟨fun hq w' hx => hq w' (by have := congrFun e w'; exact this.mpr hx), fun hq w' hb => hq w' ((congrFun e w').mp hb)⟩
    rw [← e2]
    simpa using h
theorem below_ov {B : Nat} {a W x : World} (h : Below B a W) (hB : B ≤ W.heap.size) : Below B a (ov W x) := h.trans ((ov_below W x).mono hB)
theorem quiet_ov {P : Program} {f : FuncId} {args : Array Value} {W x : World} {v : Value}
    (h : Calls P f args (ov W x) fun e w' => e = .returned v ∧ Below (ov W x).heap.size (ov W x) w') : Calls P f args (ov W x) fun e w'' => e = .returned v ∧ ∃ m, w'' = ov W m :=
  h.mono fun _ w' ⟨he, hb⟩ => ⟨he, w', ov_of_below ((ov_below W x).trans (hb.mono (ov_below W x).size))⟩
theorem quiet_ov_same {P : Program} {f : FuncId} {args : Array Value} {W x : World} {v : Value}
    (h : Calls P f args (ov W x) fun e w' => e = .returned v ∧ ov W x = w') : Calls P f args (ov W x) fun e w'' => e = .returned v ∧ ∃ m, w'' = ov W m :=
  h.mono fun _ _ ⟨he, hm⟩ => ⟨he, x, hm.symm⟩

end Go.Proofs.Ytkikjneamjmdlaa
