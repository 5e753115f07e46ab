/-
  Lists of the places that pass a test; rows of the call's own that hold them.
-/
import Derived.Test.YtkikjneamjmdlaaCells
namespace Go.Proofs.Ytkikjneamjmdlaa
set_option linter.unusedVariables false
set_option linter.unusedSimpArgs false
open Go.RowKit

/-- The first n that are so. -/
def flt (p : Nat → Bool) : Nat → List Nat
  | 0 => []
  | k + 1 => flt p k ++ if p k = true then [k] else []
theorem flt_len (p : Nat → Bool) : ∀ n, (flt p n).length ≤ n
  | 0 => by simp [flt]
  | k + 1 => by
    have := flt_len p k
    rw [flt, List.length_append]
    split <;> simp <;> omega
theorem flt_yes {p : Nat → Bool} {k : Nat} (h : p k = true) : flt p (k + 1) = flt p k ++ [k] := by rw [flt, if_pos h]
theorem flt_no {p : Nat → Bool} {k : Nat} (h : p k = false) : flt p (k + 1) = flt p k := by rw [flt, h]; simp
def fltV (p : Nat → Bool) (n : Nat) : List Value := (flt p n).map fun (i : Nat) => .int .i64 (i : Int)
def fltI (p : Nat → Bool) (n : Nat) (i : Nat) : Int := ((flt p n).getD i 0 : Nat)
theorem fltV_len (p : Nat → Bool) (n : Nat) : (fltV p n).length = (flt p n).length := by simp [fltV]
/-- A row that holds them. -/
theorem own_flt {w : World} {lo E : Nat} {v : Value} {p : Nat → Bool} {n : Nat} (h : w.ownsRow lo E 1 v (flt p n).length (fltV p n)) : Own w lo w.heap.size E 1 v (flt p n).length (flt p n).length (iC (fltI p n)) := by
  refine ⟨_, h, fun g hg => (h.lt g hg).2, fun i j hi hj => ?_⟩
  obtain rfl : j = 0 := by omega
  simp only [fltV, iC, fltI, Nat.mul_one, Nat.add_zero, List.getElem?_map]
  rw [List.getElem?_eq_getElem hi]
  simp [List.getD, List.getElem?_eq_getElem hi]
theorem row_below {w w' : World} {lo E sz n B : Nat} {v : Value} {xs : List Value} (h : w.ownsRow lo E sz v n xs) (hb : Below B w w') (hB : w.heap.size ≤ B) : w'.ownsRow lo E sz v n xs := by
  obtain ⟨hl, h1⟩ := id h
  refine ⟨hl, ?_⟩
  rcases h1 with h1 | ⟨g, cap, cur, rfl, hg, hh, r⟩
  · exact .inl h1
  · exact .inr ⟨g, cap, cur, rfl, hg, by rw [hb.block g (Nat.lt_of_lt_of_le (h.lt g rfl).2 hB)]; exact hh, r⟩
theorem row_form {w : World} {lo E sz n : Nat} {v : Value} {xs : List Value} (h : w.ownsRow lo E sz v n xs) : ∃ A cap, v = .slice A n cap := by
  rcases h.2 with ⟨h1, h2⟩ | ⟨g, cap, cur, h1, _⟩
  · exact ⟨none, 0, by rw [h1, h2]⟩
  · exact ⟨_, cap, h1⟩
/-- The texts of those places. -/
def fltT (f : Nat → ByteArray) (p : Nat → Bool) (n : Nat) : List Value := (flt p n).map fun (i : Nat) => .string (f i)
def fltS (f : Nat → ByteArray) (p : Nat → Bool) (n : Nat) (i : Nat) : ByteArray := f ((flt p n).getD i 0)
theorem own_fltS {w : World} {lo E : Nat} {v : Value} {f : Nat → ByteArray} {p : Nat → Bool} {n : Nat} (h : w.ownsRow lo E 1 v (flt p n).length (fltT f p n)) : Own w lo w.heap.size E 1 v (flt p n).length (flt p n).length (sC (fltS f p n)) := by
  refine ⟨_, h, fun g hg => (h.lt g hg).2, fun i j hi hj => ?_⟩
  obtain rfl : j = 0 := by omega
  simp only [fltT, sC, fltS, Nat.mul_one, Nat.add_zero, List.getElem?_map]
  rw [List.getElem?_eq_getElem hi]
  simp [List.getD, List.getElem?_eq_getElem hi]

end Go.Proofs.Ytkikjneamjmdlaa
