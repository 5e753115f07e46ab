/-
  Plain words: the open cells on a way or next to it, put into a list of places one after another. No program in sight.
-/
import Derived.Test.YtpckhpkbdanjoaaDoorPPutI
import Derived.Test.YtpckhpkbdanjoaaDoorPFlr
namespace Go.Proofs.YtpckhpkbdanjoaaDoor
set_option linter.unusedVariables false
set_option linter.unusedSimpArgs false

/-- One row of the square around a cell: the first b of its three cells. -/
def nrK (F : Nat → ByteArray) (n : Nat) (P : Nat → Bool) (x y : Int) : Nat → Nat → Bool
  | 0 => P
  | b + 1 => if opB F n x (y + ((b : Int) - 1)) = true then orP (nrK F n P x y b) (ixF F (x, y + ((b : Int) - 1))) else nrK F n P x y b
/-- The first a rows of the square. -/
def nrR (F : Nat → ByteArray) (n : Nat) (P : Nat → Bool) (x y : Int) : Nat → Nat → Bool
  | 0 => P
  | a + 1 => nrK F n (nrR F n P x y a) (x + ((a : Int) - 1)) y 3
/-- The first t cells of the way. -/
def nrF (F : Nat → ByteArray) (n : Nat) (p q : Nat → Int) : Nat → Nat → Bool
  | 0 => fun _ => false
  | t + 1 => nrR F n (nrF F n p q t) (p t) (q t) 3
theorem nrK_iff {F : Nat → ByteArray} {n : Nat} {P : Nat → Bool} {x y : Int} {i : Nat} : ∀ {b : Nat}, nrK F n P x y b i = true ↔ P i = true ∨ ∃ k : Nat, k < b ∧ opB F n x (y + ((k : Int) - 1)) = true ∧ i = ixF F (x, y + ((k : Int) - 1))
  | 0 => by simp [nrK]
  | b + 1 => by
    rw [nrK]
    have ih := nrK_iff (F := F) (n := n) (P := P) (x := x) (y := y) (i := i) (b := b)
    split
    · rename_i h
      rw [orP, Bool.or_eq_true, ih, decide_eq_true_eq]
      constructor
      · rintro ((h1 | ⟨k, h1, h2⟩) | h1)
        · exact .inl h1
        · exact .inr ⟨k, by omega, h2⟩
        · exact .inr ⟨b, by omega, h, h1⟩
      · rintro (h1 | ⟨k, h1, h2, h3⟩)
        · exact .inl (.inl h1)
        · by_cases e : k = b
          · subst e; exact .inr h3
          · exact .inl (.inr ⟨k, by omega, h2, h3⟩)
    · rename_i h
      rw [ih]
      constructor
      · rintro (h1 | ⟨k, h1, h2⟩)
        · exact .inl h1
        · exact .inr ⟨k, by omega, h2⟩
      · rintro (h1 | ⟨k, h1, h2, h3⟩)
        · exact .inl h1
        · by_cases e : k = b
          · subst e; exact absurd h2 h
          · exact .inr ⟨k, by omega, h2, h3⟩
theorem nrR_iff {F : Nat → ByteArray} {n : Nat} {P : Nat → Bool} {x y : Int} {i : Nat} : ∀ {a : Nat}, nrR F n P x y a i = true ↔ P i = true ∨ ∃ j : Nat, j < a ∧ ∃ k : Nat, k < 3 ∧ opB F n (x + ((j : Int) - 1)) (y + ((k : Int) - 1)) = true ∧ i = ixF F (x + ((j : Int) - 1), y + ((k : Int) - 1))
  | 0 => by simp [nrR]
  | a + 1 => by
    rw [nrR, nrK_iff, nrR_iff]
    constructor
    · rintro ((h1 | ⟨j, h1, h2⟩) | h1)
      · exact .inl h1
      · exact .inr ⟨j, by omega, h2⟩
      · exact .inr ⟨a, by omega, h1⟩
    · rintro (h1 | ⟨j, h1, h2⟩)
      · exact .inl (.inl h1)
      · by_cases e : j = a
        · subst e; exact .inr h2
        · exact .inl (.inr ⟨j, by omega, h2⟩)
theorem nrF_iff {F : Nat → ByteArray} {n : Nat} {p q : Nat → Int} {i : Nat} : ∀ {t : Nat}, nrF F n p q t i = true ↔ ∃ s, s < t ∧ ∃ j : Nat, j < 3 ∧ ∃ k : Nat, k < 3 ∧ opB F n (p s + ((j : Int) - 1)) (q s + ((k : Int) - 1)) = true ∧ i = ixF F (p s + ((j : Int) - 1), q s + ((k : Int) - 1))
  | 0 => by simp [nrF]
  | t + 1 => by
    rw [nrF, nrR_iff, nrF_iff]
    constructor
    · rintro (⟨s, h1, h2⟩ | h1)
      · exact ⟨s, by omega, h2⟩
      · exact ⟨t, by omega, h1⟩
    · rintro ⟨s, h1, h2⟩
      by_cases e : s = t
      · subst e; exact .inr h2
      · exact .inl ⟨s, by omega, h2⟩

end Go.Proofs.YtpckhpkbdanjoaaDoor
