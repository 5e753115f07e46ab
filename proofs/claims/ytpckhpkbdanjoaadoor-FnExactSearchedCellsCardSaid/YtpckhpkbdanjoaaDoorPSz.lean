/-
  How much of a budget a list of texts takes.
-/
import Derived.Test.YtpckhpkbdanjoaaDoorCells
namespace Go.Proofs.YtpckhpkbdanjoaaDoor
set_option linter.unusedVariables false
set_option linter.unusedSimpArgs false
open Go.RowKit

def sz1F (left : Int) (a : Nat) : Int := if left < a then -1 else left - a
def szP (left : Int) (a : Nat → Nat) : Nat → Int
  | 0 => left
  | k + 1 => if szP left a k < 0 then -1 else sz1F (szP left a k) (a k)
def szPF (left : Int) (c : Nat → ByteArray) (n : Nat) : Int := if left < n then -1 else szP (left - n) (fun i => (c i).size) n
theorem szP_le {left : Int} {a : Nat → Nat} (h : 0 ≤ left) : ∀ k, -1 ≤ szP left a k ∧ szP left a k ≤ left
  | 0 => by simp only [szP]; omega
  | k + 1 => by
    have := szP_le (a := a) h k
    simp only [szP, sz1F]
    split
    · omega
    · split <;> omega
theorem szP_neg {left : Int} {a : Nat → Nat} {k n : Nat} (h : szP left a k < 0) (hk : k < n) : szP left a n = -1 := by
  induction n with
  | zero => omega
  | succ n ih =>
    simp only [szP]
    rcases Nat.lt_or_ge k n with h1 | h1
    · rw [ih h1]; rfl
    · obtain rfl : k = n := by omega
      rw [if_pos h]
theorem szPF_n {left : Int} {c : Nat → ByteArray} {n : Nat} (h : 0 ≤ szPF left c n) : (n : Int) ≤ left := by
  unfold szPF at h
  split at h <;> omega

end Go.Proofs.YtpckhpkbdanjoaaDoor
