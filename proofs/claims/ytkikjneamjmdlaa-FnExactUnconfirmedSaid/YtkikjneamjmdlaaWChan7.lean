/-
  Walks: the next number in order.
-/
import Derived.Test.YtkikjneamjmdlaaWChan6
namespace Go.Proofs.Ytkikjneamjmdlaa
set_option linter.unusedVariables false
set_option linter.unusedSimpArgs false
open Go.RowKit

/-- The message of the name with number k + 1 was received. -/
def gotI (R : Ms) (x : ByteArray) (k : Nat) : Bool := decide (0 ≤ fstI (mk1 R.f R.m x ((k : Int) + 1)) R.n)
def nxK (R : Ms) (x : ByteArray) : Nat := lead (gotI R x) 1000
theorem chan_num {S R H : Ms} (h : chanB S R H = true) : ∀ i, i < R.n → 1 ≤ R.m i ∧ R.m i ≤ 999 := by
  intro i hi
  simp only [chanB, Bool.and_eq_true, allB_iff] at h
  obtain ⟨⟨⟨h1, _⟩, h2⟩, _⟩ := h
  have h3 := h2 i hi
  simp only [wi, Bool.and_eq_true, decide_eq_true_eq] at h3
  obtain ⟨k, hk, hm⟩ := has_iff.1 h3.1.1
  have h4 := h1 k hk
  have h5 := (mk1_iff.1 hm).2
  simp only [sent1, msgB, Bool.and_eq_true, inB_iff] at h4
  rw [h5] at h4
  omega
theorem got_small {S R H : Ms} {x : ByteArray} {k : Nat} (h : chanB S R H = true) (hg : gotI R x k = true) : k < 999 := by
  obtain ⟨i, hi, hm⟩ := has_iff.1 (of_decide_eq_true hg)
  have h1 := (mk1_iff.1 hm).2
  have := chan_num h i hi
  omega
theorem nxK_at {S R H : Ms} {x : ByteArray} {k : Nat} (h : chanB S R H = true) (hk : k ≤ 999) (hj : ∀ j, j < k → gotI R x j = true) (he : gotI R x k = false) : nxK R x = k :=
  lead_eq (by omega) hj (.inr he)
def nxN (S R H : Ms) (x : ByteArray) : Int := if nmOk S R H x = true then (nxK R x : Nat) + 1 else 0

end Go.Proofs.Ytkikjneamjmdlaa
