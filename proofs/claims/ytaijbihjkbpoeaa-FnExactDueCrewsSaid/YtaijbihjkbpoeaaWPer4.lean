/-
  Walks: how long a crew has worked, and rested.
-/
import Derived.Test.YtaijbihjkbpoeaaWPerZ
namespace Go.Proofs.Ytaijbihjkbpoeaa
set_option linter.unusedVariables false
set_option linter.unusedSimpArgs false
open Go.RowKit

/-- The minutes worked before a minute, in the first k periods. -/
def wkF (c : Nat → ByteArray) (a b : Nat → Int) (s : ByteArray) (m : Int) : Nat → Int
  | 0 => 0
  | k + 1 => if c k = s ∧ a k < m then wkF c a b s m k + (min (b k) m - a k) else wkF c a b s m k
theorem wk_yes {c : Nat → ByteArray} {a b : Nat → Int} {s : ByteArray} {m : Int} {k : Nat} (h : c k = s) (h' : a k < m) : wkF c a b s m (k + 1) = wkF c a b s m k + (min (b k) m - a k) := by rw [wkF, if_pos ⟨h, h'⟩]
theorem wk_no {c : Nat → ByteArray} {a b : Nat → Int} {s : ByteArray} {m : Int} {k : Nat} (h : ¬ (c k = s ∧ a k < m)) : wkF c a b s m (k + 1) = wkF c a b s m k := by rw [wkF, if_neg h]
theorem wk_bd {c : Nat → ByteArray} {a b : Nat → Int} {n : Nat} {s : ByteArray} {m : Int} (hp : pdB c a b n = true) (hm : 0 ≤ m) (hm' : m ≤ 9999) : ∀ k, k ≤ n → 0 ≤ wkF c a b s m k ∧ wkF c a b s m k ≤ 9999 * k
  | 0, _ => by simp [wkF]
  | k + 1, hk => by
    have ih := wk_bd (s := s) hp hm hm' k (by omega)
    have h0 := (perB_iff.1 ((pd_facts hp).2 k (by omega)).1).2
    by_cases h : c k = s ∧ a k < m
    · rw [wk_yes h.1 h.2]; omega
    · rw [wk_no h]; omega
def wkN (c : Nat → ByteArray) (a b : Nat → Int) (n : Nat) (s : ByteArray) (m : Int) : Int := if askP c a b n s m = true then wkF c a b s m n else 0
theorem ask_facts {c : Nat → ByteArray} {a b : Nat → Int} {n : Nat} {s : ByteArray} {m : Int} (h : askP c a b n s m = true) : pdB c a b n = true ∧ 0 ≤ m ∧ m ≤ 9999 := by
  simp only [askP, Bool.and_eq_true, inB_iff] at h
  exact ⟨h.1.1, h.2⟩


end Go.Proofs.Ytaijbihjkbpoeaa
