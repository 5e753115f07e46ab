/-
  Plain laws on lists given by an index: the first that is so, how many are so. No program in sight.
-/
import Derived.Test.YtkikjneamjmdlaaMem
import Derived.Test.YtkikjneamjmdlaaPCyl
namespace Go.Proofs.Ytkikjneamjmdlaa
set_option linter.unusedVariables false
set_option linter.unusedSimpArgs false

/-- The first of n that is so, or -1. -/
def fstI (p : Nat → Bool) (n : Nat) : Int := if lead (fun i => !p i) n < n then (lead (fun i => !p i) n : Nat) else -1
theorem fstI_at {p : Nat → Bool} {n k : Nat} (hk : k < n) (hj : ∀ j, j < k → p j = false) (h : p k = true) : fstI p n = k := by
  have := lead_eq (g := fun i => !p i) (N := n) (k := k) (by omega) (fun j hj' => by simp [hj j hj']) (.inr (by simp [h]))
  rw [fstI, this, if_pos hk]
theorem fstI_none {p : Nat → Bool} {n : Nat} (hj : ∀ j, j < n → p j = false) : fstI p n = -1 := by
  have := lead_eq (g := fun i => !p i) (N := n) (k := n) (by omega) (fun j hj' => by simp [hj j hj']) (.inl rfl)
  rw [fstI, this, if_neg (by omega)]
theorem fstI_neg {p : Nat → Bool} {n : Nat} : decide (0 ≤ fstI p n) = !allB (fun i => !p i) n := by
  obtain ⟨h1, h2, h3⟩ := lead_spec (fun i => !p i) n
  unfold fstI
  split
  · rename_i h
    have h4 : (fun i => !p i) (lead (fun i => !p i) n) = false := by
      rcases h3 with h3 | h3
      · omega
      · exact h3
    rw [allB_false h h4]
    simp
  · rename_i h
    rw [allB_iff.2 fun i hi => h2 i (by omega)]
    simp

theorem fstI_bd (p : Nat → Bool) (n : Nat) : -1 ≤ fstI p n ∧ fstI p n < n ∨ n = 0 ∧ fstI p n = -1 := by
  unfold fstI
  split <;> omega
/-- Either none is so, or the first is known. -/
theorem fstI_cases (p : Nat → Bool) (n : Nat) : (fstI p n = -1 ∧ ∀ j, j < n → p j = false) ∨ ∃ k, k < n ∧ fstI p n = k ∧ p k = true ∧ ∀ j, j < k → p j = false := by
  obtain ⟨h1, h2, h3⟩ := lead_spec (fun i => !p i) n
  unfold fstI
  split
  · rename_i h
    right
    refine ⟨_, h, rfl, ?_, fun j hj => by simpa using h2 j hj⟩
    rcases h3 with h3 | h3
    · omega
    · simpa using h3
  · rename_i h
    left
    exact ⟨rfl, fun j hj => by simpa using h2 j (by omega)⟩
def cntF (p : Nat → Bool) : Nat → Nat
  | 0 => 0
  | n + 1 => cntF p n + if p n = true then 1 else 0
theorem cntF_le (p : Nat → Bool) (n : Nat) : cntF p n ≤ n := by
  induction n with
  | zero => simp [cntF]
  | succ n ih => unfold cntF; split <;> omega
theorem cntF_mono (p : Nat → Bool) {m n : Nat} (h : m ≤ n) : cntF p m ≤ cntF p n := by
  induction n with
  | zero => have : m = 0 := by omega
            subst this; exact Nat.le_refl _
  | succ n ih =>
    rcases Nat.lt_or_ge m (n + 1) with h1 | h1
    · have h2 := ih (by omega)
      have h3 : cntF p (n + 1) = cntF p n + if p n = true then 1 else 0 := rfl
      omega
    · have : m = n + 1 := by omega
      subst this; exact Nat.le_refl _

end Go.Proofs.Ytkikjneamjmdlaa
