/-
  Plain laws on periods: who works, rests, is due, is to be relieved. No program in sight.
-/
import Derived.Test.YtaijbihjkbpoeaaPPer2
namespace Go.Proofs.Ytaijbihjkbpoeaa
set_option linter.unusedVariables false
set_option linter.unusedSimpArgs false

section
variable (c : Nat → ByteArray) (a b : Nat → Int) (s : ByteArray) (m : Int)
/-- The crew works at the minute in this period. -/
def atI (i : Nat) : Bool := decide (c i = s) && inB m (a i) (b i - 1)
def rsF : Nat → Int
  | 0 => -1
  | k + 1 => if c k = s ∧ b k ≤ m then max (rsF k) (b k) else rsF k
def dueB (n : Nat) (q : Int) : Bool := decide (0 ≤ fstI (atI c a b s m) n) && decide (q ≤ m - stF c a b (fstI (atI c a b s m) n).toNat)
/-- The start of the last spell, as the program finds it. -/
def nrF : Nat → Int × Bool
  | 0 => (0, false)
  | k + 1 => if c k = s ∧ (befI c k < 0 ∨ b (befI c k).toNat < a k) then (a k, true) else nrF k
def nrS (k : Nat) : Int := (nrF c a b s k).1
def nrB (k : Nat) : Bool := (nrF c a b s k).2
end
section
variable {c : Nat → ByteArray} {a b : Nat → Int} {s : ByteArray} {m : Int} {n : Nat}
theorem rs_yes {k : Nat} (h : c k = s) (h' : b k ≤ m) : rsF c b s m (k + 1) = max (rsF c b s m k) (b k) := by rw [rsF, if_pos ⟨h, h'⟩]
theorem rs_no {k : Nat} (h : ¬ (c k = s ∧ b k ≤ m)) : rsF c b s m (k + 1) = rsF c b s m k := by rw [rsF, if_neg h]
theorem rs_bd : ∀ k, -1 ≤ rsF c b s m k ∧ (rsF c b s m k = -1 ∨ rsF c b s m k ≤ m)
  | 0 => by simp [rsF]
  | k + 1 => by
    have ih := rs_bd k
    by_cases h : c k = s ∧ b k ≤ m
    · rw [rs_yes h.1 h.2]; omega
    · rw [rs_no h]; exact ih
theorem nr_yes {k : Nat} (h : c k = s) (h' : befI c k < 0 ∨ b (befI c k).toNat < a k) : nrS c a b s (k + 1) = a k ∧ nrB c a b s (k + 1) = true := by
  unfold nrS nrB
  rw [nrF, if_pos ⟨h, h'⟩]
  exact ⟨rfl, rfl⟩
theorem nr_no {k : Nat} (h : ¬ (c k = s ∧ (befI c k < 0 ∨ b (befI c k).toNat < a k))) : nrS c a b s (k + 1) = nrS c a b s k ∧ nrB c a b s (k + 1) = nrB c a b s k := by
  unfold nrS nrB
  rw [nrF, if_neg h]
  exact ⟨rfl, rfl⟩
theorem nr_eq (hp : pdB c a b n = true) : ∀ k, k ≤ n → (lstI (crewI c s) k < 0 → nrS c a b s k = 0 ∧ nrB c a b s k = false) ∧ (0 ≤ lstI (crewI c s) k → nrS c a b s k = stF c a b (lstI (crewI c s) k).toNat ∧ nrB c a b s k = true)
  | 0, _ => ⟨fun _ => ⟨rfl, rfl⟩, fun h => by simp [lstI] at h⟩
  | k + 1, hk => by
    have ih := nr_eq hp k (by omega)
    by_cases hc : c k = s
    · have hl : lstI (crewI c s) (k + 1) = k := by rw [lstI, if_pos (by simp [crewI, hc])]
      rw [hl]
      refine ⟨fun h => by omega, fun _ => ?_⟩
      rw [Int.toNat_natCast]
      by_cases hb : befI c k < 0
      · have := nr_yes (c := c) (a := a) (b := b) (s := s) (k := k) hc (.inl hb)
        rw [st_none hb]; exact this
      · obtain ⟨j, hj⟩ : ∃ j : Nat, befI c k = j := ⟨(befI c k).toNat, by omega⟩
        have hle := bef_le hp (by omega) hj
        by_cases he : b j = a k
        · have h1 := nr_no (c := c) (a := a) (b := b) (s := s) (k := k) (by rw [hj, Int.toNat_natCast]; intro h; rcases h.2 with h2 | h2 <;> omega)
          rw [h1.1, h1.2, st_join hj he]
          have h2 : lstI (crewI c s) k = j := by rw [← hc]; exact hj
          have h3 := ih.2 (by omega)
          rw [h2, Int.toNat_natCast] at h3
          exact h3
        · have h1 := nr_yes (c := c) (a := a) (b := b) (s := s) (k := k) hc (.inr (by rw [hj, Int.toNat_natCast]; omega))
          rw [st_gap hp (by omega) hj he]; exact h1
    · have hl : lstI (crewI c s) (k + 1) = lstI (crewI c s) k := by rw [lstI, if_neg (by simp [crewI, hc])]
      have h1 := nr_no (c := c) (a := a) (b := b) (s := s) (k := k) (fun h => hc h.1)
      rw [hl, h1.1, h1.2]
      exact ih
end

end Go.Proofs.Ytaijbihjkbpoeaa
