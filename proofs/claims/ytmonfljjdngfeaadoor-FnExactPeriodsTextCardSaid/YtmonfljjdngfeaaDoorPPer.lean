/-
  Plain laws on periods: which lists are periods, the reference's way and the program's. No program in sight.
-/
import Derived.Test.YtmonfljjdngfeaaDoorPStr
import Derived.Test.YtmonfljjdngfeaaDoorWName
namespace Go.Proofs.YtmonfljjdngfeaaDoor
set_option linter.unusedVariables false
set_option linter.unusedSimpArgs false

def perB (s : ByteArray) (x y : Int) : Bool := nameB s && inB x 0 9999 && inB y 0 9999 && inB (y - x) 1 720
def cmpI (x y : Int) : Int := if x < y then -1 else if y < x then 1 else 0
def cmpP (s : ByteArray) (x : Int) (s' : ByteArray) (x' : Int) : Int := if cmpI x x' ≠ 0 then cmpI x x' else cmpS s s'
def befB (s : ByteArray) (x : Int) (s' : ByteArray) (x' : Int) : Bool := decide (x < x') || (decide (x = x') && ltS s s')
theorem cmpP_neg {s s' : ByteArray} {x x' : Int} : decide (0 ≤ cmpP s x s' x') = !befB s x s' x' := by
  unfold cmpP cmpI befB
  rcases Int.lt_trichotomy x x' with h | h | h
  · simp [h]
  · subst h
    unfold cmpS
    cases ltS s s' with
    | true => simp
    | false => simp; split <;> omega
  · have h1 : ¬ x < x' := by omega
    have h2 : ¬ x = x' := by omega
    simp [h1, h2, h]
/-- The last of n that is so, or -1. -/
def lstI (p : Nat → Bool) : Nat → Int
  | 0 => -1
  | n + 1 => if p n = true then (n : Int) else lstI p n
theorem lstI_cases (p : Nat → Bool) (n : Nat) : (lstI p n = -1 ∧ ∀ j, j < n → p j = false) ∨ ∃ k, k < n ∧ lstI p n = k ∧ p k = true ∧ ∀ j, k < j → j < n → p j = false := by
  induction n with
  | zero => exact .inl ⟨rfl, fun j hj => by omega⟩
  | succ n ih =>
    unfold lstI
    split
    · rename_i h
      exact .inr ⟨n, by omega, rfl, h, fun j h1 h2 => by omega⟩
    · rename_i h
      have h' : p n = false := by simpa using h
      rcases ih with ⟨h1, h2⟩ | ⟨k, h1, h2, h3, h4⟩
      · refine .inl ⟨h1, fun j hj => ?_⟩
        rcases Nat.lt_or_ge j n with h5 | h5
        · exact h2 j h5
        · obtain rfl : j = n := by omega
          exact h'
      · refine .inr ⟨k, by omega, h2, h3, fun j h5 h6 => ?_⟩
        rcases Nat.lt_or_ge j n with h7 | h7
        · exact h4 j h5 h7
        · obtain rfl : j = n := by omega
          exact h'
theorem lstI_at {p : Nat → Bool} {n k : Nat} (hk : k < n) (h : p k = true) (hj : ∀ j, k < j → j < n → p j = false) : lstI p n = k := by
  rcases lstI_cases p n with ⟨_, h2⟩ | ⟨k', h1, h2, h3, h4⟩
  · rw [h2 k hk] at h; cases h
  · rcases Nat.lt_trichotomy k k' with h5 | h5 | h5
    · rw [hj k' h5 h1] at h3; cases h3
    · rw [h2, h5]
    · rw [h4 k h5 hk] at h; cases h
theorem lstI_none {p : Nat → Bool} {n : Nat} (hj : ∀ j, j < n → p j = false) : lstI p n = -1 := by
  rcases lstI_cases p n with ⟨h1, _⟩ | ⟨k, h1, _, h3, _⟩
  · exact h1
  · rw [hj k h1] at h3; cases h3
theorem lstI_bd (p : Nat → Bool) (n : Nat) : -1 ≤ lstI p n ∧ lstI p n < n := by
  rcases lstI_cases p n with ⟨h1, _⟩ | ⟨k, h1, h2, _, _⟩ <;> omega

section
variable (c : Nat → ByteArray) (a b : Nat → Int)
def crewI (s : ByteArray) (j : Nat) : Bool := decide (c j = s)
def ordI (i : Nat) : Bool := decide (i = 0) || befB (c (i - 1)) (a (i - 1)) (c i) (a i)
def clash (i j : Nat) : Bool := decide (c j = c i) && decide (a i < b j)
/-- The reference's test at i; the program's. -/
def prS (i : Nat) : Bool := perB (c i) (a i) (b i) && ordI c a i && allB (fun j => !clash c a b i j) i
def befI (i : Nat) : Int := lstI (crewI c (c i)) i
def prP (i : Nat) : Bool := perB (c i) (a i) (b i) && ordI c a i && !(decide (0 ≤ befI c i) && decide (a i < b (befI c i).toNat))
def pdB (n : Nat) : Bool := allB (prS c a b) n && decide ((n : Int) ≤ 12)
end
section
variable {c : Nat → ByteArray} {a b : Nat → Int}
theorem perB_iff {s : ByteArray} {x y : Int} : perB s x y = true ↔ nameB s = true ∧ (0 ≤ x ∧ x ≤ 9999) ∧ (0 ≤ y ∧ y ≤ 9999) ∧ 1 ≤ y - x ∧ y - x ≤ 720 := by
  simp only [perB, Bool.and_eq_true, inB_iff, and_assoc]
theorem prS_iff {i : Nat} : prS c a b i = true ↔ perB (c i) (a i) (b i) = true ∧ ordI c a i = true ∧ ∀ j, j < i → c j = c i → b j ≤ a i := by
  simp only [prS, Bool.and_eq_true, allB_iff, clash, Bool.not_eq_true', Bool.and_eq_false_iff, decide_eq_false_iff_not, and_assoc]
  refine and_congr_right fun _ => and_congr_right fun _ => forall_congr' fun j => forall_congr' fun _ => ⟨fun h e => ?_, fun h => ?_⟩
  · rcases h with h | h
    · exact absurd e h
    · omega
  · by_cases e : c j = c i
    · right; have := h e; omega
    · exact .inl e
theorem prP_eq {n : Nat} (h : ∀ i, i < n → prS c a b i = true) : prP c a b n = prS c a b n := by
  unfold prP prS
  congr 1
  unfold befI
  rcases lstI_cases (crewI c (c n)) n with ⟨h1, h2⟩ | ⟨k, h1, h2, h3, h4⟩
  · rw [h1]
    have : allB (fun j => !clash c a b n j) n = true := allB_iff.2 fun j hj => by
      have := h2 j hj
      simp only [crewI, decide_eq_false_iff_not] at this
      simp [clash, this]
    rw [this]
    rfl
  · rw [h2]
    have hk : c k = c n := of_decide_eq_true h3
    have h0 : decide ((0 : Int) ≤ (k : Int)) = true := by simp
    rw [h0, Bool.true_and, Int.toNat_natCast]
    cases hd : decide (a n < b k) with
    | true =>
      rw [allB_false h1 (by simp [clash, hk, hd])]
      rfl
    | false =>
      have hd' := of_decide_eq_false hd
      rw [allB_iff.2]
      · rfl
      · intro j hj
        simp only [clash, Bool.not_eq_true', Bool.and_eq_false_iff, decide_eq_false_iff_not]
        by_cases e : c j = c n
        · right
          rcases Nat.lt_trichotomy j k with h5 | h5 | h5
          · have h6 := (prS_iff.1 (h k h1)).2.2 j h5 (e.trans hk.symm)
            have h7 := (perB_iff.1 (prS_iff.1 (h k h1)).1).2.2.2
            omega
          · subst h5; omega
          · have := h4 j h5 hj
            simp [crewI, e] at this
        · exact .inl e
theorem prs_eq (n : Nat) : allB (prP c a b) n = allB (prS c a b) n := by
  induction n with
  | zero => rfl
  | succ n ih =>
    simp only [allB, ih]
    cases h : allB (prS c a b) n with
    | false => rfl
    | true => rw [prP_eq (allB_iff.1 h)]
/-- What periods keep. -/
theorem pd_facts {n : Nat} (h : pdB c a b n = true) : n ≤ 12 ∧ ∀ i, i < n → perB (c i) (a i) (b i) = true ∧ ordI c a i = true ∧ ∀ j, j < i → c j = c i → b j ≤ a i := by
  simp only [pdB, Bool.and_eq_true, allB_iff, decide_eq_true_eq] at h
  exact ⟨by omega, fun i hi => prS_iff.1 (h.1 i hi)⟩
end

end Go.Proofs.YtmonfljjdngfeaaDoor
