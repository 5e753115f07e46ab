/-
  Plain laws on channels: the reference's way and the program's way to say that messages are some of others. No program in sight.
-/
import Derived.Test.YtkikjneamjmdlaaPList
import Derived.Test.YtkikjneamjmdlaaCells
namespace Go.Proofs.Ytkikjneamjmdlaa
set_option linter.unusedVariables false
set_option linter.unusedSimpArgs false

/-- A message's name and number are these; its name is this. -/
def mk1 (f : Nat → ByteArray) (m : Nat → Int) (x : ByteArray) (y : Int) (i : Nat) : Bool := decide (f i = x) && decide (m i = y)
def nm (f : Nat → ByteArray) (x : ByteArray) (i : Nat) : Bool := decide (f i = x)
/-- A message is just this one. -/
def eq3 (f : Nat → ByteArray) (m : Nat → Int) (g : Nat → ByteArray) (x : ByteArray) (y : Int) (z : ByteArray) (i : Nat) : Bool := sisE (f i) (m i) (g i) x y z
theorem mk1_iff {f : Nat → ByteArray} {m : Nat → Int} {x : ByteArray} {y : Int} {i : Nat} : mk1 f m x y i = true ↔ f i = x ∧ m i = y := by simp [mk1]
theorem eq3_iff {f : Nat → ByteArray} {m : Nat → Int} {g : Nat → ByteArray} {x : ByteArray} {y : Int} {z : ByteArray} {i : Nat} : eq3 f m g x y z i = true ↔ f i = x ∧ m i = y ∧ g i = z := sisE_iff

/-- The reference: the i-th of R is one of S, and none before it in R has its name and number. -/
def wi (fS : Nat → ByteArray) (mS : Nat → Int) (gS : Nat → ByteArray) (nS : Nat) (f : Nat → ByteArray) (m : Nat → Int) (g : Nat → ByteArray) (i : Nat) : Bool :=
  decide (0 ≤ fstI (mk1 fS mS (f i) (m i)) nS) && eq3 fS mS gS (f i) (m i) (g i) (fstI (mk1 fS mS (f i) (m i)) nS).toNat && decide (fstI (mk1 f m (f i) (m i)) i < 0)
/-- The program: the i-th of R is among S, and not among those before it in R. -/
def si (fS : Nat → ByteArray) (mS : Nat → Int) (gS : Nat → ByteArray) (nS : Nat) (f : Nat → ByteArray) (m : Nat → Int) (g : Nat → ByteArray) (i : Nat) : Bool :=
  decide (0 ≤ fstI (eq3 fS mS gS (f i) (m i) (g i)) nS) && !decide (0 ≤ fstI (eq3 f m g (f i) (m i) (g i)) i)
def uniq (f : Nat → ByteArray) (m : Nat → Int) (n : Nat) : Prop := ∀ i j, i < n → j < n → f i = f j → m i = m j → i = j

theorem has_iff {p : Nat → Bool} {n : Nat} : 0 ≤ fstI p n ↔ ∃ k, k < n ∧ p k = true := by
  rcases fstI_cases p n with ⟨h1, h2⟩ | ⟨k, h1, h2, h3, h4⟩
  · rw [h1]
    refine ⟨fun h => by omega, fun ⟨k, hk, hp⟩ => ?_⟩
    rw [h2 k hk] at hp; cases hp
  · rw [h2]
    exact ⟨fun _ => ⟨k, h1, h3⟩, fun _ => by omega⟩
section
variable {fS : Nat → ByteArray} {mS : Nat → Int} {gS : Nat → ByteArray} {nS : Nat} {f : Nat → ByteArray} {m : Nat → Int} {g : Nat → ByteArray}
theorem wi_iff (hu : uniq fS mS nS) {i : Nat} : wi fS mS gS nS f m g i = true ↔ (∃ k, k < nS ∧ fS k = f i ∧ mS k = m i ∧ gS k = g i) ∧ ∀ j, j < i → ¬ (f j = f i ∧ m j = m i) := by
  simp only [wi, Bool.and_eq_true, decide_eq_true_eq]
  constructor
  · rintro ⟨⟨h1, h2⟩, h3⟩
    rw [eq3_iff] at h2
    have h4 : ¬ 0 ≤ fstI (mk1 f m (f i) (m i)) i := by omega
    rw [has_iff] at h4
    refine ⟨?_, fun j hj hk => h4 ⟨j, hj, mk1_iff.2 hk⟩⟩
    rcases fstI_cases (mk1 fS mS (f i) (m i)) nS with ⟨e, _⟩ | ⟨k, hk, e, _, _⟩
    · omega
    · rw [e, Int.toNat_natCast] at h2
      exact ⟨k, hk, h2⟩
  · rintro ⟨⟨k, hk, h1, h2, h3⟩, h4⟩
    rcases fstI_cases (mk1 fS mS (f i) (m i)) nS with ⟨_, e⟩ | ⟨k', hk', e, he, _⟩
    · have := e k hk
      rw [mk1_iff.2 ⟨h1, h2⟩] at this; cases this
    · obtain ⟨a1, a2⟩ := mk1_iff.1 he
      obtain rfl := hu k k' hk hk' (h1.trans a1.symm) (h2.trans a2.symm)
      rw [e, Int.toNat_natCast]
      refine ⟨⟨by omega, eq3_iff.2 ⟨h1, h2, h3⟩⟩, ?_⟩
      have : ¬ 0 ≤ fstI (mk1 f m (f i) (m i)) i := by
        rw [has_iff]
        rintro ⟨j, hj, hp⟩
        exact h4 j hj (mk1_iff.1 hp)
      omega
theorem si_iff {i : Nat} : si fS mS gS nS f m g i = true ↔ (∃ k, k < nS ∧ fS k = f i ∧ mS k = m i ∧ gS k = g i) ∧ ∀ j, j < i → ¬ (f j = f i ∧ m j = m i ∧ g j = g i) := by
  simp only [si, Bool.and_eq_true, decide_eq_true_eq, Bool.not_eq_true', decide_eq_false_iff_not, has_iff]
  constructor
  · rintro ⟨⟨k, hk, hp⟩, h2⟩
    exact ⟨⟨k, hk, eq3_iff.1 hp⟩, fun j hj hk => h2 ⟨j, hj, eq3_iff.2 hk⟩⟩
  · rintro ⟨⟨k, hk, hp⟩, h2⟩
    refine ⟨⟨k, hk, eq3_iff.2 hp⟩, ?_⟩
    rintro ⟨j, hj, hp⟩
    exact h2 j hj (eq3_iff.1 hp)
/-- Where the keys of S are unique the two are one. -/
theorem some_eq (hu : uniq fS mS nS) (n : Nat) : allB (si fS mS gS nS f m g) n = allB (wi fS mS gS nS f m g) n := by
  rw [Bool.eq_iff_iff, allB_iff, allB_iff]
  constructor
  · intro h i hi
    rw [wi_iff hu]
    obtain ⟨h1, h2⟩ := si_iff.1 (h i hi)
    refine ⟨h1, fun j hj hk => ?_⟩
    obtain ⟨⟨k, hk1, hk2, hk3, hk4⟩, _⟩ := si_iff.1 (h j (by omega))
    obtain ⟨k', a1, a2, a3, a4⟩ := h1
    obtain rfl := hu k k' hk1 a1 (by rw [hk2, a2, hk.1]) (by rw [hk3, a3, hk.2])
    exact h2 j hj ⟨hk.1, hk.2, by rw [← hk4, a4]⟩
  · intro h i hi
    rw [si_iff]
    obtain ⟨h1, h2⟩ := (wi_iff hu).1 (h i hi)
    exact ⟨h1, fun j hj hk => h2 j hj ⟨hk.1, hk.2.1⟩⟩
theorem within_uniq (hu : uniq fS mS nS) {n : Nat} (h : allB (wi fS mS gS nS f m g) n = true) : uniq f m n := by
  rw [allB_iff] at h
  intro i j hi hj h1 h2
  rcases Nat.lt_trichotomy i j with h3 | h3 | h3
  · exact absurd ⟨h1, h2⟩ (((wi_iff hu).1 (h j hj)).2 i h3)
  · exact h3
  · exact absurd ⟨h1.symm, h2.symm⟩ (((wi_iff hu).1 (h i hi)).2 j h3)
end
/-- The i-th that was sent is valid, and has the next number of its name. -/
def sent1 (v : ByteArray → Int → ByteArray → Bool) (f : Nat → ByteArray) (m : Nat → Int) (g : Nat → ByteArray) (i : Nat) : Bool := v (f i) (m i) (g i) && decide (m i = (cntF (nm f (f i)) i : Nat) + 1)
theorem sent_uniq {v : ByteArray → Int → ByteArray → Bool} {f : Nat → ByteArray} {m : Nat → Int} {g : Nat → ByteArray} {n : Nat} (h : allB (sent1 v f m g) n = true) : uniq f m n := by
  rw [allB_iff] at h
  have key : ∀ i j, i < j → j < n → f i = f j → m i = m j → False := by
    intro i j hij hj h1 h2
    have a1 := h i (by omega)
    have a2 := h j hj
    simp only [sent1, Bool.and_eq_true, decide_eq_true_eq] at a1 a2
    have h3 : cntF (nm f (f j)) (i + 1) = cntF (nm f (f j)) i + 1 := by simp [cntF, nm, h1]
    have h4 := cntF_mono (nm f (f j)) (show i + 1 ≤ j by omega)
    have a3 := a1.2
    have a4 := a2.2
    rw [h1] at a3
    omega
  intro i j hi hj h1 h2
  rcases Nat.lt_trichotomy i j with h3 | h3 | h3
  · exact (key i j h3 hj h1 h2).elim
  · exact h3
  · exact (key j i h3 hi h1.symm h2.symm).elim

end Go.Proofs.Ytkikjneamjmdlaa
