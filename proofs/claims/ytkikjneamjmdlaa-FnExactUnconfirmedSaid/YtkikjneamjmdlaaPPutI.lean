/-
  Plain words: a number is put into the list of the places that pass a test. No program in sight.
-/
import Derived.Test.YtkikjneamjmdlaaPFlt
namespace Go.Proofs.Ytkikjneamjmdlaa
set_option linter.unusedVariables false
set_option linter.unusedSimpArgs false

theorem flt_congr {p q : Nat → Bool} : ∀ {n : Nat}, (∀ i, i < n → p i = q i) → flt p n = flt q n
  | 0, _ => rfl
  | n + 1, h => by rw [flt, flt, flt_congr (n := n) fun i hi => h i (by omega), h n (by omega)]
theorem flt_mem {p : Nat → Bool} : ∀ {n y : Nat}, y ∈ flt p n → y < n ∧ p y = true
  | 0, _, h => by simp [flt] at h
  | n + 1, y, h => by
    rw [flt, List.mem_append] at h
    rcases h with h | h
    · have := flt_mem h
      exact ⟨by omega, this.2⟩
    · by_cases hp : p n = true
      · rw [if_pos hp] at h
        simp at h
        subst h
        exact ⟨by omega, hp⟩
      · rw [if_neg hp] at h
        simp at h
/-- What comes behind the places below x. -/
def fltR (p : Nat → Bool) (x : Nat) : Nat → List Nat
  | 0 => []
  | n + 1 => if n < x then [] else fltR p x n ++ if p n = true then [n] else []
theorem flt_split (p : Nat → Bool) (x : Nat) : ∀ n, x ≤ n → flt p n = flt p x ++ fltR p x n
  | 0, h => by
    obtain rfl : x = 0 := by omega
    rfl
  | n + 1, h => by
    rcases Nat.lt_or_ge n x with h1 | h1
    · obtain rfl : x = n + 1 := by omega
      rw [fltR, if_pos h1]
      simp
    · rw [fltR, if_neg (by omega), flt, flt_split p x n h1, List.append_assoc]
theorem fltR_ge {p : Nat → Bool} {x : Nat} : ∀ {n y : Nat}, y ∈ fltR p x n → x ≤ y
  | 0, _, h => by simp [fltR] at h
  | n + 1, y, h => by
    rw [fltR] at h
    by_cases h1 : n < x
    · rw [if_pos h1] at h
      simp at h
    · rw [if_neg h1, List.mem_append] at h
      rcases h with h | h
      · exact fltR_ge h
      · by_cases hp : p n = true
        · rw [if_pos hp] at h
          simp at h
          omega
        · rw [if_neg hp] at h
          simp at h
/-- One place more. -/
def orP (p : Nat → Bool) (x : Nat) (i : Nat) : Bool := p i || decide (i = x)
theorem orP_same {p : Nat → Bool} {x : Nat} (h : p x = true) (n : Nat) : flt (orP p x) n = flt p n := flt_congr fun i _ => by
  by_cases e : i = x
  · subst e; simp [orP, h]
  · simp [orP, e]
theorem fltR_or {p : Nat → Bool} {x : Nat} (h : p x = false) : ∀ n, x < n → fltR (orP p x) x n = x :: fltR p x n
  | 0, hn => absurd hn (Nat.not_lt_zero _)
  | n + 1, hn => by
    rw [fltR, fltR, if_neg (show ¬ n < x by omega), if_neg (show ¬ n < x by omega)]
    rcases Nat.lt_succ_iff_lt_or_eq.1 hn with h1 | rfl
    · rw [fltR_or h n h1]
      have hne : ¬ n = x := by omega
      have e : orP p x n = p n := by simp [orP, hne]
      rw [e]
      rfl
    · have e : orP p x x = true := by simp [orP]
      rw [if_pos e, h]
      have e0 : ∀ q : Nat → Bool, fltR q x x = [] := fun q => by
        cases x with
        | zero => rfl
        | succ k => rw [fltR, if_pos (Nat.lt_succ_self k)]
      rw [e0, e0]
      rfl
/-- The list with a place more: what lies below it, it, what lies above. -/
theorem flt_or {p : Nat → Bool} {x n : Nat} (h : p x = false) (hx : x < n) : flt (orP p x) n = flt p x ++ x :: fltR p x n := by
  rw [flt_split (orP p x) x n (by omega), fltR_or h n hx]
  congr 1
  exact flt_congr fun i hi => by
    have hne : ¬ i = x := by omega
    simp [orP, hne]
/-- The first number that is not below x: it is x or there is none such. -/
theorem flt_head {p : Nat → Bool} {x n : Nat} (hx : x < n) : ((flt p n)[(flt p x).length]? = some x) ↔ p x = true := by
  rw [flt_split p x n (by omega), List.getElem?_append_right (Nat.le_refl _), Nat.sub_self]
  constructor
  · intro h
    have : x ∈ flt p n := by
      rw [flt_split p x n (by omega)]
      exact List.mem_append_right _ (List.mem_of_getElem? h)
    exact (flt_mem this).2
  · intro h
    have key : ∀ n, x < n → ∃ r, fltR p x n = x :: r := by
      intro n
      induction n with
      | zero => intro hn; omega
      | succ n ih =>
        intro hn
        rw [fltR, if_neg (by omega)]
        rcases Nat.lt_succ_iff_lt_or_eq.1 hn with h1 | rfl
        · obtain ⟨r, hr⟩ := ih h1
          exact ⟨r ++ _, by rw [hr]; rfl⟩
        · have e0 : fltR p x x = [] := by
            cases x with
            | zero => rfl
            | succ k => rw [fltR, if_pos (Nat.lt_succ_self k)]
          exact ⟨[], by rw [e0, if_pos h]; rfl⟩
    obtain ⟨r, hr⟩ := key n hx
    rw [hr]
    rfl
theorem flt_below {p : Nat → Bool} {x n j : Nat} (hx : x ≤ n) (hj : j < (flt p x).length) : ∃ y, (flt p n)[j]? = some y ∧ y < x := by
  rw [flt_split p x n hx, List.getElem?_append_left hj, List.getElem?_eq_getElem hj]
  exact ⟨_, rfl, (flt_mem (List.getElem_mem hj)).1⟩
theorem flt_above {p : Nat → Bool} {x n j y : Nat} (hx : x ≤ n) (hj : (flt p x).length ≤ j) (h : (flt p n)[j]? = some y) : x ≤ y := by
  rw [flt_split p x n hx, List.getElem?_append_right hj] at h
  exact fltR_ge (List.mem_of_getElem? h)

end Go.Proofs.Ytkikjneamjmdlaa
