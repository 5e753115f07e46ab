/-
  Plain words for floors: rows of open cells and walls; cells, steps. No program in sight.
-/
import Derived.Test.YtpckhpkbdanjoaaDoorPList
import Derived.Test.YtpckhpkbdanjoaaDoorWName
namespace Go.Proofs.YtpckhpkbdanjoaaDoor
set_option linter.unusedVariables false
set_option linter.unusedSimpArgs false

/-- How great the argument is. -/
def ffits (F : Nat → ByteArray) (n : Nat) : Prop := n ≤ 1048576 ∧ ∀ i, i < n → (F i).size ≤ maxLen
/-- An open cell or a wall. -/
def cel (s : ByteArray) (i : Nat) : Bool := decide (byteAt s i = 46) || decide (byteAt s i = 35)
def rowB (F : Nat → ByteArray) (r : Nat) : Bool := decide ((F r).size = (F 0).size) && allB (cel (F r)) (F r).size
def flB (F : Nat → ByteArray) (n : Nat) : Bool := inB n 1 12 && inB (F 0).size 1 12 && allB (rowB F) n
/-- A cell of the floor that is open. -/
def opB (F : Nat → ByteArray) (n : Nat) (r c : Int) : Bool := inB r 0 ((n : Int) - 1) && inB c 0 (((F 0).size : Int) - 1) && decide (byteAt (F r.toNat) c.toNat = 46)
theorem cel_no {s : ByteArray} {i : Nat} (h : byteAt s i ≠ 46) (h' : byteAt s i ≠ 35) : cel s i = false := by simp [cel, h, h']
theorem cel_iff {s : ByteArray} {i : Nat} : cel s i = true ↔ byteAt s i = 46 ∨ byteAt s i = 35 := by simp [cel]
theorem flB_no {F : Nat → ByteArray} {n k : Nat} (hk : k < n) (h : rowB F k = false) : flB F n = false := by rw [flB, allB_false hk h]; simp
theorem flB_facts {F : Nat → ByteArray} {n : Nat} (h : flB F n = true) : 1 ≤ n ∧ n ≤ 12 ∧ 1 ≤ (F 0).size ∧ (F 0).size ≤ 12 ∧ (∀ i, i < n → (F i).size = (F 0).size) ∧ ∀ i j, i < n → j < (F 0).size → byteAt (F i) j = 46 ∨ byteAt (F i) j = 35 := by
  simp only [flB, Bool.and_eq_true, inB_iff, allB_iff] at h
  obtain ⟨⟨h1, h2⟩, h3⟩ := h
  have h4 : ∀ i, i < n → (F i).size = (F 0).size ∧ ∀ j, j < (F i).size → cel (F i) j = true := fun i hi => by
    have := h3 i hi
    simpa only [rowB, Bool.and_eq_true, decide_eq_true_eq, allB_iff] using this
  exact ⟨by omega, by omega, by omega, by omega, fun i hi => (h4 i hi).1, fun i j hi hj => cel_iff.1 ((h4 i hi).2 j (by rw [(h4 i hi).1]; exact hj))⟩
theorem opB_iff {F : Nat → ByteArray} {n : Nat} {r c : Int} : opB F n r c = true ↔ (0 ≤ r ∧ r < n) ∧ (0 ≤ c ∧ c < (F 0).size) ∧ byteAt (F r.toNat) c.toNat = 46 := by
  simp only [opB, Bool.and_eq_true, inB_iff, decide_eq_true_eq, and_assoc]
  constructor
  · rintro ⟨h1, h2, h3, h4, h5⟩; exact ⟨h1, by omega, h3, by omega, h5⟩
  · rintro ⟨h1, h2, h3, h4, h5⟩; exact ⟨h1, by omega, h3, by omega, h5⟩
theorem opB_nat {F : Nat → ByteArray} {n : Nat} {r c : Int} (h : opB F n r c = true) : ∃ i j : Nat, r = i ∧ c = j ∧ i < n ∧ j < (F 0).size ∧ byteAt (F i) j = 46 := by
  obtain ⟨h1, h2, h3⟩ := opB_iff.1 h
  exact ⟨r.toNat, c.toNat, by omega, by omega, by omega, by omega, h3⟩
/-- A step in a direction: 0 up, 1 right, 2 down, 3 left. -/
def dR (d : Nat) : Int := if d = 0 then -1 else if d = 2 then 1 else 0
def dC (d : Nat) : Int := if d = 1 then 1 else if d = 3 then -1 else 0
def stp (p : Int × Int) (d : Nat) : Int × Int := (p.1 + dR d, p.2 + dC d)
def opP (F : Nat → ByteArray) (n : Nat) (p : Int × Int) : Bool := opB F n p.1 p.2
/-- The number of a cell in order. -/
def ixF (F : Nat → ByteArray) (p : Int × Int) : Nat := (p.1 * ((F 0).size : Int) + p.2).toNat
theorem opP_bd {F : Nat → ByteArray} {n : Nat} {p : Int × Int} (h : opP F n p = true) : 0 ≤ p.1 ∧ p.1 < n ∧ 0 ≤ p.2 ∧ p.2 < (F 0).size := by
  obtain ⟨h1, h2, _⟩ := opB_iff.1 h
  exact ⟨h1.1, h1.2, h2.1, h2.2⟩
theorem dR_bd (d : Nat) : -1 ≤ dR d ∧ dR d ≤ 1 := by unfold dR; split <;> (try split) <;> omega
theorem dC_bd (d : Nat) : -1 ≤ dC d ∧ dC d ≤ 1 := by unfold dC; split <;> (try split) <;> omega
theorem ix_lt' {W n : Nat} {r c : Int} (h1 : 0 ≤ r) (h2 : r < n) (h3 : 0 ≤ c) (h4 : c < W) : 0 ≤ r * W + c ∧ r * W + c < ((n * W : Nat) : Int) := by
  have a1 : 0 ≤ r * (W : Int) := Int.mul_nonneg h1 (by omega)
  have a2 : (r + 1) * (W : Int) ≤ (n : Int) * W := Int.mul_le_mul_of_nonneg_right (by omega) (by omega)
  rw [Int.add_mul, Int.one_mul] at a2
  rw [Int.natCast_mul]
  omega
theorem ix_lt {F : Nat → ByteArray} {n : Nat} {p : Int × Int} (h : opP F n p = true) : ixF F p < n * (F 0).size := by
  obtain ⟨h1, h2, h3, h4⟩ := opP_bd h
  have := ix_lt' h1 h2 h3 h4
  unfold ixF
  omega
theorem ix_cast {F : Nat → ByteArray} {n : Nat} {p : Int × Int} (h : opP F n p = true) : p.1 * ((F 0).size : Int) + p.2 = (ixF F p : Int) := by
  obtain ⟨h1, h2, h3, h4⟩ := opP_bd h
  have := ix_lt' h1 h2 h3 h4
  unfold ixF
  omega
/-- Numbers tell cells. -/
theorem ix_inj' {W : Int} {r c r' c' : Int} (h3 : 0 ≤ c) (h4 : c < W) (h3' : 0 ≤ c') (h4' : c' < W) (e : r * W + c = r' * W + c') : r = r' ∧ c = c' := by
  have hr : r = r' := by
    rcases Int.lt_trichotomy r r' with h | h | h
    · have := Int.mul_le_mul_of_nonneg_right (show r + 1 ≤ r' by omega) (show 0 ≤ W by omega)
      rw [Int.add_mul, Int.one_mul] at this
      omega
    · exact h
    · have := Int.mul_le_mul_of_nonneg_right (show r' + 1 ≤ r by omega) (show 0 ≤ W by omega)
      rw [Int.add_mul, Int.one_mul] at this
      omega
  subst hr
  exact ⟨rfl, by omega⟩
theorem ix_inj {F : Nat → ByteArray} {n : Nat} {p p' : Int × Int} (h : opP F n p = true) (h' : opP F n p' = true) (e : ixF F p = ixF F p') : p = p' := by
  have e1 := ix_cast h
  have e2 := ix_cast h'
  obtain ⟨a1, a2, a3, a4⟩ := opP_bd h
  obtain ⟨b1, b2, b3, b4⟩ := opP_bd h'
  have := ix_inj' (W := (F 0).size) a3 a4 b3 b4 (by rw [e1, e2, e])
  exact Prod.ext this.1 this.2

end Go.Proofs.YtpckhpkbdanjoaaDoor
