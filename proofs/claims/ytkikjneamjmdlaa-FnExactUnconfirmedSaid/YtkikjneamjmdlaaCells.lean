/-
  The cells of plain data: a slice's element i, field j (printed by gen_data.py).
-/
import Derived.Test.YtkikjneamjmdlaaOwn
namespace Go.Proofs.Ytkikjneamjmdlaa
set_option linter.unusedVariables false
set_option linter.unusedSimpArgs false
open Go.RowKit

theorem str_beq (a b : ByteArray) : (a.toList == b.toList) = decide (a = b) := by
  rw [ByteArray.toList_eq, ByteArray.toList_eq]
  by_cases h : a = b
  · simp [h]
  · have h2 : ¬ a.data.toList = b.data.toList := fun e => h (WideShapes.bytes_inj e)
    rw [decide_eq_false h]
    simpa using h2
/-- What is left of a budget. -/
def leftF (left : Int) (n : Nat) : Int := if left < n then -1 else left - n
def iC (f0 : Nat → Int) : Nat → Nat → Value := fun i _ => .int .i64 (f0 i)
def iE (a0 : Int) (a0' : Int) : Bool := decide (a0 = a0')
theorem iE_iff {a0 : Int} {a0' : Int} : iE a0 a0' = true ↔ a0 = a0' := by simp [iE]
def iL (f0 : Nat → Int) (f0' : Nat → Int) (n n' : Nat) : Bool := decide (n = n') && allB (fun i => iE (f0 i) (f0' i)) n
theorem iL_self (f0 : Nat → Int) (n : Nat) : iL f0 f0 n n = true := by
  rw [iL, allB_iff.2 (fun i _ => iE_iff.2 rfl)]; simp
theorem iL_iff {f0 : Nat → Int} {f0' : Nat → Int} {n n' : Nat} : iL f0 f0' n n' = true ↔ n = n' ∧ ∀ i, i < n → f0 i = f0' i := by
  simp only [iL, Bool.and_eq_true, decide_eq_true_eq, allB_iff, iE_iff]
def sC (f0 : Nat → ByteArray) : Nat → Nat → Value := fun i _ => .string (f0 i)
def sE (a0 : ByteArray) (a0' : ByteArray) : Bool := decide (a0 = a0')
theorem sE_iff {a0 : ByteArray} {a0' : ByteArray} : sE a0 a0' = true ↔ a0 = a0' := by simp [sE]
def sL (f0 : Nat → ByteArray) (f0' : Nat → ByteArray) (n n' : Nat) : Bool := decide (n = n') && allB (fun i => sE (f0 i) (f0' i)) n
theorem sL_self (f0 : Nat → ByteArray) (n : Nat) : sL f0 f0 n n = true := by
  rw [sL, allB_iff.2 (fun i _ => sE_iff.2 rfl)]; simp
theorem sL_iff {f0 : Nat → ByteArray} {f0' : Nat → ByteArray} {n n' : Nat} : sL f0 f0' n n' = true ↔ n = n' ∧ ∀ i, i < n → f0 i = f0' i := by
  simp only [sL, Bool.and_eq_true, decide_eq_true_eq, allB_iff, sE_iff]
def iiC (f0 : Nat → Int) (f1 : Nat → Int) : Nat → Nat → Value := fun i j => if j = 0 then .int .i64 (f0 i) else .int .i64 (f1 i)
def iiE (a0 : Int) (a1 : Int) (a0' : Int) (a1' : Int) : Bool := decide (a0 = a0') && decide (a1 = a1')
theorem iiE_iff {a0 : Int} {a1 : Int} {a0' : Int} {a1' : Int} : iiE a0 a1 a0' a1' = true ↔ a0 = a0' ∧ a1 = a1' := by simp [iiE]
def iiL (f0 : Nat → Int) (f1 : Nat → Int) (f0' : Nat → Int) (f1' : Nat → Int) (n n' : Nat) : Bool := decide (n = n') && allB (fun i => iiE (f0 i) (f1 i) (f0' i) (f1' i)) n
theorem iiL_self (f0 : Nat → Int) (f1 : Nat → Int) (n : Nat) : iiL f0 f1 f0 f1 n n = true := by
  rw [iiL, allB_iff.2 (fun i _ => iiE_iff.2 ⟨rfl, rfl⟩)]; simp
theorem iiL_iff {f0 : Nat → Int} {f1 : Nat → Int} {f0' : Nat → Int} {f1' : Nat → Int} {n n' : Nat} : iiL f0 f1 f0' f1' n n' = true ↔ n = n' ∧ ∀ i, i < n → f0 i = f0' i ∧ f1 i = f1' i := by
  simp only [iiL, Bool.and_eq_true, decide_eq_true_eq, allB_iff, iiE_iff]
def siiC (f0 : Nat → ByteArray) (f1 : Nat → Int) (f2 : Nat → Int) : Nat → Nat → Value := fun i j => if j = 0 then .string (f0 i) else if j = 1 then .int .i64 (f1 i) else .int .i64 (f2 i)
def siiE (a0 : ByteArray) (a1 : Int) (a2 : Int) (a0' : ByteArray) (a1' : Int) (a2' : Int) : Bool := decide (a0 = a0') && decide (a1 = a1') && decide (a2 = a2')
theorem siiE_iff {a0 : ByteArray} {a1 : Int} {a2 : Int} {a0' : ByteArray} {a1' : Int} {a2' : Int} : siiE a0 a1 a2 a0' a1' a2' = true ↔ a0 = a0' ∧ a1 = a1' ∧ a2 = a2' := by simp [siiE] <;> exact and_assoc
def siiL (f0 : Nat → ByteArray) (f1 : Nat → Int) (f2 : Nat → Int) (f0' : Nat → ByteArray) (f1' : Nat → Int) (f2' : Nat → Int) (n n' : Nat) : Bool := decide (n = n') && allB (fun i => siiE (f0 i) (f1 i) (f2 i) (f0' i) (f1' i) (f2' i)) n
theorem siiL_self (f0 : Nat → ByteArray) (f1 : Nat → Int) (f2 : Nat → Int) (n : Nat) : siiL f0 f1 f2 f0 f1 f2 n n = true := by
  rw [siiL, allB_iff.2 (fun i _ => siiE_iff.2 ⟨rfl, rfl, rfl⟩)]; simp
theorem siiL_iff {f0 : Nat → ByteArray} {f1 : Nat → Int} {f2 : Nat → Int} {f0' : Nat → ByteArray} {f1' : Nat → Int} {f2' : Nat → Int} {n n' : Nat} : siiL f0 f1 f2 f0' f1' f2' n n' = true ↔ n = n' ∧ ∀ i, i < n → f0 i = f0' i ∧ f1 i = f1' i ∧ f2 i = f2' i := by
  simp only [siiL, Bool.and_eq_true, decide_eq_true_eq, allB_iff, siiE_iff]
def sisC (f0 : Nat → ByteArray) (f1 : Nat → Int) (f2 : Nat → ByteArray) : Nat → Nat → Value := fun i j => if j = 0 then .string (f0 i) else if j = 1 then .int .i64 (f1 i) else .string (f2 i)
def sisE (a0 : ByteArray) (a1 : Int) (a2 : ByteArray) (a0' : ByteArray) (a1' : Int) (a2' : ByteArray) : Bool := decide (a0 = a0') && decide (a1 = a1') && decide (a2 = a2')
theorem sisE_iff {a0 : ByteArray} {a1 : Int} {a2 : ByteArray} {a0' : ByteArray} {a1' : Int} {a2' : ByteArray} : sisE a0 a1 a2 a0' a1' a2' = true ↔ a0 = a0' ∧ a1 = a1' ∧ a2 = a2' := by simp [sisE] <;> exact and_assoc
def sisL (f0 : Nat → ByteArray) (f1 : Nat → Int) (f2 : Nat → ByteArray) (f0' : Nat → ByteArray) (f1' : Nat → Int) (f2' : Nat → ByteArray) (n n' : Nat) : Bool := decide (n = n') && allB (fun i => sisE (f0 i) (f1 i) (f2 i) (f0' i) (f1' i) (f2' i)) n
theorem sisL_self (f0 : Nat → ByteArray) (f1 : Nat → Int) (f2 : Nat → ByteArray) (n : Nat) : sisL f0 f1 f2 f0 f1 f2 n n = true := by
  rw [sisL, allB_iff.2 (fun i _ => sisE_iff.2 ⟨rfl, rfl, rfl⟩)]; simp
theorem sisL_iff {f0 : Nat → ByteArray} {f1 : Nat → Int} {f2 : Nat → ByteArray} {f0' : Nat → ByteArray} {f1' : Nat → Int} {f2' : Nat → ByteArray} {n n' : Nat} : sisL f0 f1 f2 f0' f1' f2' n n' = true ↔ n = n' ∧ ∀ i, i < n → f0 i = f0' i ∧ f1 i = f1' i ∧ f2 i = f2' i := by
  simp only [sisL, Bool.and_eq_true, decide_eq_true_eq, allB_iff, sisE_iff]

end Go.Proofs.Ytkikjneamjmdlaa
