/-
  Walks: what a channel says of one name: was it received, the last one, the next in order.
-/
import Derived.Test.YtkikjneamjmdlaaWChan5
namespace Go.Proofs.Ytkikjneamjmdlaa
set_option linter.unusedVariables false
set_option linter.unusedSimpArgs false
open Go.RowKit

def recOk (S R H : Ms) (x : ByteArray) (y : Int) : Bool := chanB S R H && nameB x && inB y 1 999
def recB (S R H : Ms) (x : ByteArray) (y : Int) : Bool := recOk S R H x y && decide (0 ≤ fstI (mk1 R.f R.m x y) R.n)
theorem ret_bb {a b c d : Bool} (h : a = c) (h' : b = d) : Ending.returned (.tuple #[.bool a, .bool b]) = .returned (.tuple #[.bool c, .bool d]) := by rw [h, h']
theorem fstI_le {p : Nat → Bool} {n : Nat} : -1 ≤ fstI p n ∧ (fstI p n : Int) ≤ n := by
  have := fstI_bd p n
  omega


theorem Drew.cells {w w' : World} (h : Drew w w') (a : Addr) : w'.cell? a = w.cell? a := by obtain ⟨n, rfl⟩ := h; simp [go_sem]
theorem Drew.frozens {w w' : World} (h : Drew w w') (a : Addr) : w'.frozen? a = w.frozen? a := by obtain ⟨n, rfl⟩ := h; simp [go_sem]
theorem Drew.size {w w' : World} (h : Drew w w') : w'.heap.size = w.heap.size := by obtain ⟨n, rfl⟩ := h; simp [go_sem]
def nmOk (S R H : Ms) (x : ByteArray) : Bool := chanB S R H && nameB x
/-- The last message of a name among the first k: its name, number, body. -/
def lsF (R : Ms) (x : ByteArray) : Nat → ByteArray × Int × ByteArray
  | 0 => (⟨#[]⟩, 0, ⟨#[]⟩)
  | k + 1 => if R.f k = x ∧ (lsF R x k).2.1 < R.m k then (R.f k, R.m k, R.g k) else lsF R x k
def lsS (R : Ms) (x : ByteArray) (k : Nat) : ByteArray := (lsF R x k).1
def lsN (R : Ms) (x : ByteArray) (k : Nat) : Int := (lsF R x k).2.1
def lsB (R : Ms) (x : ByteArray) (k : Nat) : ByteArray := (lsF R x k).2.2
theorem ls_zero (R : Ms) (x : ByteArray) : lsS R x 0 = ⟨#[]⟩ ∧ lsN R x 0 = 0 ∧ lsB R x 0 = ⟨#[]⟩ := ⟨rfl, rfl, rfl⟩
theorem ls_yes {R : Ms} {x : ByteArray} {k : Nat} (h : R.f k = x) (h' : lsN R x k < R.m k) : lsS R x (k + 1) = R.f k ∧ lsN R x (k + 1) = R.m k ∧ lsB R x (k + 1) = R.g k := by
  unfold lsS lsN lsB at *
  simp only [lsF]
  rw [if_pos ⟨h, h'⟩]
  exact ⟨rfl, rfl, rfl⟩
theorem ls_no {R : Ms} {x : ByteArray} {k : Nat} (h : ¬ (R.f k = x ∧ lsN R x k < R.m k)) : lsS R x (k + 1) = lsS R x k ∧ lsN R x (k + 1) = lsN R x k ∧ lsB R x (k + 1) = lsB R x k := by
  unfold lsS lsN lsB at *
  simp only [lsF]
  rw [if_neg h]
  exact ⟨rfl, rfl, rfl⟩
theorem ls_bd (R : Ms) (x : ByteArray) : ∀ k, 0 ≤ lsN R x k ∧ (lsN R x k = 0 → lsS R x k = ⟨#[]⟩ ∧ lsB R x k = ⟨#[]⟩)
  | 0 => ⟨Int.le_refl _, fun _ => ⟨rfl, rfl⟩⟩
  | k + 1 => by
    have ih := ls_bd R x k
    by_cases h : R.f k = x ∧ lsN R x k < R.m k
    · have h1 := ls_yes h.1 h.2
      rw [h1.2.1]
      exact ⟨by omega, fun h0 => by omega⟩
    · have h1 := ls_no h
      rw [h1.1, h1.2.1, h1.2.2]
      exact ih
def laS (S R H : Ms) (x : ByteArray) : ByteArray := if nmOk S R H x = true then lsS R x R.n else ⟨#[]⟩
def laN (S R H : Ms) (x : ByteArray) : Int := if nmOk S R H x = true then lsN R x R.n else 0
def laB (S R H : Ms) (x : ByteArray) : ByteArray := if nmOk S R H x = true then lsB R x R.n else ⟨#[]⟩
def laOk (S R H : Ms) (x : ByteArray) : Bool := nmOk S R H x && decide (0 < lsN R x R.n)

end Go.Proofs.Ytkikjneamjmdlaa
