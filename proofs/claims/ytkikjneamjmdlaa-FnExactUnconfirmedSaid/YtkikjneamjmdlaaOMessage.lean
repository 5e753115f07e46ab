/-
  An argument that is a list of Message, opened (printed by gen_data.py).
-/
import Derived.Test.YtkikjneamjmdlaaOpen
import Derived.Test.YtkikjneamjmdlaaCells
namespace Go.Proofs.Ytkikjneamjmdlaa
set_option linter.unusedVariables false
set_option linter.unusedSimpArgs false
open Go.ChangeShapes Go.WideShapes Go.ChangeAt Go.RowKit Go.Joins Go.Deep

theorem Try.cells52 : Try.prog.cellsOf 52 = 3 := by kernel_rfl
set_option maxRecDepth 100000 in
theorem openMessageT {H : Type} {enc : TypeId × Value → H} {W : World} {spare : Nat → Bool} {held : Bool} {v : Value} {d : DataW H} {ps : List MemPlace} {fuel : Nat}
    (h : DataW.trod enc Try.prog W 0 spare held fuel 22 [v] = some (d, ps)) :
    ∃ (A : Option Addr) (n cap : Nat) (f0 : Nat → ByteArray) (f1 : Nat → Int) (f2 : Nat → ByteArray), v = .slice A n cap ∧ n ≤ cap ∧ cap ≤ maxLen ∧ SlA W 0 W.heap.size 3 A n (sisC f0 f1 f2) ∧ (∀ i, i < n → (f0 i).size ≤ maxLen) ∧ (∀ i, i < n → (f2 i).size ≤ maxLen) := by
  obtain ⟨A, n, cap, V, rfl, h1, h2, h3, h4⟩ := open_cellsT Try.underlying22 Try.cells52 (by omega) h
  refine ⟨A, n, cap, fun i => strOf (V i 0), fun i => intOf (V i 1), fun i => strOf (V i 2), rfl, h1, h2, h3.congr fun i j hi hj => ?_, fun i hi => by
    obtain ⟨cs', k, y, hl, hc, hy⟩ := h4 i hi
    obtain ⟨_, _, hz⟩ := field_of Try.underlying52 (by kernel_rfl) hy (j := 0) rfl (hc 0 (by omega))
    exact (str_cell Try.underlying9 hz).2, fun i hi => by
    obtain ⟨cs', k, y, hl, hc, hy⟩ := h4 i hi
    obtain ⟨_, _, hz⟩ := field_of Try.underlying52 (by kernel_rfl) hy (j := 2) rfl (hc 2 (by omega))
    exact (str_cell Try.underlying9 hz).2⟩
  obtain ⟨cs', k, y, hl, hc, hy⟩ := h4 i hi
  match j, hj with
  | 0, hj =>
    obtain ⟨_, _, hz⟩ := field_of Try.underlying52 (by kernel_rfl) hy (j := 0) rfl (hc 0 hj)
    exact (str_cell Try.underlying9 hz).1
  | 1, hj =>
    obtain ⟨_, _, hz⟩ := field_of Try.underlying52 (by kernel_rfl) hy (j := 1) rfl (hc 1 hj)
    exact (int_cell Try.underlying3 hz).1
  | 2, hj =>
    obtain ⟨_, _, hz⟩ := field_of Try.underlying52 (by kernel_rfl) hy (j := 2) rfl (hc 2 hj)
    exact (str_cell Try.underlying9 hz).1
set_option maxRecDepth 100000 in
theorem openMessage {H : Type} {enc : TypeId × Value → H} {W : World} {spare : Nat → Bool} {held : Bool} {v : Value} {d : DataW H} {ps : List MemPlace} {r : Reach} {b0 : Nat}
    (hv : Value.okWide Try.prog W r b0 22 v) (h : DataW.Trod enc Try.prog W 0 spare held 22 v d ps) :
    ∃ (A : Option Addr) (n cap : Nat) (f0 : Nat → ByteArray) (f1 : Nat → Int) (f2 : Nat → ByteArray), v = .slice A n cap ∧ n ≤ cap ∧ cap ≤ maxLen ∧ SlA W 0 W.heap.size 3 A n (sisC f0 f1 f2) ∧ (∀ i, i < n → (f0 i).size ≤ maxLen) ∧ (∀ i, i < n → (f2 i).size ≤ maxLen) := by
  obtain ⟨A, n, cap, rfl⟩ := okWide_slice Try.underlying22 hv
  obtain ⟨fuel, hf⟩ := h
  exact openMessageT (show DataW.trod enc Try.prog W 0 spare held fuel 22 [.slice A n cap] = some (d, ps) from hf)

end Go.Proofs.Ytkikjneamjmdlaa
