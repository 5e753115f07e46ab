/-
  An argument that is a list of Int, opened (printed by gen_data.py).
-/
import Derived.Test.YtkmbeemgejoncaaOpen
import Derived.Test.YtkmbeemgejoncaaCells
namespace Go.Proofs.Ytkmbeemgejoncaa
set_option linter.unusedVariables false
set_option linter.unusedSimpArgs false
open Go.ChangeShapes Go.WideShapes Go.ChangeAt Go.RowKit Go.Joins Go.Deep

theorem Try.cells3 : Try.prog.cellsOf 3 = 1 := by kernel_rfl
theorem openInt {H : Type} {enc : TypeId × Value → H} {W : World} {spare : Nat → Bool} {held : Bool} {v : Value} {d : DataW H} {ps : List MemPlace} {r : Reach} {b0 : Nat}
    (hv : Value.okWide Try.prog W r b0 56 v) (h : DataW.Trod enc Try.prog W 0 spare held 56 v d ps) :
    ∃ (A : Option Addr) (n cap : Nat) (f0 : Nat → Int), v = .slice A n cap ∧ n ≤ cap ∧ cap ≤ maxLen ∧ SlA W 0 W.heap.size 1 A n (iC f0) := by
  obtain ⟨A, n, cap, V, rfl, h1, h2, h3, h4⟩ := open_cells Try.underlying56 Try.cells3 (by omega) hv h
  refine ⟨A, n, cap, fun i => intOf (V i 0), rfl, h1, h2, h3.congr fun i j hi hj => ?_⟩
  obtain ⟨cs', k, y, hl, hc, hy⟩ := h4 i hi
  match j, hj with
  | 0, hj =>
    have hcs : cs' = [V i 0] := by
      match cs', hl with
      | [x], _ => have := hc 0 hj; simp at this; rw [this]
    rw [hcs] at hy
    exact (int_cell Try.underlying3 hy).1

end Go.Proofs.Ytkmbeemgejoncaa
