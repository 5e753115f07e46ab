/-
  An argument that is a list of Check, opened (printed by gen_data.py).
-/
import Derived.Test.YtkmbeemgejoncaaOpen
import Derived.Test.YtkmbeemgejoncaaCells
namespace Go.Proofs.Ytkmbeemgejoncaa
set_option linter.unusedVariables false
set_option linter.unusedSimpArgs false
open Go.ChangeShapes Go.WideShapes Go.ChangeAt Go.RowKit Go.Joins Go.Deep

theorem Try.cells81 : Try.prog.cellsOf 81 = 2 := by kernel_rfl
theorem openCheck {H : Type} {enc : TypeId × Value → H} {W : World} {spare : Nat → Bool} {held : Bool} {v : Value} {d : DataW H} {ps : List MemPlace} {r : Reach} {b0 : Nat}
    (hv : Value.okWide Try.prog W r b0 32 v) (h : DataW.Trod enc Try.prog W 0 spare held 32 v d ps) :
    ∃ (A : Option Addr) (n cap : Nat) (f0 : Nat → Int) (f1 : Nat → Int), v = .slice A n cap ∧ n ≤ cap ∧ cap ≤ maxLen ∧ SlA W 0 W.heap.size 2 A n (iiC f0 f1) := by
  obtain ⟨A, n, cap, V, rfl, h1, h2, h3, h4⟩ := open_cells Try.underlying32 Try.cells81 (by omega) hv h
  refine ⟨A, n, cap, fun i => intOf (V i 0), fun i => intOf (V i 1), rfl, h1, h2, h3.congr fun i j hi hj => ?_⟩
  obtain ⟨cs', k, y, hl, hc, hy⟩ := h4 i hi
  match j, hj with
  | 0, hj =>
    obtain ⟨_, _, hz⟩ := field_of Try.underlying81 (by kernel_rfl) hy (j := 0) rfl (hc 0 hj)
    exact (int_cell Try.underlying3 hz).1
  | 1, hj =>
    obtain ⟨_, _, hz⟩ := field_of Try.underlying81 (by kernel_rfl) hy (j := 1) rfl (hc 1 hj)
    exact (int_cell Try.underlying3 hz).1

end Go.Proofs.Ytkmbeemgejoncaa
