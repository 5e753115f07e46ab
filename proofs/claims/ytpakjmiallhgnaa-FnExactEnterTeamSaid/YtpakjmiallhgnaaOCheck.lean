/-
  An argument that is a list of Check, opened (printed by gen_data.py).
-/
import Derived.Test.YtpakjmiallhgnaaOpen
import Derived.Test.YtpakjmiallhgnaaCells
namespace Go.Proofs.Ytpakjmiallhgnaa
set_option linter.unusedVariables false
set_option linter.unusedSimpArgs false
open Go.ChangeShapes Go.WideShapes Go.ChangeAt Go.RowKit Go.Joins Go.Deep

theorem Try.cells129 : Try.prog.cellsOf 129 = 2 := by kernel_rfl
set_option maxRecDepth 100000 in
theorem openCheckT {H : Type} {enc : TypeId × Value → H} {W : World} {spare : Nat → Bool} {held : Bool} {v : Value} {d : DataW H} {ps : List MemPlace} {fuel : Nat}
    (h : DataW.trod enc Try.prog W 0 spare held fuel 61 [v] = some (d, ps)) :
    ∃ (A : Option Addr) (n cap : Nat) (f0 : Nat → Int) (f1 : Nat → Int), v = .slice A n cap ∧ n ≤ cap ∧ cap ≤ maxLen ∧ SlA W 0 W.heap.size 2 A n (iiC f0 f1) := by
  obtain ⟨A, n, cap, V, rfl, h1, h2, h3, h4⟩ := open_cellsT Try.underlying61 Try.cells129 (by omega) h
  refine ⟨A, n, cap, fun i => intOf (V i 0), fun i => intOf (V i 1), rfl, h1, h2, h3.congr fun i j hi hj => ?_⟩
  obtain ⟨cs', k, y, hl, hc, hy⟩ := h4 i hi
  match j, hj with
  | 0, hj =>
    obtain ⟨_, _, hz⟩ := field_of Try.underlying129 (by kernel_rfl) hy (j := 0) rfl (hc 0 hj)
    exact (int_cell Try.underlying3 hz).1
  | 1, hj =>
    obtain ⟨_, _, hz⟩ := field_of Try.underlying129 (by kernel_rfl) hy (j := 1) rfl (hc 1 hj)
    exact (int_cell Try.underlying3 hz).1
set_option maxRecDepth 100000 in
theorem openCheck {H : Type} {enc : TypeId × Value → H} {W : World} {spare : Nat → Bool} {held : Bool} {v : Value} {d : DataW H} {ps : List MemPlace} {r : Reach} {b0 : Nat}
    (hv : Value.okWide Try.prog W r b0 61 v) (h : DataW.Trod enc Try.prog W 0 spare held 61 v d ps) :
    ∃ (A : Option Addr) (n cap : Nat) (f0 : Nat → Int) (f1 : Nat → Int), v = .slice A n cap ∧ n ≤ cap ∧ cap ≤ maxLen ∧ SlA W 0 W.heap.size 2 A n (iiC f0 f1) := by
  obtain ⟨A, n, cap, rfl⟩ := okWide_slice Try.underlying61 hv
  obtain ⟨fuel, hf⟩ := h
  exact openCheckT (show DataW.trod enc Try.prog W 0 spare held fuel 61 [.slice A n cap] = some (d, ps) from hf)

end Go.Proofs.Ytpakjmiallhgnaa
