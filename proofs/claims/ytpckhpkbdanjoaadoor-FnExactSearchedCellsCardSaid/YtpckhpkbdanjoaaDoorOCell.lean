/-
  An argument that is a list of Cell, opened (printed by gen_data.py).
-/
import Derived.Test.YtpckhpkbdanjoaaDoorOpen
import Derived.Test.YtpckhpkbdanjoaaDoorCells
namespace Go.Proofs.YtpckhpkbdanjoaaDoor
set_option linter.unusedVariables false
set_option linter.unusedSimpArgs false
open Go.ChangeShapes Go.WideShapes Go.ChangeAt Go.RowKit Go.Joins Go.Deep

theorem Tryd.cells36 : Tryd.prog.cellsOf 36 = 2 := by kernel_rfl
set_option maxRecDepth 100000 in
theorem openCellT {H : Type} {enc : TypeId × Value → H} {W : World} {spare : Nat → Bool} {held : Bool} {v : Value} {d : DataW H} {ps : List MemPlace} {fuel : Nat}
    (h : DataW.trod enc Tryd.prog W 0 spare held fuel 23 [v] = some (d, ps)) :
    ∃ (A : Option Addr) (n cap : Nat) (f0 : Nat → Int) (f1 : Nat → Int), v = .slice A n cap ∧ n ≤ cap ∧ cap ≤ maxLen ∧ SlA W 0 W.heap.size 2 A n (iiC f0 f1) := by
  obtain ⟨A, n, cap, V, rfl, h1, h2, h3, h4⟩ := open_cellsT Tryd.underlying23 Tryd.cells36 (by omega) h
  refine ⟨A, n, cap, fun i => intOf (V i 0), fun i => intOf (V i 1), rfl, h1, h2, h3.congr fun i j hi hj => ?_⟩
  obtain ⟨cs', k, y, hl, hc, hy⟩ := h4 i hi
  match j, hj with
  | 0, hj =>
    obtain ⟨_, _, hz⟩ := field_of Tryd.underlying36 (by kernel_rfl) hy (j := 0) rfl (hc 0 hj)
    exact (int_cell Tryd.underlying3 hz).1
  | 1, hj =>
    obtain ⟨_, _, hz⟩ := field_of Tryd.underlying36 (by kernel_rfl) hy (j := 1) rfl (hc 1 hj)
    exact (int_cell Tryd.underlying3 hz).1
set_option maxRecDepth 100000 in
theorem openCell {H : Type} {enc : TypeId × Value → H} {W : World} {spare : Nat → Bool} {held : Bool} {v : Value} {d : DataW H} {ps : List MemPlace} {r : Reach} {b0 : Nat}
    (hv : Value.okWide Tryd.prog W r b0 23 v) (h : DataW.Trod enc Tryd.prog W 0 spare held 23 v d ps) :
    ∃ (A : Option Addr) (n cap : Nat) (f0 : Nat → Int) (f1 : Nat → Int), v = .slice A n cap ∧ n ≤ cap ∧ cap ≤ maxLen ∧ SlA W 0 W.heap.size 2 A n (iiC f0 f1) := by
  obtain ⟨A, n, cap, rfl⟩ := okWide_slice Tryd.underlying23 hv
  obtain ⟨fuel, hf⟩ := h
  exact openCellT (show DataW.trod enc Tryd.prog W 0 spare held fuel 23 [.slice A n cap] = some (d, ps) from hf)

end Go.Proofs.YtpckhpkbdanjoaaDoor
