/-
  An argument that is a list of String, opened (printed by gen_data.py).
-/
import Derived.Test.YtpckhpkbdanjoaaDoorOpen
import Derived.Test.YtpckhpkbdanjoaaDoorCells
namespace Go.Proofs.YtpckhpkbdanjoaaDoor
set_option linter.unusedVariables false
set_option linter.unusedSimpArgs false
open Go.ChangeShapes Go.WideShapes Go.ChangeAt Go.RowKit Go.Joins Go.Deep

theorem Tryd.cells9 : Tryd.prog.cellsOf 9 = 1 := by kernel_rfl
set_option maxRecDepth 100000 in
theorem openStringT {H : Type} {enc : TypeId × Value → H} {W : World} {spare : Nat → Bool} {held : Bool} {v : Value} {d : DataW H} {ps : List MemPlace} {fuel : Nat}
    (h : DataW.trod enc Tryd.prog W 0 spare held fuel 22 [v] = some (d, ps)) :
    ∃ (A : Option Addr) (n cap : Nat) (f0 : Nat → ByteArray), v = .slice A n cap ∧ n ≤ cap ∧ cap ≤ maxLen ∧ SlA W 0 W.heap.size 1 A n (sC f0) ∧ (∀ i, i < n → (f0 i).size ≤ maxLen) := by
  obtain ⟨A, n, cap, V, rfl, h1, h2, h3, h4⟩ := open_cellsT Tryd.underlying22 Tryd.cells9 (by omega) h
  refine ⟨A, n, cap, fun i => strOf (V i 0), rfl, h1, h2, h3.congr fun i j hi hj => ?_, fun i hi => by
    obtain ⟨cs', k, y, hl, hc, hy⟩ := h4 i hi
    have hcs : cs' = [V i 0] := by
      match cs', hl with
      | [x], _ => have := hc 0 (by omega); simp at this; rw [this]
    rw [hcs] at hy
    exact (str_cell Tryd.underlying9 hy).2⟩
  obtain ⟨cs', k, y, hl, hc, hy⟩ := h4 i hi
  match j, hj with
  | 0, hj =>
    have hcs : cs' = [V i 0] := by
      match cs', hl with
      | [x], _ => have := hc 0 hj; simp at this; rw [this]
    rw [hcs] at hy
    exact (str_cell Tryd.underlying9 hy).1
set_option maxRecDepth 100000 in
theorem openString {H : Type} {enc : TypeId × Value → H} {W : World} {spare : Nat → Bool} {held : Bool} {v : Value} {d : DataW H} {ps : List MemPlace} {r : Reach} {b0 : Nat}
    (hv : Value.okWide Tryd.prog W r b0 22 v) (h : DataW.Trod enc Tryd.prog W 0 spare held 22 v d ps) :
    ∃ (A : Option Addr) (n cap : Nat) (f0 : Nat → ByteArray), v = .slice A n cap ∧ n ≤ cap ∧ cap ≤ maxLen ∧ SlA W 0 W.heap.size 1 A n (sC f0) ∧ (∀ i, i < n → (f0 i).size ≤ maxLen) := by
  obtain ⟨A, n, cap, rfl⟩ := okWide_slice Tryd.underlying22 hv
  obtain ⟨fuel, hf⟩ := h
  exact openStringT (show DataW.trod enc Tryd.prog W 0 spare held fuel 22 [.slice A n cap] = some (d, ps) from hf)

end Go.Proofs.YtpckhpkbdanjoaaDoor
