/-
  An argument that is a list of bytes, opened.
-/
import Derived.Test.YteoolhoncgaapaaOpen
import Derived.Test.YteoolhoncgaapaaWDrwC2
namespace Go.Proofs.Yteoolhoncgaapaa
set_option linter.unusedVariables false
set_option linter.unusedSimpArgs false
open Go.ChangeShapes Go.WideShapes Go.ChangeAt Go.RowKit Go.Joins Go.Deep

theorem byte_cell {H : Type} {enc : TypeId × Value → H} {P : Program} {w : World} {base : Nat} {spare : Nat → Bool} {held : Bool} {t : TypeId} {n : Nat} {v : Value} {z : DataW H × List MemPlace} (ht : P.underlying t = some (.int .u8)) (h : DataW.trod enc P w base spare held n t [v] = some z) :
    v = .int .u8 (intOf v) ∧ 0 ≤ intOf v ∧ intOf v ≤ 255 := by
  obtain ⟨x, h1, _, h3⟩ := DataW.trod_int ht h
  simp only [List.cons.injEq, and_true] at h1
  subst h1
  refine ⟨rfl, ?_⟩
  have h4 : (Lit.int .u8 x).wf = true := h3
  simp [Lit.wf, IntKind.min, IntKind.max, IntKind.signed, IntKind.bits] at h4
  show 0 ≤ x ∧ x ≤ 255
  omega
theorem Try.cells5 : Try.prog.cellsOf 5 = 1 := by kernel_rfl
set_option maxRecDepth 100000 in
theorem openByteT {H : Type} {enc : TypeId × Value → H} {W : World} {spare : Nat → Bool} {held : Bool} {v : Value} {d : DataW H} {ps : List MemPlace} {fuel : Nat}
    (h : DataW.trod enc Try.prog W 0 spare held fuel 35 [v] = some (d, ps)) :
    ∃ (A : Option Addr) (n cap : Nat), v = .slice A n cap ∧ n ≤ cap ∧ cap ≤ maxLen ∧ Code W (.slice A n cap) := by
  obtain ⟨A, n, cap, V, rfl, h1, h2, h3, h4⟩ := open_cellsT Try.underlying35 Try.cells5 (by omega) h
  have key : ∀ i, i < n → V i 0 = .int .u8 (intOf (V i 0)) ∧ 0 ≤ intOf (V i 0) ∧ intOf (V i 0) ≤ 255 := fun i hi => by
    obtain ⟨cs', k, y, hl, hc, hy⟩ := h4 i hi
    have hcs : cs' = [V i 0] := by
      match cs', hl with
      | [x], _ => have := hc 0 (by omega); simp at this; rw [this]
    rw [hcs] at hy
    exact byte_cell Try.underlying5 hy
  refine ⟨A, n, cap, rfl, h1, h2, ⟨n, W.heap.size, fun i => intOf (V i 0), (h3.congr (c' := bC fun i => intOf (V i 0)) fun i j hi hj => ?_).shut h1, Nat.le_refl _, by unfold maxLen at h2; omega, fun i hi => (key i hi).2⟩⟩
  obtain rfl : j = 0 := by omega
  exact (key i hi).1
set_option maxRecDepth 100000 in
theorem openByte {H : Type} {enc : TypeId × Value → H} {W : World} {spare : Nat → Bool} {held : Bool} {v : Value} {d : DataW H} {ps : List MemPlace} {r : Reach} {b0 : Nat}
    (hv : Value.okWide Try.prog W r b0 35 v) (h : DataW.Trod enc Try.prog W 0 spare held 35 v d ps) :
    ∃ (A : Option Addr) (n cap : Nat), v = .slice A n cap ∧ n ≤ cap ∧ cap ≤ maxLen ∧ Code W (.slice A n cap) := by
  obtain ⟨A, n, cap, rfl⟩ := okWide_slice Try.underlying35 hv
  obtain ⟨fuel, hf⟩ := h
  exact openByteT (show DataW.trod enc Try.prog W 0 spare held fuel 35 [.slice A n cap] = some (d, ps) from hf)

end Go.Proofs.Yteoolhoncgaapaa
