/-
  An argument that is a list of teams, opened.
-/
import Derived.Test.YtpakjmiallhgnaaOTeam
import Derived.Test.YtpakjmiallhgnaaWBoardL
namespace Go.Proofs.Ytpakjmiallhgnaa
set_option linter.unusedVariables false
set_option linter.unusedSimpArgs false
open Go.ChangeShapes Go.WideShapes Go.ChangeAt Go.RowKit Go.Joins Go.Deep

set_option maxRecDepth 100000 in
set_option maxHeartbeats 800000 in
theorem openBoard {H : Type} {enc : TypeId × Value → H} {W : World} {spare : Nat → Bool} {held : Bool} {v : Value} {d : DataW H} {ps : List MemPlace} {r : Reach} {b0 : Nat}
    (hv : Value.okWide Try.prog W r b0 22 v) (h : DataW.Trod enc Try.prog W 0 spare held 22 v d ps) :
    ∃ (A : Option Addr) (n cap : Nat) (T : Nat → Tm), v = .slice A n cap ∧ n ≤ cap ∧ cap ≤ maxLen ∧ SlT W 0 W.heap.size v n T ∧ tsome T n := by
  obtain ⟨A, n, cap, V, rfl, h1, h2, h3, h4⟩ := open_cells Try.underlying22 Try.cells63 (by omega) hv h
  have hE : ∀ i, i < n → ∃ (T : Tm), V i 0 = .string T.s ∧ V i 1 = .int .i64 T.v ∧ V i 2 = .int .i64 T.y ∧ TmIn W T (V i 3) := by
    intro i hi
    obtain ⟨cs', k, y, hl, hc, hy⟩ := h4 i hi
    obtain ⟨_, _, g0⟩ := field_of Try.underlying63 (by kernel_rfl) hy (j := 0) rfl (hc 0 (by omega))
    obtain ⟨_, _, g1⟩ := field_of Try.underlying63 (by kernel_rfl) hy (j := 1) rfl (hc 1 (by omega))
    obtain ⟨_, _, g2⟩ := field_of Try.underlying63 (by kernel_rfl) hy (j := 2) rfl (hc 2 (by omega))
    obtain ⟨_, z, g3⟩ := field_of Try.underlying63 (by kernel_rfl) hy (j := 3) rfl (hc 3 (by omega))
    obtain ⟨e0, z0⟩ := str_cell Try.underlying9 g0
    obtain ⟨e1, _⟩ := int_cell Try.underlying3 g1
    obtain ⟨e2, _⟩ := int_cell Try.underlying3 g2
    obtain ⟨d3, p3⟩ := z
    obtain ⟨A3, k3, c3, m, b, e3, q1, q2, q3⟩ := openCheckT g3
    unfold maxLen at q2
    exact ⟨⟨strOf (V i 0), intOf (V i 1), intOf (V i 2), k3, m, b⟩, e0, e1, e2, by rw [e3]; exact q3.shut q1, z0, by show k3 ≤ _; omega⟩
  have hT : ∃ T : Nat → Tm, ∀ i, i < n → V i 0 = .string (T i).s ∧ V i 1 = .int .i64 (T i).v ∧ V i 2 = .int .i64 (T i).y ∧ TmIn W (T i) (V i 3) := by
    refine ⟨fun i => if hi : i < n then Classical.choose (hE i hi) else ⟨ByteArray.empty, 0, 0, 0, fun _ => 0, fun _ => 0⟩, fun i hi => ?_⟩
    simp only [hi, dif_pos]
    exact Classical.choose_spec (hE i hi)
  obtain ⟨T, hT⟩ := hT
  have h2' := h2
  unfold maxLen at h2'
  refine ⟨A, n, cap, T, rfl, h1, h2, ⟨fun i => V i 3, ?_, fun i hi => (hT i hi).2.2.2.1⟩, by omega, fun i hi => (hT i hi).2.2.2.2⟩
  refine (h3.congr (c' := tC T fun i => V i 3) fun i j hi hj => ?_).shut h1
  obtain ⟨a0, a1, a2, _⟩ := hT i hi
  match j, hj with
  | 0, _ => simp [tC, a0]
  | 1, _ => simp [tC, a1]
  | 2, _ => simp [tC, a2]
  | 3, _ => simp [tC]

end Go.Proofs.Ytpakjmiallhgnaa
