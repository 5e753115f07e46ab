/-
  An argument that is a team, opened.
-/
import Derived.Test.YtpakjmiallhgnaaOCheck
import Derived.Test.YtpakjmiallhgnaaWTmL
namespace Go.Proofs.Ytpakjmiallhgnaa
set_option linter.unusedVariables false
set_option linter.unusedSimpArgs false
open Go.ChangeShapes Go.WideShapes Go.ChangeAt Go.RowKit Go.Joins Go.Deep

/-- Four cells of a box. -/
def Box4 (w : World) (b : Nat) (x y z u : Value) : Prop := w.cell? ⟨b, 0, none⟩ = some x ∧ w.cell? ⟨b, 1, none⟩ = some y ∧ w.cell? ⟨b, 2, none⟩ = some z ∧ w.cell? ⟨b, 3, none⟩ = some u
theorem Box4.below {w w' : World} {b B : Nat} {x y z u : Value} (h : Box4 w b x y z u) (hb : Below B w w') (hB : b < B) : Box4 w' b x y z u :=
  ⟨(hb.cell (p := ⟨b, 0, none⟩) hB).trans h.1, (hb.cell (p := ⟨b, 1, none⟩) hB).trans h.2.1, (hb.cell (p := ⟨b, 2, none⟩) hB).trans h.2.2.1, (hb.cell (p := ⟨b, 3, none⟩) hB).trans h.2.2.2⟩
theorem Box4.new (w : World) (x y z u : Value) (t : TypeId) : Box4 (w.alloc (.cells #[x, y, z, u] t)) w.heap.size x y z u :=
  ⟨World.cell?_alloc_new _ _ _ _, World.cell?_alloc_new _ _ _ _, World.cell?_alloc_new _ _ _ _, World.cell?_alloc_new _ _ _ _⟩
def TmIn (W : World) (T : Tm) (vc : Value) : Prop := Sl W 0 W.heap.size 2 vc T.n (iiC T.m T.b) ∧ T.some
theorem Try.cells63 : Try.prog.cellsOf 63 = 4 := by kernel_rfl
set_option maxRecDepth 100000 in
theorem openTeam {H : Type} {enc : TypeId × Value → H} {W : World} {spare : Nat → Bool} {held : Bool} {v : Value} {d : DataW H} {ps : List MemPlace} {r : Reach} {b0 : Nat}
    (hv : Value.okWide Try.prog W r b0 63 v) (h : DataW.Trod enc Try.prog W 0 spare held 63 v d ps) :
    ∃ (T : Tm) (vc : Value), v = .agg #[.string T.s, .int .i64 T.v, .int .i64 T.y, vc] ∧ TmIn W T vc := by
  obtain ⟨v0, v1, v2, v3, y0, y1, y2, y3, n, rfl, _, _, h0, h1, h2, h3⟩ := open_agg4 Try.underlying63 (by kernel_rfl) Try.cells63 hv h
  obtain ⟨e0, z0⟩ := str_cell Try.underlying9 h0
  obtain ⟨e1, _⟩ := int_cell Try.underlying3 h1
  obtain ⟨e2, _⟩ := int_cell Try.underlying3 h2
  obtain ⟨d3, p3⟩ := y3
  obtain ⟨A, k, cap, m, b, rfl, q1, q2, q3⟩ := openCheckT h3
  unfold maxLen at q2
  refine ⟨⟨strOf v0, intOf v1, intOf v2, k, m, b⟩, .slice A k cap, ?_, q3.shut q1, z0, by show k ≤ _; omega⟩
  rw [← e0, ← e1, ← e2]

end Go.Proofs.Ytpakjmiallhgnaa
