/-
  An argument that is a channel, opened.
-/
import Derived.Test.YtkikjneamjmdlaaOMessage
import Derived.Test.YtkikjneamjmdlaaWChan4
namespace Go.Proofs.Ytkikjneamjmdlaa
set_option linter.unusedVariables false
set_option linter.unusedSimpArgs false
open Go.ChangeShapes Go.WideShapes Go.ChangeAt Go.RowKit Go.Joins Go.Deep

/-- Three cells of a box. -/
def Box3 (w : World) (b : Nat) (x y z : Value) : Prop := w.cell? ⟨b, 0, none⟩ = some x ∧ w.cell? ⟨b, 1, none⟩ = some y ∧ w.cell? ⟨b, 2, none⟩ = some z
theorem Box3.below {w w' : World} {b B : Nat} {x y z : Value} (h : Box3 w b x y z) (hb : Below B w w') (hB : b < B) : Box3 w' b x y z :=
  ⟨(hb.cell (p := ⟨b, 0, none⟩) hB).trans h.1, (hb.cell (p := ⟨b, 1, none⟩) hB).trans h.2.1, (hb.cell (p := ⟨b, 2, none⟩) hB).trans h.2.2⟩
theorem Box3.new (w : World) (x y z : Value) (t : TypeId) : Box3 (w.alloc (.cells #[x, y, z] t)) w.heap.size x y z :=
  ⟨World.cell?_alloc_new _ _ _ _, World.cell?_alloc_new _ _ _ _, World.cell?_alloc_new _ _ _ _⟩
/-- What is known of a channel that came in. -/
def ChanIn (W : World) (S R H : Ms) (vS vR vH : Value) : Prop :=
  Sl W 0 W.heap.size 3 vS S.n S.c ∧ Sl W 0 W.heap.size 3 vR R.n R.c ∧ Sl W 0 W.heap.size 3 vH H.n H.c ∧ S.some ∧ R.some ∧ H.some
theorem openMs {H : Type} {enc : TypeId × Value → H} {W : World} {spare : Nat → Bool} {held : Bool} {v : Value} {y : DataW H × List MemPlace} {fuel : Nat}
    (h : DataW.trod enc Try.prog W 0 spare held fuel 22 [v] = some y) : ∃ M : Ms, Sl W 0 W.heap.size 3 v M.n M.c ∧ M.some := by
  obtain ⟨d, ps⟩ := y
  obtain ⟨A, n, cap, f, m, g, rfl, h1, h2, h3, h4, h5⟩ := openMessageT h
  unfold maxLen at h2
  exact ⟨⟨f, m, g, n⟩, h3.shut h1, by show n ≤ _; omega, fun i hi => ⟨h4 i hi, h5 i hi⟩⟩
theorem Try.cells24 : Try.prog.cellsOf 24 = 3 := by kernel_rfl
theorem openChannel {H : Type} {enc : TypeId × Value → H} {W : World} {spare : Nat → Bool} {held : Bool} {v : Value} {d : DataW H} {ps : List MemPlace} {r : Reach} {b0 : Nat}
    (hv : Value.okWide Try.prog W r b0 24 v) (h : DataW.Trod enc Try.prog W 0 spare held 24 v d ps) :
    ∃ (S R H : Ms) (vS vR vH : Value), v = .agg #[vS, vR, vH] ∧ ChanIn W S R H vS vR vH := by
  obtain ⟨v0, v1, v2, y0, y1, y2, n, rfl, _, _, h0, h1, h2⟩ := open_agg3 Try.underlying24 (by kernel_rfl) Try.cells24 hv h
  obtain ⟨S, s1, s2⟩ := openMs h0
  obtain ⟨R, r1, r2⟩ := openMs h1
  obtain ⟨H, t1, t2⟩ := openMs h2
  exact ⟨S, R, H, v0, v1, v2, rfl, s1, r1, t1, s2, r2, t2⟩

end Go.Proofs.Ytkikjneamjmdlaa
