/-
  A box of two integers; two more steps of a region that draws its order by a tree.
-/
import Derived.Test.YtpckhpkbdanjoaaDoorMix2
import Derived.Test.YtpckhpkbdanjoaaDoorOwn
import Derived.Test.YtpckhpkbdanjoaaDoorWFlr2
import Derived.Deep.Heap
namespace Go.Proofs.YtpckhpkbdanjoaaDoor
set_option linter.unusedVariables false
set_option linter.unusedSimpArgs false
open Go Go.RowKit Go.Deep

theorem tree_call {P : Program} {ops : Array Oper} {C : World → Prop} {Q : Act → World → Prop} {k : Nat} {r : MT} {a : Act} {w : World} (o : Oper) (f : FuncId) (args : Array Value) (hk : ops[k]? = some o) (hw : Region.wanted o (yielded ops a.tmps) = true) (hv : (execOp a.eval o).run P w = .ok (.enter f args) w)
    (h : Calls P f args w fun e w'' => ∃ v, e = .returned v ∧ C w'' ∧ wpMT P ops C Q r (a.put o.dst v) w'') : eOp P ops k (fun a' w' => C w' ∧ wpMT P ops C Q r a' w') a w := by
  unfold eOp
  simp only [hk, hw, if_true, hv, goesUpon]
  exact h
theorem tree_store {P : Program} {ops : Array Oper} {C : World → Prop} {Q : Act → World → Prop} {k : Nat} {r : MT} {a : Act} {w : World} (o : Oper) (w' : World) (hk : ops[k]? = some o) (hw : Region.wanted o (yielded ops a.tmps) = true) (hv : (execOp a.eval o).run P w = .ok .skip w') (hC : C w')
    (h : wpMT P ops C Q r (a.put o.dst undef) w') : eOp P ops k (fun a' w' => C w' ∧ wpMT P ops C Q r a' w') a w := by
  unfold eOp
  simp only [hk, hw, if_true, hv, goesUpon]
  exact ⟨hC, h⟩

theorem wp_region_mixd {P : Program} {id : Nat} {Q : Exit → Act → World → Prop} {a : Act} {w : World} {l : List Oper} (r : List (Nat × Bool)) (C : World → Prop) (hm : P.follows .mixedOrders = true) (hs : Region.noSelect l.toArray = true) (hl : r.length = l.toArray.size)
    (hB : mixFrom .any l.toArray r (Array.replicate l.toArray.size false) = true) (hC : C w.drew)
    (h : ∀ W, Hid (W = w.drew) → C W → wpMix P l.toArray C (fun a' w' => Q .normal a' w') r a W) : (Code.region id l.toArray true).wp P Q a w :=
  wp_region_mix r C hm hs hl hB hC (h _ (hide rfl) hC)

/-- A box of two integers. -/
structure Bx2 (w : World) (b : Nat) (x y : Int) : Prop where
  c0 : w.cell? ⟨b, 0, none⟩ = some (.int .i64 x)
  c1 : w.cell? ⟨b, 1, none⟩ = some (.int .i64 y)
  fr : ∀ o, w.frozen? ⟨b, o, none⟩ = false
  lt : b < w.heap.size
section
variable {w w' : World} {b b' : Nat} {x y x' y' : Int}
theorem Bx2.keep (h : Bx2 w b x y) (hk : w'.heap[b]? = w.heap[b]?) (hs : b < w'.heap.size) : Bx2 w' b x y :=
  ⟨(World.cell?_of_block (a := ⟨b, 0, none⟩) hk).trans h.c0, (World.cell?_of_block (a := ⟨b, 1, none⟩) hk).trans h.c1, fun o => (World.frozen?_of_block (a := ⟨b, o, none⟩) hk).trans (h.fr o), hs⟩
theorem Bx2.below {B : Nat} (h : Bx2 w b x y) (hb : Below B w w') (hB : b < B) : Bx2 w' b x y := h.keep (hb.block b hB) (Nat.lt_of_lt_of_le h.lt hb.size)
theorem Bx2.new (w : World) (x y : Int) : Bx2 (w.alloc (.cells #[.int .i64 x, .int .i64 y] 38)) w.heap.size x y :=
  ⟨World.cell?_alloc_new _ _ _ _, World.cell?_alloc_new _ _ _ _, fun o => by simp only [World.frozen?]; rw [heap_alloc_new]; simp, by simp⟩
theorem Bx2.set (h : Bx2 w b x y) (x' y' : Int) : Bx2 ((w.setCell ⟨b, 0, none⟩ (.int .i64 x')).setCell ⟨b, 1, none⟩ (.int .i64 y')) b x' y' := by
  have h0 := h.c0
  have h1 := h.c1
  exact ⟨by simp [go_sem, h0, h1], by simp [go_sem, h0, h1], fun o => by simp [go_sem, h.fr], by simp [World.setCell]; exact h.lt⟩
theorem Bx2.other (h : Bx2 w b x y) (hne : b ≠ b') (u v : Value) : Bx2 ((w.setCell ⟨b', 0, none⟩ u).setCell ⟨b', 1, none⟩ v) b x y :=
  h.keep ((Deep.blk_setCell_other _ _ _ _ hne).trans (Deep.blk_setCell_other _ _ _ _ hne)) (by simp [World.setCell]; exact h.lt)
end

end Go.Proofs.YtpckhpkbdanjoaaDoor
