/-
  Regions that draw their order, two operations that write at choice: a tree of orders.
-/
import Derived.Test.YtpckhpkbdanjoaaDoorMix
namespace Go.Proofs.YtpckhpkbdanjoaaDoor
set_option linter.unusedVariables false
set_option linter.unusedSimpArgs false
open Go

inductive MT where
  | nil : MT
  | step (k : Nat) (b : Bool) (t : MT) : MT
  | fork (i : Nat) (s : MT) (j : Nat) (t : MT) : MT
def MT.len : MT → Nat
  | .nil => 0
  | .step _ _ t => t.len + 1
  | .fork _ s _ _ => s.len + 1
section
variable {P : Program} {ops : Array Oper} {md : Region.Mode} {C : World → Prop} {Q : Act → World → Prop}
def MT.from (md : Region.Mode) (ops : Array Oper) : MT → Array Bool → Bool
  | .nil, listed => (Region.ready md ops listed).isEmpty
  | .step k b r, listed => (if b then (Region.ready md ops listed).contains k && Region.free md ops listed k else Region.ready md ops listed == [k]) && r.from md ops (listed.setIfInBounds k true)
  | .fork i s j t, listed => Region.ready md ops listed == [i, j] && (s.len == t.len) && s.from md ops (listed.setIfInBounds i true) && t.from md ops (listed.setIfInBounds j true)
def wpMT (P : Program) (ops : Array Oper) (C : World → Prop) (Q : Act → World → Prop) : MT → Act → World → Prop
  | .nil, a, w => Q a w
  | .step k true r, a, w => ∃ o v, ops[k]? = some o ∧ YieldsAll P ops C o v a ∧ wpMT P ops C Q r (a.put o.dst v) w
  | .step k false r, a, w => eOp P ops k (fun a' w' => C w' ∧ wpMT P ops C Q r a' w') a w
  | .fork i s j t, a, w => eOp P ops i (fun a' w' => C w' ∧ wpMT P ops C Q s a' w') a w ∧ eOp P ops j (fun a' w' => C w' ∧ wpMT P ops C Q t a' w') a w
theorem wpAnyM_tree (hs : Region.noSelect ops = true) : ∀ (r : MT) (listed : Array Bool) (a : Act) (w : World), C w → r.from md ops listed = true → wpMT P ops C Q r a w → wpAnyM P md ops C Q r.len listed a w
  | .nil, _, _, _, _, hB, h => ⟨by simpa [MT.from] using hB, h⟩
  | .step k true r, listed, a, w, hC, hB, h => by
    simp only [MT.from, if_true, Bool.and_eq_true] at hB
    obtain ⟨⟨hr, hf⟩, hB'⟩ := hB
    obtain ⟨o, v, ho, hy, hK⟩ := h
    exact wpAnyM_first ho (Region.noSelect_spec hs) r.len listed a w hC (Region.free_spec ho hf) (by simpa using hr) hy (wpAnyM_tree hs r _ _ _ hC hB' hK)
  | .step k false r, listed, a, w, hC, hB, h => by
    simp only [MT.from, Bool.false_eq_true, if_false, Bool.and_eq_true, beq_iff_eq] at hB
    obtain ⟨hr, hB'⟩ := hB
    refine ⟨fun h0 => (by rw [hr] at h0; cases h0), fun i hi => ?_⟩
    rw [hr] at hi
    obtain rfl : i = k := by simpa using hi
    exact eOp_mono (fun a' w' h' => ⟨h'.1, wpAnyM_tree hs r _ a' w' h'.1 hB' h'.2⟩) h
  | .fork i s j t, listed, a, w, hC, hB, h => by
    simp only [MT.from, Bool.and_eq_true, beq_iff_eq] at hB
    obtain ⟨⟨⟨hr, hl⟩, hB1⟩, hB2⟩ := hB
    refine ⟨fun h0 => (by rw [hr] at h0; cases h0), fun k hk => ?_⟩
    rw [hr] at hk
    simp only [List.mem_cons, List.mem_nil_iff, or_false] at hk
    rcases hk with rfl | rfl
    · exact eOp_mono (fun a' w' h' => ⟨h'.1, wpAnyM_tree hs s _ a' w' h'.1 hB1 h'.2⟩) h.1
    · refine eOp_mono (fun a' w' h' => ⟨h'.1, ?_⟩) h.2
      rw [hl]
      exact wpAnyM_tree hs t _ a' w' h'.1 hB2 h'.2
theorem wp_region_tree {id : Nat} {Q : Exit → Act → World → Prop} {a : Act} {w : World} {l : List Oper} (r : MT) (C : World → Prop) (hm : P.follows .mixedOrders = true) (hs : Region.noSelect l.toArray = true) (hl : r.len = l.toArray.size)
    (hB : r.from .any l.toArray (Array.replicate l.toArray.size false) = true) (hC : C { w with drawn := w.drawn + 1 })
    (h : wpMT P l.toArray C (fun a' w' => Q .normal a' w') r a { w with drawn := w.drawn + 1 }) : (Code.region id l.toArray true).wp P Q a w := by
  refine wp_region_any hm (wpAny_of_M (C := C) (Q := fun a' w' => Q .normal a' w') (fun _ _ h => h) _ _ _ _ ?_)
  rw [← hl]
  exact wpAnyM_tree hs r _ a _ hC (by rw [hl]; exact hB) h
theorem tree_look {k : Nat} {r : MT} {a : Act} {w : World} (o : Oper) (v : Value) (hk : ops[k]? = some o) (hw : Region.wanted o (yielded ops a.tmps) = true) (hv : ∀ w, C w → (execOp a.eval o).run P w = .ok (.value v) w)
    (h : wpMT P ops C Q r (a.put o.dst v) w) : wpMT P ops C Q (.step k true r) a w := ⟨o, v, hk, .inl ⟨hw, hv⟩, h⟩
theorem tree_value {k : Nat} {r : MT} {a : Act} {w : World} (o : Oper) (v : Value) (w' : World) (hk : ops[k]? = some o) (hw : Region.wanted o (yielded ops a.tmps) = true) (hv : (execOp a.eval o).run P w = .ok (.value v) w') (hC : C w')
    (h : wpMT P ops C Q r (a.put o.dst v) w') : eOp P ops k (fun a' w' => C w' ∧ wpMT P ops C Q r a' w') a w := by
  unfold eOp
  simp only [hk, hw, if_true, hv, goesUpon]
  exact ⟨hC, h⟩
theorem wpMT_eff {k : Nat} {r : MT} {a : Act} {w : World} (h : eOp P ops k (fun a' w' => C w' ∧ wpMT P ops C Q r a' w') a w) : wpMT P ops C Q (.step k false r) a w := h
theorem wpMT_fork {i j : Nat} {s t : MT} {a : Act} {w : World} (h : eOp P ops i (fun a' w' => C w' ∧ wpMT P ops C Q s a' w') a w) (h' : eOp P ops j (fun a' w' => C w' ∧ wpMT P ops C Q t a' w') a w) : wpMT P ops C Q (.fork i s j t) a w := ⟨h, h'⟩
theorem wpMT_nil {a : Act} {w : World} (h : Q a w) : wpMT P ops C Q .nil a w := h
end

end Go.Proofs.YtpckhpkbdanjoaaDoor
