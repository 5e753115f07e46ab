/-
  One more step of a region that draws its order by a tree: a call.
-/
import Derived.Test.YtmonfljjdngfeaaDoorMix2
namespace Go.Proofs.YtmonfljjdngfeaaDoor
set_option linter.unusedVariables false
set_option linter.unusedSimpArgs false
open Go Go.RowKit

theorem tree_calls {P : Program} {ops : Array Oper} {C : World → Prop} {Q : Act → World → Prop} {k : Nat} {r : MT} {a : Act} {w : World} (o : Oper) (f : FuncId) (args : Array Value) (hk : ops[k]? = some o) (hw : Region.wanted o (yielded ops a.tmps) = true) (hv : (execOp a.eval o).run P w = .ok (.enter f args) w)
    (h : Calls P f args w fun e w'' => ∃ v, e = .returned v ∧ C w'' ∧ wpMT P ops C Q r (a.put o.dst v) w'') : eOp P ops k (fun a' w' => C w' ∧ wpMT P ops C Q r a' w') a w := by
  unfold eOp
  simp only [hk, hw, if_true, hv, goesUpon]
  exact h

end Go.Proofs.YtmonfljjdngfeaaDoor
