/-
  Walks: the laws' own helpers for Check: copies, comparisons, sizes (printed by gen_data.py).
-/
import Derived.Test.YteoolhoncgaapaaCells
namespace Go.Proofs.Yteoolhoncgaapaa
set_option linter.unusedVariables false
set_option linter.unusedSimpArgs false
open Go.RowKit


end Go.Proofs.Yteoolhoncgaapaa
