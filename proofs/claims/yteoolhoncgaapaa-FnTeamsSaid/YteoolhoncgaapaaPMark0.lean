/-
  Marks alone (a seat without marks has 'Only' from here).
-/
import Derived.Test.YteoolhoncgaapaaMarks
namespace Go.Proofs.Yteoolhoncgaapaa
set_option linter.unusedVariables false
set_option linter.unusedSimpArgs false
end Go.Proofs.Yteoolhoncgaapaa
