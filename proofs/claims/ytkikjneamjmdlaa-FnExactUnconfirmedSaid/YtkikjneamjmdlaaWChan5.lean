/-
  Walks: what was received of a name: the program's IndexFunc over the messages.
-/
import Derived.Test.YtkikjneamjmdlaaWChan4
namespace Go.Proofs.Ytkikjneamjmdlaa
set_option linter.unusedVariables false
set_option linter.unusedSimpArgs false
open Go.RowKit


end Go.Proofs.Ytkikjneamjmdlaa
