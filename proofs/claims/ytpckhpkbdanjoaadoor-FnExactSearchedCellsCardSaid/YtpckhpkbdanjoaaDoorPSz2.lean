/-
  How much of a budget a list of texts takes: no more than there is.
-/
import Derived.Test.YtpckhpkbdanjoaaDoorPSz
namespace Go.Proofs.YtpckhpkbdanjoaaDoor
set_option linter.unusedVariables false
set_option linter.unusedSimpArgs false

theorem szPF_le (c : Nat → ByteArray) (n : Nat) : szPF 1048576 c n ≤ 1048576 := by
  unfold szPF
  split
  · omega
  · have := (szP_le (left := 1048576 - n) (a := fun i => (c i).size) (by omega) n).2
    omega

end Go.Proofs.YtpckhpkbdanjoaaDoor
