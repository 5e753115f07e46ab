/-
  No cell of these rows narrows 'for every input' (looked for: loops, veiled, ifaces, maps, wideKeys, modest, calm, conditions, laid).
  DERIVED. THE GIVEN ROWS OF THIS SEAT. 6 by the template 'for every input the law returns true; each argument reads behind the call as it read before'; 0 by the template 'total and deterministic' (their statements: YteaiiccdplfakaaTotals.lean).
  GIVEN WITH THE SEED: the statements are not yours to turn. If you find one false, say at which input.
  Laid BY PROGRAM, IN A SANDBOX (cutbox-rows.mjs): the forced cells as the released guide's own fill.sh prints them over the translation 4f75781d0a48709b… (all of the seat's roots in one cut). By AI agents, Wed Nov 11 2026. No macro, syntax, notation, axiom, sorry.
-/
import Derived.Test.YteaiiccdplfakaaChecked
import GoSem.Claim
import GoSem.ClaimJoined
import GoSem.ClaimMapViews
import Derived.JoinedTies
import Derived.KernelRfl
namespace Go.Proofs.Yteaiiccdplfakaa
/- THE CELL 'sum', in the pinned program and in every row, IS THE sha256 OF THE DUMP (.gsa) THAT YteaiiccdplfakaaProg.lean LOADS. Nothing in Lean hashes anything: it is a label: what it is worth is what the hold of that sum in a sandbox is worth. -/
noncomputable def Try.pinned : Pinned := { name := "yteaiiccdplfakaa", sum := "4f75781d0a48709b1f152f41ad6f3478b1ef8d7015e49d5cc0e14e2ff1c35c32", checked := Try.checked }
namespace Rows
def none {H : Type} : Left H := { results := [], args := [] }

/-- 'laws.FnExactIsMessage': WHATEVER THE INPUT: true; the input reads as it did. -/
def fnExactIsMessageSpec : ChangeSpec := { name := "fnExactIsMessage", fn := fun _ => fun
  | [d] => { results := [.lit (.bool true)], args := [d] }
  | _ => none }
def fnExactIsMessageRow : OpenClaim := { program := "yteaiiccdplfakaa", sum := "4f75781d0a48709b1f152f41ad6f3478b1ef8d7015e49d5cc0e14e2ff1c35c32", func := "loop.example/g01020/laws.FnExactIsMessage", spec := "fnExactIsMessage", apart := false }
def FnExactIsMessageSaid : Prop := fnExactIsMessageRow.holds Try.pinned (OpenSpec.ofChange fnExactIsMessageSpec)

/-- ITS FALSE NEIGHBOUR: 'it returns false'. Refute it at one input. -/
def fnExactIsMessageWrong : ChangeSpec := { name := "fnExactIsMessage", fn := fun _ => fun
  | [d] => { results := [.lit (.bool false)], args := [d] }
  | _ => none }
def FnExactIsMessageWrongFalsely : Prop := fnExactIsMessageRow.holds Try.pinned (OpenSpec.ofChange fnExactIsMessageWrong)

/-- 'laws.FnExactIsChannel': WHATEVER THE INPUT: true; the input reads as it did. -/
def fnExactIsChannelSpec : ChangeSpec := { name := "fnExactIsChannel", fn := fun _ => fun
  | [d] => { results := [.lit (.bool true)], args := [d] }
  | _ => none }
def fnExactIsChannelRow : OpenClaim := { program := "yteaiiccdplfakaa", sum := "4f75781d0a48709b1f152f41ad6f3478b1ef8d7015e49d5cc0e14e2ff1c35c32", func := "loop.example/g01020/laws.FnExactIsChannel", spec := "fnExactIsChannel", apart := false }
def FnExactIsChannelSaid : Prop := fnExactIsChannelRow.holds Try.pinned (OpenSpec.ofChange fnExactIsChannelSpec)

/-- ITS FALSE NEIGHBOUR: 'it returns false'. Refute it at one input. -/
def fnExactIsChannelWrong : ChangeSpec := { name := "fnExactIsChannel", fn := fun _ => fun
  | [d] => { results := [.lit (.bool false)], args := [d] }
  | _ => none }
def FnExactIsChannelWrongFalsely : Prop := fnExactIsChannelRow.holds Try.pinned (OpenSpec.ofChange fnExactIsChannelWrong)

/-- 'laws.FnExactWasReceived': WHATEVER THE INPUT: true; the input reads as it did. -/
def fnExactWasReceivedSpec : ChangeSpec := { name := "fnExactWasReceived", fn := fun _ => fun
  | [d1, d2, d3] => { results := [.lit (.bool true)], args := [d1, d2, d3] }
  | _ => none }
def fnExactWasReceivedRow : OpenClaim := { program := "yteaiiccdplfakaa", sum := "4f75781d0a48709b1f152f41ad6f3478b1ef8d7015e49d5cc0e14e2ff1c35c32", func := "loop.example/g01020/laws.FnExactWasReceived", spec := "fnExactWasReceived", unfollowed := true, recurses := true, apart := false }
def FnExactWasReceivedSaid : Prop := fnExactWasReceivedRow.holds Try.pinned (OpenSpec.ofChange fnExactWasReceivedSpec)

/-- ITS FALSE NEIGHBOUR: 'it returns false'. Refute it at one input. -/
def fnExactWasReceivedWrong : ChangeSpec := { name := "fnExactWasReceived", fn := fun _ => fun
  | [d1, d2, d3] => { results := [.lit (.bool false)], args := [d1, d2, d3] }
  | _ => none }
def FnExactWasReceivedWrongFalsely : Prop := fnExactWasReceivedRow.holds Try.pinned (OpenSpec.ofChange fnExactWasReceivedWrong)

/-- 'laws.FnExactLastOf': WHATEVER THE INPUT: true; the input reads as it did. -/
def fnExactLastOfSpec : ChangeSpec := { name := "fnExactLastOf", fn := fun _ => fun
  | [d1, d2] => { results := [.lit (.bool true)], args := [d1, d2] }
  | _ => none }
def fnExactLastOfRow : OpenClaim := { program := "yteaiiccdplfakaa", sum := "4f75781d0a48709b1f152f41ad6f3478b1ef8d7015e49d5cc0e14e2ff1c35c32", func := "loop.example/g01020/laws.FnExactLastOf", spec := "fnExactLastOf", apart := false }
def FnExactLastOfSaid : Prop := fnExactLastOfRow.holds Try.pinned (OpenSpec.ofChange fnExactLastOfSpec)

/-- ITS FALSE NEIGHBOUR: 'it returns false'. Refute it at one input. -/
def fnExactLastOfWrong : ChangeSpec := { name := "fnExactLastOf", fn := fun _ => fun
  | [d1, d2] => { results := [.lit (.bool false)], args := [d1, d2] }
  | _ => none }
def FnExactLastOfWrongFalsely : Prop := fnExactLastOfRow.holds Try.pinned (OpenSpec.ofChange fnExactLastOfWrong)

/-- 'laws.FnExactNextInOrder': WHATEVER THE INPUT: true; the input reads as it did. -/
def fnExactNextInOrderSpec : ChangeSpec := { name := "fnExactNextInOrder", fn := fun _ => fun
  | [d1, d2] => { results := [.lit (.bool true)], args := [d1, d2] }
  | _ => none }
def fnExactNextInOrderRow : OpenClaim := { program := "yteaiiccdplfakaa", sum := "4f75781d0a48709b1f152f41ad6f3478b1ef8d7015e49d5cc0e14e2ff1c35c32", func := "loop.example/g01020/laws.FnExactNextInOrder", spec := "fnExactNextInOrder", unfollowed := true, recurses := true, apart := false }
def FnExactNextInOrderSaid : Prop := fnExactNextInOrderRow.holds Try.pinned (OpenSpec.ofChange fnExactNextInOrderSpec)

/-- ITS FALSE NEIGHBOUR: 'it returns false'. Refute it at one input. -/
def fnExactNextInOrderWrong : ChangeSpec := { name := "fnExactNextInOrder", fn := fun _ => fun
  | [d1, d2] => { results := [.lit (.bool false)], args := [d1, d2] }
  | _ => none }
def FnExactNextInOrderWrongFalsely : Prop := fnExactNextInOrderRow.holds Try.pinned (OpenSpec.ofChange fnExactNextInOrderWrong)

/-- 'laws.FnExactUnconfirmed': WHATEVER THE INPUT: true; the input reads as it did. -/
def fnExactUnconfirmedSpec : ChangeSpec := { name := "fnExactUnconfirmed", fn := fun _ => fun
  | [d] => { results := [.lit (.bool true)], args := [d] }
  | _ => none }
def fnExactUnconfirmedRow : OpenClaim := { program := "yteaiiccdplfakaa", sum := "4f75781d0a48709b1f152f41ad6f3478b1ef8d7015e49d5cc0e14e2ff1c35c32", func := "loop.example/g01020/laws.FnExactUnconfirmed", spec := "fnExactUnconfirmed", unfollowed := true, recurses := true, apart := false }
def FnExactUnconfirmedSaid : Prop := fnExactUnconfirmedRow.holds Try.pinned (OpenSpec.ofChange fnExactUnconfirmedSpec)

/-- ITS FALSE NEIGHBOUR: 'it returns false'. Refute it at one input. -/
def fnExactUnconfirmedWrong : ChangeSpec := { name := "fnExactUnconfirmed", fn := fun _ => fun
  | [d] => { results := [.lit (.bool false)], args := [d] }
  | _ => none }
def FnExactUnconfirmedWrongFalsely : Prop := fnExactUnconfirmedRow.holds Try.pinned (OpenSpec.ofChange fnExactUnconfirmedWrong)

/- THE SECOND FORM. 'bulk': how many values and letters a reading holds, each counted each time it is reached (what is shared counts as often as it is met; a slice's spare places count too). A statement '..UptoSaid' is the law's where the arguments, and the package variables that the reading takes, are together of bulk at most 1048576: NARROWER than '..Said'. Prove '..Said' where nothing that the law and all that it calls make is longer than what came in: it says more and counts as full. Else prove '..UptoSaid'. A law counts once. -/
mutual
def uptoBulk {H : Type} : DataW H → Nat
  | .lit (.string bytes) => bytes.length + 1
  | .lit _ => 1
  | .nil => 1
  | .ptr d => uptoBulk d + 1
  | .slice elems spare => uptoBulkAll elems + uptoBulkAll spare + 1
  | .agg parts => uptoBulkAll parts + 1
  | .iface _ d => uptoBulk d + 1
  | .map entries => uptoBulkEntries entries + 1
  | .held _ => 1
def uptoBulkAll {H : Type} : List (DataW H) → Nat
  | [] => 0
  | d :: r => uptoBulk d + uptoBulkAll r
def uptoBulkEntries {H : Type} : List (Lit × DataW H) → Nat
  | [] => 0
  | x :: r => uptoBulkEntry x + uptoBulkEntries r
def uptoBulkEntry {H : Type} : Lit × DataW H → Nat
  | (.string bytes, d) => bytes.length + uptoBulk d + 1
  | (_, d) => uptoBulk d + 1
 end
def uptoSmall : (H : Type) → List (DataW H) → Bool := fun _ ds => decide (uptoBulkAll ds ≤ 1048576)
def OpenSpec.upto (s : _root_.Go.ChangeSpec) : _root_.Go.OpenSpec := { _root_.Go.OpenSpec.ofChange s with cond := some uptoSmall }

/-- 'laws.FnExactIsMessage', WHERE WHAT IT READS IS OF BULK AT MOST 1048576: true; the input reads as it did. -/
def fnExactIsMessageUptoRow : OpenClaim := { program := "yteaiiccdplfakaa", sum := "4f75781d0a48709b1f152f41ad6f3478b1ef8d7015e49d5cc0e14e2ff1c35c32", func := "loop.example/g01020/laws.FnExactIsMessage", spec := "fnExactIsMessage", apart := false, narrowed := true }
def FnExactIsMessageUptoSaid : Prop := fnExactIsMessageUptoRow.holds Try.pinned (OpenSpec.upto fnExactIsMessageSpec)

/-- 'laws.FnExactIsChannel', WHERE WHAT IT READS IS OF BULK AT MOST 1048576: true; the input reads as it did. -/
def fnExactIsChannelUptoRow : OpenClaim := { program := "yteaiiccdplfakaa", sum := "4f75781d0a48709b1f152f41ad6f3478b1ef8d7015e49d5cc0e14e2ff1c35c32", func := "loop.example/g01020/laws.FnExactIsChannel", spec := "fnExactIsChannel", apart := false, narrowed := true }
def FnExactIsChannelUptoSaid : Prop := fnExactIsChannelUptoRow.holds Try.pinned (OpenSpec.upto fnExactIsChannelSpec)

/-- 'laws.FnExactWasReceived', WHERE WHAT IT READS IS OF BULK AT MOST 1048576: true; the input reads as it did. -/
def fnExactWasReceivedUptoRow : OpenClaim := { program := "yteaiiccdplfakaa", sum := "4f75781d0a48709b1f152f41ad6f3478b1ef8d7015e49d5cc0e14e2ff1c35c32", func := "loop.example/g01020/laws.FnExactWasReceived", spec := "fnExactWasReceived", unfollowed := true, recurses := true, apart := false, narrowed := true }
def FnExactWasReceivedUptoSaid : Prop := fnExactWasReceivedUptoRow.holds Try.pinned (OpenSpec.upto fnExactWasReceivedSpec)

/-- 'laws.FnExactLastOf', WHERE WHAT IT READS IS OF BULK AT MOST 1048576: true; the input reads as it did. -/
def fnExactLastOfUptoRow : OpenClaim := { program := "yteaiiccdplfakaa", sum := "4f75781d0a48709b1f152f41ad6f3478b1ef8d7015e49d5cc0e14e2ff1c35c32", func := "loop.example/g01020/laws.FnExactLastOf", spec := "fnExactLastOf", apart := false, narrowed := true }
def FnExactLastOfUptoSaid : Prop := fnExactLastOfUptoRow.holds Try.pinned (OpenSpec.upto fnExactLastOfSpec)

/-- 'laws.FnExactNextInOrder', WHERE WHAT IT READS IS OF BULK AT MOST 1048576: true; the input reads as it did. -/
def fnExactNextInOrderUptoRow : OpenClaim := { program := "yteaiiccdplfakaa", sum := "4f75781d0a48709b1f152f41ad6f3478b1ef8d7015e49d5cc0e14e2ff1c35c32", func := "loop.example/g01020/laws.FnExactNextInOrder", spec := "fnExactNextInOrder", unfollowed := true, recurses := true, apart := false, narrowed := true }
def FnExactNextInOrderUptoSaid : Prop := fnExactNextInOrderUptoRow.holds Try.pinned (OpenSpec.upto fnExactNextInOrderSpec)

/-- 'laws.FnExactUnconfirmed', WHERE WHAT IT READS IS OF BULK AT MOST 1048576: true; the input reads as it did. -/
def fnExactUnconfirmedUptoRow : OpenClaim := { program := "yteaiiccdplfakaa", sum := "4f75781d0a48709b1f152f41ad6f3478b1ef8d7015e49d5cc0e14e2ff1c35c32", func := "loop.example/g01020/laws.FnExactUnconfirmed", spec := "fnExactUnconfirmed", unfollowed := true, recurses := true, apart := false, narrowed := true }
def FnExactUnconfirmedUptoSaid : Prop := fnExactUnconfirmedUptoRow.holds Try.pinned (OpenSpec.upto fnExactUnconfirmedSpec)

end Rows
end Go.Proofs.Yteaiiccdplfakaa
