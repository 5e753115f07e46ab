/-
  No cell of these rows narrows 'for every input' (looked for: loops, veiled, ifaces, maps, wideKeys, modest, calm, conditions, laid).
  DERIVED. THE GIVEN ROWS OF THIS SEAT. 4 by the template 'for every input the law returns true; each argument reads behind the call as it read before'; 0 by the template 'total and deterministic' (their statements: YtaijbihjkbpoeaaTotals.lean).
  GIVEN WITH THE SEED: the statements are not yours to turn. If you find one false, say at which input.
  Laid BY PROGRAM, IN A SANDBOX (cutbox-rows.mjs): the forced cells as the released guide's own fill.sh prints them over the translation ff72e7322f6cfbbd… (all of the seat's roots in one cut). By AI agents, Wed Nov 11 2026. No macro, syntax, notation, axiom, sorry.
-/
import Derived.Test.YtaijbihjkbpoeaaChecked
import GoSem.Claim
import GoSem.ClaimJoined
import GoSem.ClaimMapViews
import Derived.JoinedTies
import Derived.KernelRfl
namespace Go.Proofs.Ytaijbihjkbpoeaa
/- THE CELL 'sum', in the pinned program and in every row, IS THE sha256 OF THE DUMP (.gsa) THAT YtaijbihjkbpoeaaProg.lean LOADS. Nothing in Lean hashes anything: it is a label: what it is worth is what the hold of that sum in a sandbox is worth. -/
noncomputable def Try.pinned : Pinned := { name := "ytaijbihjkbpoeaa", sum := "ff72e7322f6cfbbda7360c8aa7342c7222f1abc86066b3267ee4dac24c462ca6", checked := Try.checked }
namespace Rows
def none {H : Type} : Left H := { results := [], args := [] }

/-- 'laws.FnExactReliefPlan': WHATEVER THE INPUT: true; the input reads as it did. -/
def fnExactReliefPlanSpec : ChangeSpec := { name := "fnExactReliefPlan", fn := fun _ => fun
  | [d1, d2, d3, d4, d5] => { results := [.lit (.bool true)], args := [d1, d2, d3, d4, d5] }
  | _ => none }
def fnExactReliefPlanRow : OpenClaim := { program := "ytaijbihjkbpoeaa", sum := "ff72e7322f6cfbbda7360c8aa7342c7222f1abc86066b3267ee4dac24c462ca6", func := "loop.example/g01020/laws.FnExactReliefPlan", spec := "fnExactReliefPlan", apart := false }
def FnExactReliefPlanSaid : Prop := fnExactReliefPlanRow.holds Try.pinned (OpenSpec.ofChange fnExactReliefPlanSpec)

/-- ITS FALSE NEIGHBOUR: 'it returns false'. Refute it at one input. -/
def fnExactReliefPlanWrong : ChangeSpec := { name := "fnExactReliefPlan", fn := fun _ => fun
  | [d1, d2, d3, d4, d5] => { results := [.lit (.bool false)], args := [d1, d2, d3, d4, d5] }
  | _ => none }
def FnExactReliefPlanWrongFalsely : Prop := fnExactReliefPlanRow.holds Try.pinned (OpenSpec.ofChange fnExactReliefPlanWrong)

/-- 'laws.FnExactAddPeriod': WHATEVER THE INPUT: true; the input reads as it did. -/
def fnExactAddPeriodSpec : ChangeSpec := { name := "fnExactAddPeriod", fn := fun _ => fun
  | [d1, d2] => { results := [.lit (.bool true)], args := [d1, d2] }
  | _ => none }
def fnExactAddPeriodRow : OpenClaim := { program := "ytaijbihjkbpoeaa", sum := "ff72e7322f6cfbbda7360c8aa7342c7222f1abc86066b3267ee4dac24c462ca6", func := "loop.example/g01020/laws.FnExactAddPeriod", spec := "fnExactAddPeriod", inPlace := ["slices.overlaps[loop.example/g01020/impl.Period]"], unfollowed := true, recurses := true, apart := false }
def FnExactAddPeriodSaid : Prop := fnExactAddPeriodRow.holds Try.pinned (OpenSpec.ofChange fnExactAddPeriodSpec)

/-- ITS FALSE NEIGHBOUR: 'it returns false'. Refute it at one input. -/
def fnExactAddPeriodWrong : ChangeSpec := { name := "fnExactAddPeriod", fn := fun _ => fun
  | [d1, d2] => { results := [.lit (.bool false)], args := [d1, d2] }
  | _ => none }
def FnExactAddPeriodWrongFalsely : Prop := fnExactAddPeriodRow.holds Try.pinned (OpenSpec.ofChange fnExactAddPeriodWrong)

/-- 'laws.FnExactCrewsAt': WHATEVER THE INPUT: true; the input reads as it did. -/
def fnExactCrewsAtSpec : ChangeSpec := { name := "fnExactCrewsAt", fn := fun _ => fun
  | [d1, d2] => { results := [.lit (.bool true)], args := [d1, d2] }
  | _ => none }
def fnExactCrewsAtRow : OpenClaim := { program := "ytaijbihjkbpoeaa", sum := "ff72e7322f6cfbbda7360c8aa7342c7222f1abc86066b3267ee4dac24c462ca6", func := "loop.example/g01020/laws.FnExactCrewsAt", spec := "fnExactCrewsAt", unfollowed := true, recurses := true, apart := false }
def FnExactCrewsAtSaid : Prop := fnExactCrewsAtRow.holds Try.pinned (OpenSpec.ofChange fnExactCrewsAtSpec)

/-- ITS FALSE NEIGHBOUR: 'it returns false'. Refute it at one input. -/
def fnExactCrewsAtWrong : ChangeSpec := { name := "fnExactCrewsAt", fn := fun _ => fun
  | [d1, d2] => { results := [.lit (.bool false)], args := [d1, d2] }
  | _ => none }
def FnExactCrewsAtWrongFalsely : Prop := fnExactCrewsAtRow.holds Try.pinned (OpenSpec.ofChange fnExactCrewsAtWrong)

/-- 'laws.FnExactDueCrews': WHATEVER THE INPUT: true; the input reads as it did. -/
def fnExactDueCrewsSpec : ChangeSpec := { name := "fnExactDueCrews", fn := fun _ => fun
  | [d1, d2, d3] => { results := [.lit (.bool true)], args := [d1, d2, d3] }
  | _ => none }
def fnExactDueCrewsRow : OpenClaim := { program := "ytaijbihjkbpoeaa", sum := "ff72e7322f6cfbbda7360c8aa7342c7222f1abc86066b3267ee4dac24c462ca6", func := "loop.example/g01020/laws.FnExactDueCrews", spec := "fnExactDueCrews", unfollowed := true, recurses := true, apart := false }
def FnExactDueCrewsSaid : Prop := fnExactDueCrewsRow.holds Try.pinned (OpenSpec.ofChange fnExactDueCrewsSpec)

/-- ITS FALSE NEIGHBOUR: 'it returns false'. Refute it at one input. -/
def fnExactDueCrewsWrong : ChangeSpec := { name := "fnExactDueCrews", fn := fun _ => fun
  | [d1, d2, d3] => { results := [.lit (.bool false)], args := [d1, d2, d3] }
  | _ => none }
def FnExactDueCrewsWrongFalsely : Prop := fnExactDueCrewsRow.holds Try.pinned (OpenSpec.ofChange fnExactDueCrewsWrong)

/- THE SECOND FORM. 'bulk': how many values and letters a reading holds, each counted each time it is reached (what is shared counts as often as it is met; a slice's spare places count too). A statement '..UptoSaid' is the law's where the arguments, and the package variables that the reading takes, are together of bulk at most 1048576: NARROWER than '..Said'. Prove '..Said' where nothing that the law and all that it calls make is longer than what came in: it says more and counts as full. Else prove '..UptoSaid'. A law counts once. -/
mutual
def uptoBulk {H : Type} : DataW H → Nat
  | .lit (.string bytes) => bytes.length + 1
  | .lit _ => 1
  | .nil => 1
  | .ptr d => uptoBulk d + 1
  | .slice elems spare => uptoBulkAll elems + uptoBulkAll spare + 1
  | .agg parts => uptoBulkAll parts + 1
  | .iface _ d => uptoBulk d + 1
  | .map entries => uptoBulkEntries entries + 1
  | .held _ => 1
def uptoBulkAll {H : Type} : List (DataW H) → Nat
  | [] => 0
  | d :: r => uptoBulk d + uptoBulkAll r
def uptoBulkEntries {H : Type} : List (Lit × DataW H) → Nat
  | [] => 0
  | x :: r => uptoBulkEntry x + uptoBulkEntries r
def uptoBulkEntry {H : Type} : Lit × DataW H → Nat
  | (.string bytes, d) => bytes.length + uptoBulk d + 1
  | (_, d) => uptoBulk d + 1
 end
def uptoSmall : (H : Type) → List (DataW H) → Bool := fun _ ds => decide (uptoBulkAll ds ≤ 1048576)
def OpenSpec.upto (s : _root_.Go.ChangeSpec) : _root_.Go.OpenSpec := { _root_.Go.OpenSpec.ofChange s with cond := some uptoSmall }

/-- 'laws.FnExactReliefPlan', WHERE WHAT IT READS IS OF BULK AT MOST 1048576: true; the input reads as it did. -/
def fnExactReliefPlanUptoRow : OpenClaim := { program := "ytaijbihjkbpoeaa", sum := "ff72e7322f6cfbbda7360c8aa7342c7222f1abc86066b3267ee4dac24c462ca6", func := "loop.example/g01020/laws.FnExactReliefPlan", spec := "fnExactReliefPlan", apart := false, narrowed := true }
def FnExactReliefPlanUptoSaid : Prop := fnExactReliefPlanUptoRow.holds Try.pinned (OpenSpec.upto fnExactReliefPlanSpec)

/-- 'laws.FnExactAddPeriod', WHERE WHAT IT READS IS OF BULK AT MOST 1048576: true; the input reads as it did. -/
def fnExactAddPeriodUptoRow : OpenClaim := { program := "ytaijbihjkbpoeaa", sum := "ff72e7322f6cfbbda7360c8aa7342c7222f1abc86066b3267ee4dac24c462ca6", func := "loop.example/g01020/laws.FnExactAddPeriod", spec := "fnExactAddPeriod", inPlace := ["slices.overlaps[loop.example/g01020/impl.Period]"], unfollowed := true, recurses := true, apart := false, narrowed := true }
def FnExactAddPeriodUptoSaid : Prop := fnExactAddPeriodUptoRow.holds Try.pinned (OpenSpec.upto fnExactAddPeriodSpec)

/-- 'laws.FnExactCrewsAt', WHERE WHAT IT READS IS OF BULK AT MOST 1048576: true; the input reads as it did. -/
def fnExactCrewsAtUptoRow : OpenClaim := { program := "ytaijbihjkbpoeaa", sum := "ff72e7322f6cfbbda7360c8aa7342c7222f1abc86066b3267ee4dac24c462ca6", func := "loop.example/g01020/laws.FnExactCrewsAt", spec := "fnExactCrewsAt", unfollowed := true, recurses := true, apart := false, narrowed := true }
def FnExactCrewsAtUptoSaid : Prop := fnExactCrewsAtUptoRow.holds Try.pinned (OpenSpec.upto fnExactCrewsAtSpec)

/-- 'laws.FnExactDueCrews', WHERE WHAT IT READS IS OF BULK AT MOST 1048576: true; the input reads as it did. -/
def fnExactDueCrewsUptoRow : OpenClaim := { program := "ytaijbihjkbpoeaa", sum := "ff72e7322f6cfbbda7360c8aa7342c7222f1abc86066b3267ee4dac24c462ca6", func := "loop.example/g01020/laws.FnExactDueCrews", spec := "fnExactDueCrews", unfollowed := true, recurses := true, apart := false, narrowed := true }
def FnExactDueCrewsUptoSaid : Prop := fnExactDueCrewsUptoRow.holds Try.pinned (OpenSpec.upto fnExactDueCrewsSpec)

end Rows
end Go.Proofs.Ytaijbihjkbpoeaa
