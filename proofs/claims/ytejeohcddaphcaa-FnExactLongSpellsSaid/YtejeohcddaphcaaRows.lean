/-
  No cell of these rows narrows 'for every input' (looked for: loops, veiled, ifaces, maps, wideKeys, modest, calm, conditions, laid).
  DERIVED. THE GIVEN ROWS OF THIS SEAT. 8 by the template 'for every input the law returns true; each argument reads behind the call as it read before'; 0 by the template 'total and deterministic' (their statements: YtejeohcddaphcaaTotals.lean).
  GIVEN WITH THE SEED: the statements are not yours to turn. If you find one false, say at which input.
  Laid BY PROGRAM, IN A SANDBOX (cutbox-rows.mjs): the forced cells as the released guide's own fill.sh prints them over the translation 015c6268e693503a… (all of the seat's roots in one cut). By AI agents, Wed Nov 11 2026. No macro, syntax, notation, axiom, sorry.
-/
import Derived.Test.YtejeohcddaphcaaChecked
import GoSem.Claim
import GoSem.ClaimJoined
import GoSem.ClaimMapViews
import Derived.JoinedTies
import Derived.KernelRfl
namespace Go.Proofs.Ytejeohcddaphcaa
/- THE CELL 'sum', in the pinned program and in every row, IS THE sha256 OF THE DUMP (.gsa) THAT YtejeohcddaphcaaProg.lean LOADS. Nothing in Lean hashes anything: it is a label: what it is worth is what the hold of that sum in a sandbox is worth. -/
noncomputable def Try.pinned : Pinned := { name := "ytejeohcddaphcaa", sum := "015c6268e693503a5723f938d40b6614ce2922913069802c2175d9edd08201f2", checked := Try.checked }
namespace Rows
def none {H : Type} : Left H := { results := [], args := [] }

/-- 'laws.FnExactLeastCrews': WHATEVER THE INPUT: true; the input reads as it did. -/
def fnExactLeastCrewsSpec : ChangeSpec := { name := "fnExactLeastCrews", fn := fun _ => fun
  | [d1, d2, d3, d4] => { results := [.lit (.bool true)], args := [d1, d2, d3, d4] }
  | _ => none }
def fnExactLeastCrewsRow : OpenClaim := { program := "ytejeohcddaphcaa", sum := "015c6268e693503a5723f938d40b6614ce2922913069802c2175d9edd08201f2", func := "loop.example/g01020/laws.FnExactLeastCrews", spec := "fnExactLeastCrews", apart := false }
def FnExactLeastCrewsSaid : Prop := fnExactLeastCrewsRow.holds Try.pinned (OpenSpec.ofChange fnExactLeastCrewsSpec)

/-- ITS FALSE NEIGHBOUR: 'it returns false'. Refute it at one input. -/
def fnExactLeastCrewsWrong : ChangeSpec := { name := "fnExactLeastCrews", fn := fun _ => fun
  | [d1, d2, d3, d4] => { results := [.lit (.bool false)], args := [d1, d2, d3, d4] }
  | _ => none }
def FnExactLeastCrewsWrongFalsely : Prop := fnExactLeastCrewsRow.holds Try.pinned (OpenSpec.ofChange fnExactLeastCrewsWrong)

/-- 'laws.FnExactArePeriods': WHATEVER THE INPUT: true; the input reads as it did. -/
def fnExactArePeriodsSpec : ChangeSpec := { name := "fnExactArePeriods", fn := fun _ => fun
  | [d] => { results := [.lit (.bool true)], args := [d] }
  | _ => none }
def fnExactArePeriodsRow : OpenClaim := { program := "ytejeohcddaphcaa", sum := "015c6268e693503a5723f938d40b6614ce2922913069802c2175d9edd08201f2", func := "loop.example/g01020/laws.FnExactArePeriods", spec := "fnExactArePeriods", apart := false }
def FnExactArePeriodsSaid : Prop := fnExactArePeriodsRow.holds Try.pinned (OpenSpec.ofChange fnExactArePeriodsSpec)

/-- ITS FALSE NEIGHBOUR: 'it returns false'. Refute it at one input. -/
def fnExactArePeriodsWrong : ChangeSpec := { name := "fnExactArePeriods", fn := fun _ => fun
  | [d] => { results := [.lit (.bool false)], args := [d] }
  | _ => none }
def FnExactArePeriodsWrongFalsely : Prop := fnExactArePeriodsRow.holds Try.pinned (OpenSpec.ofChange fnExactArePeriodsWrong)

/-- 'laws.FnExactWorkedBy': WHATEVER THE INPUT: true; the input reads as it did. -/
def fnExactWorkedBySpec : ChangeSpec := { name := "fnExactWorkedBy", fn := fun _ => fun
  | [d1, d2, d3] => { results := [.lit (.bool true)], args := [d1, d2, d3] }
  | _ => none }
def fnExactWorkedByRow : OpenClaim := { program := "ytejeohcddaphcaa", sum := "015c6268e693503a5723f938d40b6614ce2922913069802c2175d9edd08201f2", func := "loop.example/g01020/laws.FnExactWorkedBy", spec := "fnExactWorkedBy", apart := false }
def FnExactWorkedBySaid : Prop := fnExactWorkedByRow.holds Try.pinned (OpenSpec.ofChange fnExactWorkedBySpec)

/-- ITS FALSE NEIGHBOUR: 'it returns false'. Refute it at one input. -/
def fnExactWorkedByWrong : ChangeSpec := { name := "fnExactWorkedBy", fn := fun _ => fun
  | [d1, d2, d3] => { results := [.lit (.bool false)], args := [d1, d2, d3] }
  | _ => none }
def FnExactWorkedByWrongFalsely : Prop := fnExactWorkedByRow.holds Try.pinned (OpenSpec.ofChange fnExactWorkedByWrong)

/-- 'laws.FnExactNextRelief': WHATEVER THE INPUT: true; the input reads as it did. -/
def fnExactNextReliefSpec : ChangeSpec := { name := "fnExactNextRelief", fn := fun _ => fun
  | [d1, d2, d3] => { results := [.lit (.bool true)], args := [d1, d2, d3] }
  | _ => none }
def fnExactNextReliefRow : OpenClaim := { program := "ytejeohcddaphcaa", sum := "015c6268e693503a5723f938d40b6614ce2922913069802c2175d9edd08201f2", func := "loop.example/g01020/laws.FnExactNextRelief", spec := "fnExactNextRelief", apart := false }
def FnExactNextReliefSaid : Prop := fnExactNextReliefRow.holds Try.pinned (OpenSpec.ofChange fnExactNextReliefSpec)

/-- ITS FALSE NEIGHBOUR: 'it returns false'. Refute it at one input. -/
def fnExactNextReliefWrong : ChangeSpec := { name := "fnExactNextRelief", fn := fun _ => fun
  | [d1, d2, d3] => { results := [.lit (.bool false)], args := [d1, d2, d3] }
  | _ => none }
def FnExactNextReliefWrongFalsely : Prop := fnExactNextReliefRow.holds Try.pinned (OpenSpec.ofChange fnExactNextReliefWrong)

/-- 'laws.FnExactIsDue': WHATEVER THE INPUT: true; the input reads as it did. -/
def fnExactIsDueSpec : ChangeSpec := { name := "fnExactIsDue", fn := fun _ => fun
  | [d1, d2, d3, d4] => { results := [.lit (.bool true)], args := [d1, d2, d3, d4] }
  | _ => none }
def fnExactIsDueRow : OpenClaim := { program := "ytejeohcddaphcaa", sum := "015c6268e693503a5723f938d40b6614ce2922913069802c2175d9edd08201f2", func := "loop.example/g01020/laws.FnExactIsDue", spec := "fnExactIsDue", apart := false }
def FnExactIsDueSaid : Prop := fnExactIsDueRow.holds Try.pinned (OpenSpec.ofChange fnExactIsDueSpec)

/-- ITS FALSE NEIGHBOUR: 'it returns false'. Refute it at one input. -/
def fnExactIsDueWrong : ChangeSpec := { name := "fnExactIsDue", fn := fun _ => fun
  | [d1, d2, d3, d4] => { results := [.lit (.bool false)], args := [d1, d2, d3, d4] }
  | _ => none }
def FnExactIsDueWrongFalsely : Prop := fnExactIsDueRow.holds Try.pinned (OpenSpec.ofChange fnExactIsDueWrong)

/-- 'laws.FnExactRestOf': WHATEVER THE INPUT: true; the input reads as it did. -/
def fnExactRestOfSpec : ChangeSpec := { name := "fnExactRestOf", fn := fun _ => fun
  | [d1, d2, d3] => { results := [.lit (.bool true)], args := [d1, d2, d3] }
  | _ => none }
def fnExactRestOfRow : OpenClaim := { program := "ytejeohcddaphcaa", sum := "015c6268e693503a5723f938d40b6614ce2922913069802c2175d9edd08201f2", func := "loop.example/g01020/laws.FnExactRestOf", spec := "fnExactRestOf", apart := false }
def FnExactRestOfSaid : Prop := fnExactRestOfRow.holds Try.pinned (OpenSpec.ofChange fnExactRestOfSpec)

/-- ITS FALSE NEIGHBOUR: 'it returns false'. Refute it at one input. -/
def fnExactRestOfWrong : ChangeSpec := { name := "fnExactRestOf", fn := fun _ => fun
  | [d1, d2, d3] => { results := [.lit (.bool false)], args := [d1, d2, d3] }
  | _ => none }
def FnExactRestOfWrongFalsely : Prop := fnExactRestOfRow.holds Try.pinned (OpenSpec.ofChange fnExactRestOfWrong)

/-- 'laws.FnExactShortRests': WHATEVER THE INPUT: true; the input reads as it did. -/
def fnExactShortRestsSpec : ChangeSpec := { name := "fnExactShortRests", fn := fun _ => fun
  | [d1, d2] => { results := [.lit (.bool true)], args := [d1, d2] }
  | _ => none }
def fnExactShortRestsRow : OpenClaim := { program := "ytejeohcddaphcaa", sum := "015c6268e693503a5723f938d40b6614ce2922913069802c2175d9edd08201f2", func := "loop.example/g01020/laws.FnExactShortRests", spec := "fnExactShortRests", apart := false }
def FnExactShortRestsSaid : Prop := fnExactShortRestsRow.holds Try.pinned (OpenSpec.ofChange fnExactShortRestsSpec)

/-- ITS FALSE NEIGHBOUR: 'it returns false'. Refute it at one input. -/
def fnExactShortRestsWrong : ChangeSpec := { name := "fnExactShortRests", fn := fun _ => fun
  | [d1, d2] => { results := [.lit (.bool false)], args := [d1, d2] }
  | _ => none }
def FnExactShortRestsWrongFalsely : Prop := fnExactShortRestsRow.holds Try.pinned (OpenSpec.ofChange fnExactShortRestsWrong)

/-- 'laws.FnExactLongSpells': WHATEVER THE INPUT: true; the input reads as it did. -/
def fnExactLongSpellsSpec : ChangeSpec := { name := "fnExactLongSpells", fn := fun _ => fun
  | [d1, d2] => { results := [.lit (.bool true)], args := [d1, d2] }
  | _ => none }
def fnExactLongSpellsRow : OpenClaim := { program := "ytejeohcddaphcaa", sum := "015c6268e693503a5723f938d40b6614ce2922913069802c2175d9edd08201f2", func := "loop.example/g01020/laws.FnExactLongSpells", spec := "fnExactLongSpells", apart := false }
def FnExactLongSpellsSaid : Prop := fnExactLongSpellsRow.holds Try.pinned (OpenSpec.ofChange fnExactLongSpellsSpec)

/-- ITS FALSE NEIGHBOUR: 'it returns false'. Refute it at one input. -/
def fnExactLongSpellsWrong : ChangeSpec := { name := "fnExactLongSpells", fn := fun _ => fun
  | [d1, d2] => { results := [.lit (.bool false)], args := [d1, d2] }
  | _ => none }
def FnExactLongSpellsWrongFalsely : Prop := fnExactLongSpellsRow.holds Try.pinned (OpenSpec.ofChange fnExactLongSpellsWrong)

/- THE SECOND FORM. 'bulk': how many values and letters a reading holds, each counted each time it is reached (what is shared counts as often as it is met; a slice's spare places count too). A statement '..UptoSaid' is the law's where the arguments, and the package variables that the reading takes, are together of bulk at most 1048576: NARROWER than '..Said'. Prove '..Said' where nothing that the law and all that it calls make is longer than what came in: it says more and counts as full. Else prove '..UptoSaid'. A law counts once. -/
mutual
def uptoBulk {H : Type} : DataW H → Nat
  | .lit (.string bytes) => bytes.length + 1
  | .lit _ => 1
  | .nil => 1
  | .ptr d => uptoBulk d + 1
  | .slice elems spare => uptoBulkAll elems + uptoBulkAll spare + 1
  | .agg parts => uptoBulkAll parts + 1
  | .iface _ d => uptoBulk d + 1
  | .map entries => uptoBulkEntries entries + 1
  | .held _ => 1
def uptoBulkAll {H : Type} : List (DataW H) → Nat
  | [] => 0
  | d :: r => uptoBulk d + uptoBulkAll r
def uptoBulkEntries {H : Type} : List (Lit × DataW H) → Nat
  | [] => 0
  | x :: r => uptoBulkEntry x + uptoBulkEntries r
def uptoBulkEntry {H : Type} : Lit × DataW H → Nat
  | (.string bytes, d) => bytes.length + uptoBulk d + 1
  | (_, d) => uptoBulk d + 1
 end
def uptoSmall : (H : Type) → List (DataW H) → Bool := fun _ ds => decide (uptoBulkAll ds ≤ 1048576)
def OpenSpec.upto (s : _root_.Go.ChangeSpec) : _root_.Go.OpenSpec := { _root_.Go.OpenSpec.ofChange s with cond := some uptoSmall }

/-- 'laws.FnExactLeastCrews', WHERE WHAT IT READS IS OF BULK AT MOST 1048576: true; the input reads as it did. -/
def fnExactLeastCrewsUptoRow : OpenClaim := { program := "ytejeohcddaphcaa", sum := "015c6268e693503a5723f938d40b6614ce2922913069802c2175d9edd08201f2", func := "loop.example/g01020/laws.FnExactLeastCrews", spec := "fnExactLeastCrews", apart := false, narrowed := true }
def FnExactLeastCrewsUptoSaid : Prop := fnExactLeastCrewsUptoRow.holds Try.pinned (OpenSpec.upto fnExactLeastCrewsSpec)

/-- 'laws.FnExactArePeriods', WHERE WHAT IT READS IS OF BULK AT MOST 1048576: true; the input reads as it did. -/
def fnExactArePeriodsUptoRow : OpenClaim := { program := "ytejeohcddaphcaa", sum := "015c6268e693503a5723f938d40b6614ce2922913069802c2175d9edd08201f2", func := "loop.example/g01020/laws.FnExactArePeriods", spec := "fnExactArePeriods", apart := false, narrowed := true }
def FnExactArePeriodsUptoSaid : Prop := fnExactArePeriodsUptoRow.holds Try.pinned (OpenSpec.upto fnExactArePeriodsSpec)

/-- 'laws.FnExactWorkedBy', WHERE WHAT IT READS IS OF BULK AT MOST 1048576: true; the input reads as it did. -/
def fnExactWorkedByUptoRow : OpenClaim := { program := "ytejeohcddaphcaa", sum := "015c6268e693503a5723f938d40b6614ce2922913069802c2175d9edd08201f2", func := "loop.example/g01020/laws.FnExactWorkedBy", spec := "fnExactWorkedBy", apart := false, narrowed := true }
def FnExactWorkedByUptoSaid : Prop := fnExactWorkedByUptoRow.holds Try.pinned (OpenSpec.upto fnExactWorkedBySpec)

/-- 'laws.FnExactNextRelief', WHERE WHAT IT READS IS OF BULK AT MOST 1048576: true; the input reads as it did. -/
def fnExactNextReliefUptoRow : OpenClaim := { program := "ytejeohcddaphcaa", sum := "015c6268e693503a5723f938d40b6614ce2922913069802c2175d9edd08201f2", func := "loop.example/g01020/laws.FnExactNextRelief", spec := "fnExactNextRelief", apart := false, narrowed := true }
def FnExactNextReliefUptoSaid : Prop := fnExactNextReliefUptoRow.holds Try.pinned (OpenSpec.upto fnExactNextReliefSpec)

/-- 'laws.FnExactIsDue', WHERE WHAT IT READS IS OF BULK AT MOST 1048576: true; the input reads as it did. -/
def fnExactIsDueUptoRow : OpenClaim := { program := "ytejeohcddaphcaa", sum := "015c6268e693503a5723f938d40b6614ce2922913069802c2175d9edd08201f2", func := "loop.example/g01020/laws.FnExactIsDue", spec := "fnExactIsDue", apart := false, narrowed := true }
def FnExactIsDueUptoSaid : Prop := fnExactIsDueUptoRow.holds Try.pinned (OpenSpec.upto fnExactIsDueSpec)

/-- 'laws.FnExactRestOf', WHERE WHAT IT READS IS OF BULK AT MOST 1048576: true; the input reads as it did. -/
def fnExactRestOfUptoRow : OpenClaim := { program := "ytejeohcddaphcaa", sum := "015c6268e693503a5723f938d40b6614ce2922913069802c2175d9edd08201f2", func := "loop.example/g01020/laws.FnExactRestOf", spec := "fnExactRestOf", apart := false, narrowed := true }
def FnExactRestOfUptoSaid : Prop := fnExactRestOfUptoRow.holds Try.pinned (OpenSpec.upto fnExactRestOfSpec)

/-- 'laws.FnExactShortRests', WHERE WHAT IT READS IS OF BULK AT MOST 1048576: true; the input reads as it did. -/
def fnExactShortRestsUptoRow : OpenClaim := { program := "ytejeohcddaphcaa", sum := "015c6268e693503a5723f938d40b6614ce2922913069802c2175d9edd08201f2", func := "loop.example/g01020/laws.FnExactShortRests", spec := "fnExactShortRests", apart := false, narrowed := true }
def FnExactShortRestsUptoSaid : Prop := fnExactShortRestsUptoRow.holds Try.pinned (OpenSpec.upto fnExactShortRestsSpec)

/-- 'laws.FnExactLongSpells', WHERE WHAT IT READS IS OF BULK AT MOST 1048576: true; the input reads as it did. -/
def fnExactLongSpellsUptoRow : OpenClaim := { program := "ytejeohcddaphcaa", sum := "015c6268e693503a5723f938d40b6614ce2922913069802c2175d9edd08201f2", func := "loop.example/g01020/laws.FnExactLongSpells", spec := "fnExactLongSpells", apart := false, narrowed := true }
def FnExactLongSpellsUptoSaid : Prop := fnExactLongSpellsUptoRow.holds Try.pinned (OpenSpec.upto fnExactLongSpellsSpec)

end Rows
end Go.Proofs.Ytejeohcddaphcaa
