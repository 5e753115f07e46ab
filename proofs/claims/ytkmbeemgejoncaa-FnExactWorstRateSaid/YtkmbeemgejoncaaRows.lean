/-
  No cell of these rows narrows 'for every input' (looked for: loops, veiled, ifaces, maps, wideKeys, modest, calm, conditions, laid).
  DERIVED. THE GIVEN ROWS OF THIS SEAT. 13 by the template 'for every input the law returns true; each argument reads behind the call as it read before'; 0 by the template 'total and deterministic' (their statements: YtkmbeemgejoncaaTotals.lean).
  GIVEN WITH THE SEED: the statements are not yours to turn. If you find one false, say at which input.
  Laid BY PROGRAM, IN A SANDBOX (cutbox-rows.mjs): the forced cells as the released guide's own fill.sh prints them over the translation 757e1c8022c5c2c2… (all of the seat's roots in one cut). By AI agents, Wed Nov 11 2026. No macro, syntax, notation, axiom, sorry.
-/
import Derived.Test.YtkmbeemgejoncaaChecked
import GoSem.Claim
import GoSem.ClaimJoined
import GoSem.ClaimMapViews
import Derived.JoinedTies
import Derived.KernelRfl
namespace Go.Proofs.Ytkmbeemgejoncaa
/- THE CELL 'sum', in the pinned program and in every row, IS THE sha256 OF THE DUMP (.gsa) THAT YtkmbeemgejoncaaProg.lean LOADS. Nothing in Lean hashes anything: it is a label: what it is worth is what the hold of that sum in a sandbox is worth. -/
noncomputable def Try.pinned : Pinned := { name := "ytkmbeemgejoncaa", sum := "757e1c8022c5c2c2d6a000b90b5064293f41c39794ab9ef32db8f9ddc1cda13d", checked := Try.checked }
namespace Rows
def none {H : Type} : Left H := { results := [], args := [] }

/-- 'laws.FnExactIsCylinder': WHATEVER THE INPUT: true; the input reads as it did. -/
def fnExactIsCylinderSpec : ChangeSpec := { name := "fnExactIsCylinder", fn := fun _ => fun
  | [d] => { results := [.lit (.bool true)], args := [d] }
  | _ => none }
def fnExactIsCylinderRow : OpenClaim := { program := "ytkmbeemgejoncaa", sum := "757e1c8022c5c2c2d6a000b90b5064293f41c39794ab9ef32db8f9ddc1cda13d", func := "loop.example/g01020/laws.FnExactIsCylinder", spec := "fnExactIsCylinder", apart := false }
def FnExactIsCylinderSaid : Prop := fnExactIsCylinderRow.holds Try.pinned (OpenSpec.ofChange fnExactIsCylinderSpec)

/-- ITS FALSE NEIGHBOUR: 'it returns false'. Refute it at one input. -/
def fnExactIsCylinderWrong : ChangeSpec := { name := "fnExactIsCylinder", fn := fun _ => fun
  | [d] => { results := [.lit (.bool false)], args := [d] }
  | _ => none }
def FnExactIsCylinderWrongFalsely : Prop := fnExactIsCylinderRow.holds Try.pinned (OpenSpec.ofChange fnExactIsCylinderWrong)

/-- 'laws.FnExactTurnBar': WHATEVER THE INPUT: true; the input reads as it did. -/
def fnExactTurnBarSpec : ChangeSpec := { name := "fnExactTurnBar", fn := fun _ => fun
  | [d1, d2, d3] => { results := [.lit (.bool true)], args := [d1, d2, d3] }
  | _ => none }
def fnExactTurnBarRow : OpenClaim := { program := "ytkmbeemgejoncaa", sum := "757e1c8022c5c2c2d6a000b90b5064293f41c39794ab9ef32db8f9ddc1cda13d", func := "loop.example/g01020/laws.FnExactTurnBar", spec := "fnExactTurnBar", apart := false }
def FnExactTurnBarSaid : Prop := fnExactTurnBarRow.holds Try.pinned (OpenSpec.ofChange fnExactTurnBarSpec)

/-- ITS FALSE NEIGHBOUR: 'it returns false'. Refute it at one input. -/
def fnExactTurnBarWrong : ChangeSpec := { name := "fnExactTurnBar", fn := fun _ => fun
  | [d1, d2, d3] => { results := [.lit (.bool false)], args := [d1, d2, d3] }
  | _ => none }
def FnExactTurnBarWrongFalsely : Prop := fnExactTurnBarRow.holds Try.pinned (OpenSpec.ofChange fnExactTurnBarWrong)

/-- 'laws.FnExactLitresIn': WHATEVER THE INPUT: true; the input reads as it did. -/
def fnExactLitresInSpec : ChangeSpec := { name := "fnExactLitresIn", fn := fun _ => fun
  | [d] => { results := [.lit (.bool true)], args := [d] }
  | _ => none }
def fnExactLitresInRow : OpenClaim := { program := "ytkmbeemgejoncaa", sum := "757e1c8022c5c2c2d6a000b90b5064293f41c39794ab9ef32db8f9ddc1cda13d", func := "loop.example/g01020/laws.FnExactLitresIn", spec := "fnExactLitresIn", apart := false }
def FnExactLitresInSaid : Prop := fnExactLitresInRow.holds Try.pinned (OpenSpec.ofChange fnExactLitresInSpec)

/-- ITS FALSE NEIGHBOUR: 'it returns false'. Refute it at one input. -/
def fnExactLitresInWrong : ChangeSpec := { name := "fnExactLitresIn", fn := fun _ => fun
  | [d] => { results := [.lit (.bool false)], args := [d] }
  | _ => none }
def FnExactLitresInWrongFalsely : Prop := fnExactLitresInRow.holds Try.pinned (OpenSpec.ofChange fnExactLitresInWrong)

/-- 'laws.FnExactAreChecks': WHATEVER THE INPUT: true; the input reads as it did. -/
def fnExactAreChecksSpec : ChangeSpec := { name := "fnExactAreChecks", fn := fun _ => fun
  | [d] => { results := [.lit (.bool true)], args := [d] }
  | _ => none }
def fnExactAreChecksRow : OpenClaim := { program := "ytkmbeemgejoncaa", sum := "757e1c8022c5c2c2d6a000b90b5064293f41c39794ab9ef32db8f9ddc1cda13d", func := "loop.example/g01020/laws.FnExactAreChecks", spec := "fnExactAreChecks", apart := false }
def FnExactAreChecksSaid : Prop := fnExactAreChecksRow.holds Try.pinned (OpenSpec.ofChange fnExactAreChecksSpec)

/-- ITS FALSE NEIGHBOUR: 'it returns false'. Refute it at one input. -/
def fnExactAreChecksWrong : ChangeSpec := { name := "fnExactAreChecks", fn := fun _ => fun
  | [d] => { results := [.lit (.bool false)], args := [d] }
  | _ => none }
def FnExactAreChecksWrongFalsely : Prop := fnExactAreChecksRow.holds Try.pinned (OpenSpec.ofChange fnExactAreChecksWrong)

/-- 'laws.FnExactBarAfter': WHATEVER THE INPUT: true; the input reads as it did. -/
def fnExactBarAfterSpec : ChangeSpec := { name := "fnExactBarAfter", fn := fun _ => fun
  | [d1, d2, d3] => { results := [.lit (.bool true)], args := [d1, d2, d3] }
  | _ => none }
def fnExactBarAfterRow : OpenClaim := { program := "ytkmbeemgejoncaa", sum := "757e1c8022c5c2c2d6a000b90b5064293f41c39794ab9ef32db8f9ddc1cda13d", func := "loop.example/g01020/laws.FnExactBarAfter", spec := "fnExactBarAfter", apart := false }
def FnExactBarAfterSaid : Prop := fnExactBarAfterRow.holds Try.pinned (OpenSpec.ofChange fnExactBarAfterSpec)

/-- ITS FALSE NEIGHBOUR: 'it returns false'. Refute it at one input. -/
def fnExactBarAfterWrong : ChangeSpec := { name := "fnExactBarAfter", fn := fun _ => fun
  | [d1, d2, d3] => { results := [.lit (.bool false)], args := [d1, d2, d3] }
  | _ => none }
def FnExactBarAfterWrongFalsely : Prop := fnExactBarAfterRow.holds Try.pinned (OpenSpec.ofChange fnExactBarAfterWrong)

/-- 'laws.FnExactMustTurn': WHATEVER THE INPUT: true; the input reads as it did. -/
def fnExactMustTurnSpec : ChangeSpec := { name := "fnExactMustTurn", fn := fun _ => fun
  | [d1, d2, d3, d4] => { results := [.lit (.bool true)], args := [d1, d2, d3, d4] }
  | _ => none }
def fnExactMustTurnRow : OpenClaim := { program := "ytkmbeemgejoncaa", sum := "757e1c8022c5c2c2d6a000b90b5064293f41c39794ab9ef32db8f9ddc1cda13d", func := "loop.example/g01020/laws.FnExactMustTurn", spec := "fnExactMustTurn", apart := false }
def FnExactMustTurnSaid : Prop := fnExactMustTurnRow.holds Try.pinned (OpenSpec.ofChange fnExactMustTurnSpec)

/-- ITS FALSE NEIGHBOUR: 'it returns false'. Refute it at one input. -/
def fnExactMustTurnWrong : ChangeSpec := { name := "fnExactMustTurn", fn := fun _ => fun
  | [d1, d2, d3, d4] => { results := [.lit (.bool false)], args := [d1, d2, d3, d4] }
  | _ => none }
def FnExactMustTurnWrongFalsely : Prop := fnExactMustTurnRow.holds Try.pinned (OpenSpec.ofChange fnExactMustTurnWrong)

/-- 'laws.FnExactMinutesTo': WHATEVER THE INPUT: true; the input reads as it did. -/
def fnExactMinutesToSpec : ChangeSpec := { name := "fnExactMinutesTo", fn := fun _ => fun
  | [d1, d2, d3] => { results := [.lit (.bool true)], args := [d1, d2, d3] }
  | _ => none }
def fnExactMinutesToRow : OpenClaim := { program := "ytkmbeemgejoncaa", sum := "757e1c8022c5c2c2d6a000b90b5064293f41c39794ab9ef32db8f9ddc1cda13d", func := "loop.example/g01020/laws.FnExactMinutesTo", spec := "fnExactMinutesTo", apart := false }
def FnExactMinutesToSaid : Prop := fnExactMinutesToRow.holds Try.pinned (OpenSpec.ofChange fnExactMinutesToSpec)

/-- ITS FALSE NEIGHBOUR: 'it returns false'. Refute it at one input. -/
def fnExactMinutesToWrong : ChangeSpec := { name := "fnExactMinutesTo", fn := fun _ => fun
  | [d1, d2, d3] => { results := [.lit (.bool false)], args := [d1, d2, d3] }
  | _ => none }
def FnExactMinutesToWrongFalsely : Prop := fnExactMinutesToRow.holds Try.pinned (OpenSpec.ofChange fnExactMinutesToWrong)

/-- 'laws.FnExactLatestTurn': WHATEVER THE INPUT: true; the input reads as it did. -/
def fnExactLatestTurnSpec : ChangeSpec := { name := "fnExactLatestTurn", fn := fun _ => fun
  | [d1, d2, d3, d4] => { results := [.lit (.bool true)], args := [d1, d2, d3, d4] }
  | _ => none }
def fnExactLatestTurnRow : OpenClaim := { program := "ytkmbeemgejoncaa", sum := "757e1c8022c5c2c2d6a000b90b5064293f41c39794ab9ef32db8f9ddc1cda13d", func := "loop.example/g01020/laws.FnExactLatestTurn", spec := "fnExactLatestTurn", apart := false }
def FnExactLatestTurnSaid : Prop := fnExactLatestTurnRow.holds Try.pinned (OpenSpec.ofChange fnExactLatestTurnSpec)

/-- ITS FALSE NEIGHBOUR: 'it returns false'. Refute it at one input. -/
def fnExactLatestTurnWrong : ChangeSpec := { name := "fnExactLatestTurn", fn := fun _ => fun
  | [d1, d2, d3, d4] => { results := [.lit (.bool false)], args := [d1, d2, d3, d4] }
  | _ => none }
def FnExactLatestTurnWrongFalsely : Prop := fnExactLatestTurnRow.holds Try.pinned (OpenSpec.ofChange fnExactLatestTurnWrong)

/-- 'laws.FnExactWorstRate': WHATEVER THE INPUT: true; the input reads as it did. -/
def fnExactWorstRateSpec : ChangeSpec := { name := "fnExactWorstRate", fn := fun _ => fun
  | [d1, d2] => { results := [.lit (.bool true)], args := [d1, d2] }
  | _ => none }
def fnExactWorstRateRow : OpenClaim := { program := "ytkmbeemgejoncaa", sum := "757e1c8022c5c2c2d6a000b90b5064293f41c39794ab9ef32db8f9ddc1cda13d", func := "loop.example/g01020/laws.FnExactWorstRate", spec := "fnExactWorstRate", apart := false }
def FnExactWorstRateSaid : Prop := fnExactWorstRateRow.holds Try.pinned (OpenSpec.ofChange fnExactWorstRateSpec)

/-- ITS FALSE NEIGHBOUR: 'it returns false'. Refute it at one input. -/
def fnExactWorstRateWrong : ChangeSpec := { name := "fnExactWorstRate", fn := fun _ => fun
  | [d1, d2] => { results := [.lit (.bool false)], args := [d1, d2] }
  | _ => none }
def FnExactWorstRateWrongFalsely : Prop := fnExactWorstRateRow.holds Try.pinned (OpenSpec.ofChange fnExactWorstRateWrong)

/-- 'laws.FnExactRefillsFrom': WHATEVER THE INPUT: true; the input reads as it did. -/
def fnExactRefillsFromSpec : ChangeSpec := { name := "fnExactRefillsFrom", fn := fun _ => fun
  | [d1, d2, d3] => { results := [.lit (.bool true)], args := [d1, d2, d3] }
  | _ => none }
def fnExactRefillsFromRow : OpenClaim := { program := "ytkmbeemgejoncaa", sum := "757e1c8022c5c2c2d6a000b90b5064293f41c39794ab9ef32db8f9ddc1cda13d", func := "loop.example/g01020/laws.FnExactRefillsFrom", spec := "fnExactRefillsFrom", unfollowed := true, recurses := true, apart := false }
def FnExactRefillsFromSaid : Prop := fnExactRefillsFromRow.holds Try.pinned (OpenSpec.ofChange fnExactRefillsFromSpec)

/-- ITS FALSE NEIGHBOUR: 'it returns false'. Refute it at one input. -/
def fnExactRefillsFromWrong : ChangeSpec := { name := "fnExactRefillsFrom", fn := fun _ => fun
  | [d1, d2, d3] => { results := [.lit (.bool false)], args := [d1, d2, d3] }
  | _ => none }
def FnExactRefillsFromWrongFalsely : Prop := fnExactRefillsFromRow.holds Try.pinned (OpenSpec.ofChange fnExactRefillsFromWrong)

/-- 'laws.FnExactTeamTurn': WHATEVER THE INPUT: true; the input reads as it did. -/
def fnExactTeamTurnSpec : ChangeSpec := { name := "fnExactTeamTurn", fn := fun _ => fun
  | [d1, d2, d3, d4] => { results := [.lit (.bool true)], args := [d1, d2, d3, d4] }
  | _ => none }
def fnExactTeamTurnRow : OpenClaim := { program := "ytkmbeemgejoncaa", sum := "757e1c8022c5c2c2d6a000b90b5064293f41c39794ab9ef32db8f9ddc1cda13d", func := "loop.example/g01020/laws.FnExactTeamTurn", spec := "fnExactTeamTurn", apart := false }
def FnExactTeamTurnSaid : Prop := fnExactTeamTurnRow.holds Try.pinned (OpenSpec.ofChange fnExactTeamTurnSpec)

/-- ITS FALSE NEIGHBOUR: 'it returns false'. Refute it at one input. -/
def fnExactTeamTurnWrong : ChangeSpec := { name := "fnExactTeamTurn", fn := fun _ => fun
  | [d1, d2, d3, d4] => { results := [.lit (.bool false)], args := [d1, d2, d3, d4] }
  | _ => none }
def FnExactTeamTurnWrongFalsely : Prop := fnExactTeamTurnRow.holds Try.pinned (OpenSpec.ofChange fnExactTeamTurnWrong)

/-- 'laws.FnCylinders': WHATEVER THE INPUT: true; the input reads as it did. -/
def fnCylindersSpec : ChangeSpec := { name := "fnCylinders", fn := fun _ => fun
  | [d1, d2] => { results := [.lit (.bool true)], args := [d1, d2] }
  | _ => none }
def fnCylindersRow : OpenClaim := { program := "ytkmbeemgejoncaa", sum := "757e1c8022c5c2c2d6a000b90b5064293f41c39794ab9ef32db8f9ddc1cda13d", func := "loop.example/g01020/laws.FnCylinders", spec := "fnCylinders", apart := false }
def FnCylindersSaid : Prop := fnCylindersRow.holds Try.pinned (OpenSpec.ofChange fnCylindersSpec)

/-- ITS FALSE NEIGHBOUR: 'it returns false'. Refute it at one input. -/
def fnCylindersWrong : ChangeSpec := { name := "fnCylinders", fn := fun _ => fun
  | [d1, d2] => { results := [.lit (.bool false)], args := [d1, d2] }
  | _ => none }
def FnCylindersWrongFalsely : Prop := fnCylindersRow.holds Try.pinned (OpenSpec.ofChange fnCylindersWrong)

/-- 'laws.FnTeams': WHATEVER THE INPUT: true; the input reads as it did. -/
def fnTeamsSpec : ChangeSpec := { name := "fnTeams", fn := fun _ => fun
  | [d1, d2] => { results := [.lit (.bool true)], args := [d1, d2] }
  | _ => none }
def fnTeamsRow : OpenClaim := { program := "ytkmbeemgejoncaa", sum := "757e1c8022c5c2c2d6a000b90b5064293f41c39794ab9ef32db8f9ddc1cda13d", func := "loop.example/g01020/laws.FnTeams", spec := "fnTeams", unfollowed := true, recurses := true, apart := false }
def FnTeamsSaid : Prop := fnTeamsRow.holds Try.pinned (OpenSpec.ofChange fnTeamsSpec)

/-- ITS FALSE NEIGHBOUR: 'it returns false'. Refute it at one input. -/
def fnTeamsWrong : ChangeSpec := { name := "fnTeams", fn := fun _ => fun
  | [d1, d2] => { results := [.lit (.bool false)], args := [d1, d2] }
  | _ => none }
def FnTeamsWrongFalsely : Prop := fnTeamsRow.holds Try.pinned (OpenSpec.ofChange fnTeamsWrong)

/- THE SECOND FORM. 'bulk': how many values and letters a reading holds, each counted each time it is reached (what is shared counts as often as it is met; a slice's spare places count too). A statement '..UptoSaid' is the law's where the arguments, and the package variables that the reading takes, are together of bulk at most 1048576: NARROWER than '..Said'. Prove '..Said' where nothing that the law and all that it calls make is longer than what came in: it says more and counts as full. Else prove '..UptoSaid'. A law counts once. -/
mutual
def uptoBulk {H : Type} : DataW H → Nat
  | .lit (.string bytes) => bytes.length + 1
  | .lit _ => 1
  | .nil => 1
  | .ptr d => uptoBulk d + 1
  | .slice elems spare => uptoBulkAll elems + uptoBulkAll spare + 1
  | .agg parts => uptoBulkAll parts + 1
  | .iface _ d => uptoBulk d + 1
  | .map entries => uptoBulkEntries entries + 1
  | .held _ => 1
def uptoBulkAll {H : Type} : List (DataW H) → Nat
  | [] => 0
  | d :: r => uptoBulk d + uptoBulkAll r
def uptoBulkEntries {H : Type} : List (Lit × DataW H) → Nat
  | [] => 0
  | x :: r => uptoBulkEntry x + uptoBulkEntries r
def uptoBulkEntry {H : Type} : Lit × DataW H → Nat
  | (.string bytes, d) => bytes.length + uptoBulk d + 1
  | (_, d) => uptoBulk d + 1
 end
def uptoSmall : (H : Type) → List (DataW H) → Bool := fun _ ds => decide (uptoBulkAll ds ≤ 1048576)
def OpenSpec.upto (s : _root_.Go.ChangeSpec) : _root_.Go.OpenSpec := { _root_.Go.OpenSpec.ofChange s with cond := some uptoSmall }

/-- 'laws.FnExactIsCylinder', WHERE WHAT IT READS IS OF BULK AT MOST 1048576: true; the input reads as it did. -/
def fnExactIsCylinderUptoRow : OpenClaim := { program := "ytkmbeemgejoncaa", sum := "757e1c8022c5c2c2d6a000b90b5064293f41c39794ab9ef32db8f9ddc1cda13d", func := "loop.example/g01020/laws.FnExactIsCylinder", spec := "fnExactIsCylinder", apart := false, narrowed := true }
def FnExactIsCylinderUptoSaid : Prop := fnExactIsCylinderUptoRow.holds Try.pinned (OpenSpec.upto fnExactIsCylinderSpec)

/-- 'laws.FnExactTurnBar', WHERE WHAT IT READS IS OF BULK AT MOST 1048576: true; the input reads as it did. -/
def fnExactTurnBarUptoRow : OpenClaim := { program := "ytkmbeemgejoncaa", sum := "757e1c8022c5c2c2d6a000b90b5064293f41c39794ab9ef32db8f9ddc1cda13d", func := "loop.example/g01020/laws.FnExactTurnBar", spec := "fnExactTurnBar", apart := false, narrowed := true }
def FnExactTurnBarUptoSaid : Prop := fnExactTurnBarUptoRow.holds Try.pinned (OpenSpec.upto fnExactTurnBarSpec)

/-- 'laws.FnExactLitresIn', WHERE WHAT IT READS IS OF BULK AT MOST 1048576: true; the input reads as it did. -/
def fnExactLitresInUptoRow : OpenClaim := { program := "ytkmbeemgejoncaa", sum := "757e1c8022c5c2c2d6a000b90b5064293f41c39794ab9ef32db8f9ddc1cda13d", func := "loop.example/g01020/laws.FnExactLitresIn", spec := "fnExactLitresIn", apart := false, narrowed := true }
def FnExactLitresInUptoSaid : Prop := fnExactLitresInUptoRow.holds Try.pinned (OpenSpec.upto fnExactLitresInSpec)

/-- 'laws.FnExactAreChecks', WHERE WHAT IT READS IS OF BULK AT MOST 1048576: true; the input reads as it did. -/
def fnExactAreChecksUptoRow : OpenClaim := { program := "ytkmbeemgejoncaa", sum := "757e1c8022c5c2c2d6a000b90b5064293f41c39794ab9ef32db8f9ddc1cda13d", func := "loop.example/g01020/laws.FnExactAreChecks", spec := "fnExactAreChecks", apart := false, narrowed := true }
def FnExactAreChecksUptoSaid : Prop := fnExactAreChecksUptoRow.holds Try.pinned (OpenSpec.upto fnExactAreChecksSpec)

/-- 'laws.FnExactBarAfter', WHERE WHAT IT READS IS OF BULK AT MOST 1048576: true; the input reads as it did. -/
def fnExactBarAfterUptoRow : OpenClaim := { program := "ytkmbeemgejoncaa", sum := "757e1c8022c5c2c2d6a000b90b5064293f41c39794ab9ef32db8f9ddc1cda13d", func := "loop.example/g01020/laws.FnExactBarAfter", spec := "fnExactBarAfter", apart := false, narrowed := true }
def FnExactBarAfterUptoSaid : Prop := fnExactBarAfterUptoRow.holds Try.pinned (OpenSpec.upto fnExactBarAfterSpec)

/-- 'laws.FnExactMustTurn', WHERE WHAT IT READS IS OF BULK AT MOST 1048576: true; the input reads as it did. -/
def fnExactMustTurnUptoRow : OpenClaim := { program := "ytkmbeemgejoncaa", sum := "757e1c8022c5c2c2d6a000b90b5064293f41c39794ab9ef32db8f9ddc1cda13d", func := "loop.example/g01020/laws.FnExactMustTurn", spec := "fnExactMustTurn", apart := false, narrowed := true }
def FnExactMustTurnUptoSaid : Prop := fnExactMustTurnUptoRow.holds Try.pinned (OpenSpec.upto fnExactMustTurnSpec)

/-- 'laws.FnExactMinutesTo', WHERE WHAT IT READS IS OF BULK AT MOST 1048576: true; the input reads as it did. -/
def fnExactMinutesToUptoRow : OpenClaim := { program := "ytkmbeemgejoncaa", sum := "757e1c8022c5c2c2d6a000b90b5064293f41c39794ab9ef32db8f9ddc1cda13d", func := "loop.example/g01020/laws.FnExactMinutesTo", spec := "fnExactMinutesTo", apart := false, narrowed := true }
def FnExactMinutesToUptoSaid : Prop := fnExactMinutesToUptoRow.holds Try.pinned (OpenSpec.upto fnExactMinutesToSpec)

/-- 'laws.FnExactLatestTurn', WHERE WHAT IT READS IS OF BULK AT MOST 1048576: true; the input reads as it did. -/
def fnExactLatestTurnUptoRow : OpenClaim := { program := "ytkmbeemgejoncaa", sum := "757e1c8022c5c2c2d6a000b90b5064293f41c39794ab9ef32db8f9ddc1cda13d", func := "loop.example/g01020/laws.FnExactLatestTurn", spec := "fnExactLatestTurn", apart := false, narrowed := true }
def FnExactLatestTurnUptoSaid : Prop := fnExactLatestTurnUptoRow.holds Try.pinned (OpenSpec.upto fnExactLatestTurnSpec)

/-- 'laws.FnExactWorstRate', WHERE WHAT IT READS IS OF BULK AT MOST 1048576: true; the input reads as it did. -/
def fnExactWorstRateUptoRow : OpenClaim := { program := "ytkmbeemgejoncaa", sum := "757e1c8022c5c2c2d6a000b90b5064293f41c39794ab9ef32db8f9ddc1cda13d", func := "loop.example/g01020/laws.FnExactWorstRate", spec := "fnExactWorstRate", apart := false, narrowed := true }
def FnExactWorstRateUptoSaid : Prop := fnExactWorstRateUptoRow.holds Try.pinned (OpenSpec.upto fnExactWorstRateSpec)

/-- 'laws.FnExactRefillsFrom', WHERE WHAT IT READS IS OF BULK AT MOST 1048576: true; the input reads as it did. -/
def fnExactRefillsFromUptoRow : OpenClaim := { program := "ytkmbeemgejoncaa", sum := "757e1c8022c5c2c2d6a000b90b5064293f41c39794ab9ef32db8f9ddc1cda13d", func := "loop.example/g01020/laws.FnExactRefillsFrom", spec := "fnExactRefillsFrom", unfollowed := true, recurses := true, apart := false, narrowed := true }
def FnExactRefillsFromUptoSaid : Prop := fnExactRefillsFromUptoRow.holds Try.pinned (OpenSpec.upto fnExactRefillsFromSpec)

/-- 'laws.FnExactTeamTurn', WHERE WHAT IT READS IS OF BULK AT MOST 1048576: true; the input reads as it did. -/
def fnExactTeamTurnUptoRow : OpenClaim := { program := "ytkmbeemgejoncaa", sum := "757e1c8022c5c2c2d6a000b90b5064293f41c39794ab9ef32db8f9ddc1cda13d", func := "loop.example/g01020/laws.FnExactTeamTurn", spec := "fnExactTeamTurn", apart := false, narrowed := true }
def FnExactTeamTurnUptoSaid : Prop := fnExactTeamTurnUptoRow.holds Try.pinned (OpenSpec.upto fnExactTeamTurnSpec)

/-- 'laws.FnCylinders', WHERE WHAT IT READS IS OF BULK AT MOST 1048576: true; the input reads as it did. -/
def fnCylindersUptoRow : OpenClaim := { program := "ytkmbeemgejoncaa", sum := "757e1c8022c5c2c2d6a000b90b5064293f41c39794ab9ef32db8f9ddc1cda13d", func := "loop.example/g01020/laws.FnCylinders", spec := "fnCylinders", apart := false, narrowed := true }
def FnCylindersUptoSaid : Prop := fnCylindersUptoRow.holds Try.pinned (OpenSpec.upto fnCylindersSpec)

/-- 'laws.FnTeams', WHERE WHAT IT READS IS OF BULK AT MOST 1048576: true; the input reads as it did. -/
def fnTeamsUptoRow : OpenClaim := { program := "ytkmbeemgejoncaa", sum := "757e1c8022c5c2c2d6a000b90b5064293f41c39794ab9ef32db8f9ddc1cda13d", func := "loop.example/g01020/laws.FnTeams", spec := "fnTeams", unfollowed := true, recurses := true, apart := false, narrowed := true }
def FnTeamsUptoSaid : Prop := fnTeamsUptoRow.holds Try.pinned (OpenSpec.upto fnTeamsSpec)

end Rows
end Go.Proofs.Ytkmbeemgejoncaa
