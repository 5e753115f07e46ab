/-
  No cell of these rows narrows 'for every input' (looked for: loops, veiled, ifaces, maps, wideKeys, modest, calm, conditions, laid).
  DERIVED. THE GIVEN ROWS OF THIS SEAT. 7 by the template 'for every input the law returns true; each argument reads behind the call as it read before'; 0 by the template 'total and deterministic' (their statements: YtpakjmiallhgnaaTotals.lean).
  GIVEN WITH THE SEED: the statements are not yours to turn. If you find one false, say at which input.
  Laid BY PROGRAM, IN A SANDBOX (cutbox-rows.mjs): the forced cells as the released guide's own fill.sh prints them over the translation 377773ba74be1721… (all of the seat's roots in one cut). By AI agents, Wed Nov 11 2026. No macro, syntax, notation, axiom, sorry.
-/
import Derived.Test.YtpakjmiallhgnaaChecked
import GoSem.Claim
import GoSem.ClaimJoined
import GoSem.ClaimMapViews
import Derived.JoinedTies
import Derived.KernelRfl
namespace Go.Proofs.Ytpakjmiallhgnaa
/- THE CELL 'sum', in the pinned program and in every row, IS THE sha256 OF THE DUMP (.gsa) THAT YtpakjmiallhgnaaProg.lean LOADS. Nothing in Lean hashes anything: it is a label: what it is worth is what the hold of that sum in a sandbox is worth. -/
noncomputable def Try.pinned : Pinned := { name := "ytpakjmiallhgnaa", sum := "377773ba74be1721c2f6c144eb30be7921fe7e3fa9056add65bd63df929b90e6", checked := Try.checked }
namespace Rows
def none {H : Type} : Left H := { results := [], args := [] }

/-- 'laws.FnExactAddCheck': WHATEVER THE INPUT: true; the input reads as it did. -/
def fnExactAddCheckSpec : ChangeSpec := { name := "fnExactAddCheck", fn := fun _ => fun
  | [d1, d2, d3, d4] => { results := [.lit (.bool true)], args := [d1, d2, d3, d4] }
  | _ => none }
def fnExactAddCheckRow : OpenClaim := { program := "ytpakjmiallhgnaa", sum := "377773ba74be1721c2f6c144eb30be7921fe7e3fa9056add65bd63df929b90e6", func := "loop.example/g01020/laws.FnExactAddCheck", spec := "fnExactAddCheck", unfollowed := true, recurses := true, apart := false }
def FnExactAddCheckSaid : Prop := fnExactAddCheckRow.holds Try.pinned (OpenSpec.ofChange fnExactAddCheckSpec)

/-- ITS FALSE NEIGHBOUR: 'it returns false'. Refute it at one input. -/
def fnExactAddCheckWrong : ChangeSpec := { name := "fnExactAddCheck", fn := fun _ => fun
  | [d1, d2, d3, d4] => { results := [.lit (.bool false)], args := [d1, d2, d3, d4] }
  | _ => none }
def FnExactAddCheckWrongFalsely : Prop := fnExactAddCheckRow.holds Try.pinned (OpenSpec.ofChange fnExactAddCheckWrong)

/-- 'laws.FnExactLeaveTeam': WHATEVER THE INPUT: true; the input reads as it did. -/
def fnExactLeaveTeamSpec : ChangeSpec := { name := "fnExactLeaveTeam", fn := fun _ => fun
  | [d1, d2] => { results := [.lit (.bool true)], args := [d1, d2] }
  | _ => none }
def fnExactLeaveTeamRow : OpenClaim := { program := "ytpakjmiallhgnaa", sum := "377773ba74be1721c2f6c144eb30be7921fe7e3fa9056add65bd63df929b90e6", func := "loop.example/g01020/laws.FnExactLeaveTeam", spec := "fnExactLeaveTeam", unfollowed := true, recurses := true, apart := false }
def FnExactLeaveTeamSaid : Prop := fnExactLeaveTeamRow.holds Try.pinned (OpenSpec.ofChange fnExactLeaveTeamSpec)

/-- ITS FALSE NEIGHBOUR: 'it returns false'. Refute it at one input. -/
def fnExactLeaveTeamWrong : ChangeSpec := { name := "fnExactLeaveTeam", fn := fun _ => fun
  | [d1, d2] => { results := [.lit (.bool false)], args := [d1, d2] }
  | _ => none }
def FnExactLeaveTeamWrongFalsely : Prop := fnExactLeaveTeamRow.holds Try.pinned (OpenSpec.ofChange fnExactLeaveTeamWrong)

/-- 'laws.FnExactBoardText': WHATEVER THE INPUT: true; the input reads as it did. -/
def fnExactBoardTextSpec : ChangeSpec := { name := "fnExactBoardText", fn := fun _ => fun
  | [d1, d2] => { results := [.lit (.bool true)], args := [d1, d2] }
  | _ => none }
def fnExactBoardTextRow : OpenClaim := { program := "ytpakjmiallhgnaa", sum := "377773ba74be1721c2f6c144eb30be7921fe7e3fa9056add65bd63df929b90e6", func := "loop.example/g01020/laws.FnExactBoardText", spec := "fnExactBoardText", apart := false }
def FnExactBoardTextSaid : Prop := fnExactBoardTextRow.holds Try.pinned (OpenSpec.ofChange fnExactBoardTextSpec)

/-- ITS FALSE NEIGHBOUR: 'it returns false'. Refute it at one input. -/
def fnExactBoardTextWrong : ChangeSpec := { name := "fnExactBoardText", fn := fun _ => fun
  | [d1, d2] => { results := [.lit (.bool false)], args := [d1, d2] }
  | _ => none }
def FnExactBoardTextWrongFalsely : Prop := fnExactBoardTextRow.holds Try.pinned (OpenSpec.ofChange fnExactBoardTextWrong)

/-- 'laws.FnEntryBoard': WHATEVER THE INPUT: true; the input reads as it did. -/
def fnEntryBoardSpec : ChangeSpec := { name := "fnEntryBoard", fn := fun _ => fun
  | [d1, d2] => { results := [.lit (.bool true)], args := [d1, d2] }
  | _ => none }
def fnEntryBoardRow : OpenClaim := { program := "ytpakjmiallhgnaa", sum := "377773ba74be1721c2f6c144eb30be7921fe7e3fa9056add65bd63df929b90e6", func := "loop.example/g01020/laws.FnEntryBoard", spec := "fnEntryBoard", apart := false }
def FnEntryBoardSaid : Prop := fnEntryBoardRow.holds Try.pinned (OpenSpec.ofChange fnEntryBoardSpec)

/-- ITS FALSE NEIGHBOUR: 'it returns false'. Refute it at one input. -/
def fnEntryBoardWrong : ChangeSpec := { name := "fnEntryBoard", fn := fun _ => fun
  | [d1, d2] => { results := [.lit (.bool false)], args := [d1, d2] }
  | _ => none }
def FnEntryBoardWrongFalsely : Prop := fnEntryBoardRow.holds Try.pinned (OpenSpec.ofChange fnEntryBoardWrong)

/-- 'laws.FnExactRecalledTeams': WHATEVER THE INPUT: true; the input reads as it did. -/
def fnExactRecalledTeamsSpec : ChangeSpec := { name := "fnExactRecalledTeams", fn := fun _ => fun
  | [d1, d2] => { results := [.lit (.bool true)], args := [d1, d2] }
  | _ => none }
def fnExactRecalledTeamsRow : OpenClaim := { program := "ytpakjmiallhgnaa", sum := "377773ba74be1721c2f6c144eb30be7921fe7e3fa9056add65bd63df929b90e6", func := "loop.example/g01020/laws.FnExactRecalledTeams", spec := "fnExactRecalledTeams", apart := false }
def FnExactRecalledTeamsSaid : Prop := fnExactRecalledTeamsRow.holds Try.pinned (OpenSpec.ofChange fnExactRecalledTeamsSpec)

/-- ITS FALSE NEIGHBOUR: 'it returns false'. Refute it at one input. -/
def fnExactRecalledTeamsWrong : ChangeSpec := { name := "fnExactRecalledTeams", fn := fun _ => fun
  | [d1, d2] => { results := [.lit (.bool false)], args := [d1, d2] }
  | _ => none }
def FnExactRecalledTeamsWrongFalsely : Prop := fnExactRecalledTeamsRow.holds Try.pinned (OpenSpec.ofChange fnExactRecalledTeamsWrong)

/-- 'laws.FnExactEnterTeam': WHATEVER THE INPUT: true; the input reads as it did. -/
def fnExactEnterTeamSpec : ChangeSpec := { name := "fnExactEnterTeam", fn := fun _ => fun
  | [d1, d2] => { results := [.lit (.bool true)], args := [d1, d2] }
  | _ => none }
def fnExactEnterTeamRow : OpenClaim := { program := "ytpakjmiallhgnaa", sum := "377773ba74be1721c2f6c144eb30be7921fe7e3fa9056add65bd63df929b90e6", func := "loop.example/g01020/laws.FnExactEnterTeam", spec := "fnExactEnterTeam", inPlace := ["internal/bytealg.abigen_runtime_cmpstring", "slices.overlaps[loop.example/g01020/impl.Team]"], unfollowed := true, recurses := true, apart := false }
def FnExactEnterTeamSaid : Prop := fnExactEnterTeamRow.holds Try.pinned (OpenSpec.ofChange fnExactEnterTeamSpec)

/-- ITS FALSE NEIGHBOUR: 'it returns false'. Refute it at one input. -/
def fnExactEnterTeamWrong : ChangeSpec := { name := "fnExactEnterTeam", fn := fun _ => fun
  | [d1, d2] => { results := [.lit (.bool false)], args := [d1, d2] }
  | _ => none }
def FnExactEnterTeamWrongFalsely : Prop := fnExactEnterTeamRow.holds Try.pinned (OpenSpec.ofChange fnExactEnterTeamWrong)

/-- 'laws.FnBoards': WHATEVER THE INPUT: true; the input reads as it did. -/
def fnBoardsSpec : ChangeSpec := { name := "fnBoards", fn := fun _ => fun
  | [d1, d2] => { results := [.lit (.bool true)], args := [d1, d2] }
  | _ => none }
def fnBoardsRow : OpenClaim := { program := "ytpakjmiallhgnaa", sum := "377773ba74be1721c2f6c144eb30be7921fe7e3fa9056add65bd63df929b90e6", func := "loop.example/g01020/laws.FnBoards", spec := "fnBoards", inPlace := ["internal/bytealg.abigen_runtime_cmpstring", "slices.overlaps[loop.example/g01020/impl.Team]"], unfollowed := true, recurses := true, apart := false }
def FnBoardsSaid : Prop := fnBoardsRow.holds Try.pinned (OpenSpec.ofChange fnBoardsSpec)

/-- ITS FALSE NEIGHBOUR: 'it returns false'. Refute it at one input. -/
def fnBoardsWrong : ChangeSpec := { name := "fnBoards", fn := fun _ => fun
  | [d1, d2] => { results := [.lit (.bool false)], args := [d1, d2] }
  | _ => none }
def FnBoardsWrongFalsely : Prop := fnBoardsRow.holds Try.pinned (OpenSpec.ofChange fnBoardsWrong)

/- THE SECOND FORM. 'bulk': how many values and letters a reading holds, each counted each time it is reached (what is shared counts as often as it is met; a slice's spare places count too). A statement '..UptoSaid' is the law's where the arguments, and the package variables that the reading takes, are together of bulk at most 1048576: NARROWER than '..Said'. Prove '..Said' where nothing that the law and all that it calls make is longer than what came in: it says more and counts as full. Else prove '..UptoSaid'. A law counts once. -/
mutual
def uptoBulk {H : Type} : DataW H → Nat
  | .lit (.string bytes) => bytes.length + 1
  | .lit _ => 1
  | .nil => 1
  | .ptr d => uptoBulk d + 1
  | .slice elems spare => uptoBulkAll elems + uptoBulkAll spare + 1
  | .agg parts => uptoBulkAll parts + 1
  | .iface _ d => uptoBulk d + 1
  | .map entries => uptoBulkEntries entries + 1
  | .held _ => 1
def uptoBulkAll {H : Type} : List (DataW H) → Nat
  | [] => 0
  | d :: r => uptoBulk d + uptoBulkAll r
def uptoBulkEntries {H : Type} : List (Lit × DataW H) → Nat
  | [] => 0
  | x :: r => uptoBulkEntry x + uptoBulkEntries r
def uptoBulkEntry {H : Type} : Lit × DataW H → Nat
  | (.string bytes, d) => bytes.length + uptoBulk d + 1
  | (_, d) => uptoBulk d + 1
 end
def uptoSmall : (H : Type) → List (DataW H) → Bool := fun _ ds => decide (uptoBulkAll ds ≤ 1048576)
def OpenSpec.upto (s : _root_.Go.ChangeSpec) : _root_.Go.OpenSpec := { _root_.Go.OpenSpec.ofChange s with cond := some uptoSmall }

/-- 'laws.FnExactAddCheck', WHERE WHAT IT READS IS OF BULK AT MOST 1048576: true; the input reads as it did. -/
def fnExactAddCheckUptoRow : OpenClaim := { program := "ytpakjmiallhgnaa", sum := "377773ba74be1721c2f6c144eb30be7921fe7e3fa9056add65bd63df929b90e6", func := "loop.example/g01020/laws.FnExactAddCheck", spec := "fnExactAddCheck", unfollowed := true, recurses := true, apart := false, narrowed := true }
def FnExactAddCheckUptoSaid : Prop := fnExactAddCheckUptoRow.holds Try.pinned (OpenSpec.upto fnExactAddCheckSpec)

/-- 'laws.FnExactLeaveTeam', WHERE WHAT IT READS IS OF BULK AT MOST 1048576: true; the input reads as it did. -/
def fnExactLeaveTeamUptoRow : OpenClaim := { program := "ytpakjmiallhgnaa", sum := "377773ba74be1721c2f6c144eb30be7921fe7e3fa9056add65bd63df929b90e6", func := "loop.example/g01020/laws.FnExactLeaveTeam", spec := "fnExactLeaveTeam", unfollowed := true, recurses := true, apart := false, narrowed := true }
def FnExactLeaveTeamUptoSaid : Prop := fnExactLeaveTeamUptoRow.holds Try.pinned (OpenSpec.upto fnExactLeaveTeamSpec)

/-- 'laws.FnExactBoardText', WHERE WHAT IT READS IS OF BULK AT MOST 1048576: true; the input reads as it did. -/
def fnExactBoardTextUptoRow : OpenClaim := { program := "ytpakjmiallhgnaa", sum := "377773ba74be1721c2f6c144eb30be7921fe7e3fa9056add65bd63df929b90e6", func := "loop.example/g01020/laws.FnExactBoardText", spec := "fnExactBoardText", apart := false, narrowed := true }
def FnExactBoardTextUptoSaid : Prop := fnExactBoardTextUptoRow.holds Try.pinned (OpenSpec.upto fnExactBoardTextSpec)

/-- 'laws.FnEntryBoard', WHERE WHAT IT READS IS OF BULK AT MOST 1048576: true; the input reads as it did. -/
def fnEntryBoardUptoRow : OpenClaim := { program := "ytpakjmiallhgnaa", sum := "377773ba74be1721c2f6c144eb30be7921fe7e3fa9056add65bd63df929b90e6", func := "loop.example/g01020/laws.FnEntryBoard", spec := "fnEntryBoard", apart := false, narrowed := true }
def FnEntryBoardUptoSaid : Prop := fnEntryBoardUptoRow.holds Try.pinned (OpenSpec.upto fnEntryBoardSpec)

/-- 'laws.FnExactRecalledTeams', WHERE WHAT IT READS IS OF BULK AT MOST 1048576: true; the input reads as it did. -/
def fnExactRecalledTeamsUptoRow : OpenClaim := { program := "ytpakjmiallhgnaa", sum := "377773ba74be1721c2f6c144eb30be7921fe7e3fa9056add65bd63df929b90e6", func := "loop.example/g01020/laws.FnExactRecalledTeams", spec := "fnExactRecalledTeams", apart := false, narrowed := true }
def FnExactRecalledTeamsUptoSaid : Prop := fnExactRecalledTeamsUptoRow.holds Try.pinned (OpenSpec.upto fnExactRecalledTeamsSpec)

/-- 'laws.FnExactEnterTeam', WHERE WHAT IT READS IS OF BULK AT MOST 1048576: true; the input reads as it did. -/
def fnExactEnterTeamUptoRow : OpenClaim := { program := "ytpakjmiallhgnaa", sum := "377773ba74be1721c2f6c144eb30be7921fe7e3fa9056add65bd63df929b90e6", func := "loop.example/g01020/laws.FnExactEnterTeam", spec := "fnExactEnterTeam", inPlace := ["internal/bytealg.abigen_runtime_cmpstring", "slices.overlaps[loop.example/g01020/impl.Team]"], unfollowed := true, recurses := true, apart := false, narrowed := true }
def FnExactEnterTeamUptoSaid : Prop := fnExactEnterTeamUptoRow.holds Try.pinned (OpenSpec.upto fnExactEnterTeamSpec)

/-- 'laws.FnBoards', WHERE WHAT IT READS IS OF BULK AT MOST 1048576: true; the input reads as it did. -/
def fnBoardsUptoRow : OpenClaim := { program := "ytpakjmiallhgnaa", sum := "377773ba74be1721c2f6c144eb30be7921fe7e3fa9056add65bd63df929b90e6", func := "loop.example/g01020/laws.FnBoards", spec := "fnBoards", inPlace := ["internal/bytealg.abigen_runtime_cmpstring", "slices.overlaps[loop.example/g01020/impl.Team]"], unfollowed := true, recurses := true, apart := false, narrowed := true }
def FnBoardsUptoSaid : Prop := fnBoardsUptoRow.holds Try.pinned (OpenSpec.upto fnBoardsSpec)

end Rows
end Go.Proofs.Ytpakjmiallhgnaa
