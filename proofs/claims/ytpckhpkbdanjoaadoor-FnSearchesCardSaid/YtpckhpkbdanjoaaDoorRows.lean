/-
  NARROWER THAN 'FOR EVERY INPUT', by the rows' own cells (each row's printed sentence says how): FnExactSearchedCells: laid · FnExactHandWay: laid · FnExactShareOut: laid · FnExactUnsearchedCells: laid · FnWays: laid · FnSearches: laid.
  DERIVED. THE GIVEN ROWS OF THIS SEAT. 6 by the template 'for every input the law returns true; each argument reads behind the call as it read before'; 0 by the template 'total and deterministic' (their statements: YtpckhpkbdanjoaaDoorTotals.lean).
  GIVEN WITH THE SEED: the statements are not yours to turn. If you find one false, say at which input.
  Laid BY PROGRAM, IN A SANDBOX (cutbox-rows.mjs): the forced cells as the released guide's own fill.sh prints them over the translation 0397aaa823d19166… (all of the seat's roots in one cut). By AI agents, Wed Nov 11 2026. No macro, syntax, notation, axiom, sorry.
-/
import Derived.Test.YtpckhpkbdanjoaaDoorChecked
import GoSem.PinnedTables
import GoSem.Claim
import GoSem.ClaimJoined
import GoSem.ClaimMapViews
import Derived.JoinedTies
import Derived.KernelRfl
namespace Go.Proofs.YtpckhpkbdanjoaaDoor
/- THE CELL 'sum', in the pinned program and in every row, IS THE sha256 OF THE DUMP (.gsa) THAT YtpckhpkbdanjoaaDoorProg.lean LOADS. Nothing in Lean hashes anything: it is a label: what it is worth is what the hold of that sum in a sandbox is worth. -/
noncomputable def Tryd.pinned : Pinned := { name := "ytpckhpkbdanjoaadoor", sum := "0397aaa823d191663bd30dadfce5f58059b8bc0ae186198e6d44d0718d772491", checked := Tryd.checked }
namespace Rows
def none {H : Type} : Left H := { results := [], args := [] }

/- WHAT THE LISTED PACKAGE-LEVEL VARIABLES READ AS WHEN THE CALL BEGINS. Each datum BY PROGRAM (the guide's laid-datum.mjs) off the statement by which the dump's own 'gosem.cut.vars' lays the variable. In a bare row this is a premise. The card (YtpckhpkbdanjoaaDoorCards.lean) ties it to the program's text. -/
def laid_unicode_utf8_acceptRanges {H : Type} : DataW H := .agg [.agg [.lit (.int .u8 128), .lit (.int .u8 191)], .agg [.lit (.int .u8 160), .lit (.int .u8 191)], .agg [.lit (.int .u8 128), .lit (.int .u8 159)], .agg [.lit (.int .u8 144), .lit (.int .u8 191)], .agg [.lit (.int .u8 128), .lit (.int .u8 143)], .agg [.lit (.int .u8 0), .lit (.int .u8 0)], .agg [.lit (.int .u8 0), .lit (.int .u8 0)], .agg [.lit (.int .u8 0), .lit (.int .u8 0)], .agg [.lit (.int .u8 0), .lit (.int .u8 0)], .agg [.lit (.int .u8 0), .lit (.int .u8 0)], .agg [.lit (.int .u8 0), .lit (.int .u8 0)], .agg [.lit (.int .u8 0), .lit (.int .u8 0)], .agg [.lit (.int .u8 0), .lit (.int .u8 0)], .agg [.lit (.int .u8 0), .lit (.int .u8 0)], .agg [.lit (.int .u8 0), .lit (.int .u8 0)], .agg [.lit (.int .u8 0), .lit (.int .u8 0)]]
/-- One of Go's own tables, pinned by name: the form's constant. -/
def laid_unicode_utf8_first : DataW Unit := Go.Pinned.utf8First

/-- 'laws.FnExactSearchedCells': WHATEVER THE INPUT: true; the input reads as it did. -/
def fnExactSearchedCellsSpec : ChangeSpec := { name := "fnExactSearchedCells", fn := fun _ => fun
  | [d1, d2] => { results := [.lit (.bool true)], args := [d1, d2] }
  | _ => none }
def fnExactSearchedCellsRow : OpenClaim := { program := "ytpckhpkbdanjoaadoor", sum := "0397aaa823d191663bd30dadfce5f58059b8bc0ae186198e6d44d0718d772491", func := "loop.example/g01020/laws.FnExactSearchedCells", spec := "fnExactSearchedCells", inPlace := ["internal/bytealg.IndexByteString", "internal/bytealg.IndexString"], unfollowed := true, recurses := true, named := ["unicode/utf8.first", "unicode/utf8.acceptRanges", "internal/bytealg.MaxLen"], plainKeys := false, apart := false, laid := [("unicode/utf8.acceptRanges", laid_unicode_utf8_acceptRanges), ("unicode/utf8.first", laid_unicode_utf8_first)] }
def FnExactSearchedCellsSaid : Prop := fnExactSearchedCellsRow.holds Tryd.pinned (OpenSpec.ofChange fnExactSearchedCellsSpec)

/-- ITS FALSE NEIGHBOUR: 'it returns false'. Refute it at one input. -/
def fnExactSearchedCellsWrong : ChangeSpec := { name := "fnExactSearchedCells", fn := fun _ => fun
  | [d1, d2] => { results := [.lit (.bool false)], args := [d1, d2] }
  | _ => none }
def FnExactSearchedCellsWrongFalsely : Prop := fnExactSearchedCellsRow.holds Tryd.pinned (OpenSpec.ofChange fnExactSearchedCellsWrong)

/-- 'laws.FnExactHandWay': WHATEVER THE INPUT: true; the input reads as it did. -/
def fnExactHandWaySpec : ChangeSpec := { name := "fnExactHandWay", fn := fun _ => fun
  | [d1, d2, d3] => { results := [.lit (.bool true)], args := [d1, d2, d3] }
  | _ => none }
def fnExactHandWayRow : OpenClaim := { program := "ytpckhpkbdanjoaadoor", sum := "0397aaa823d191663bd30dadfce5f58059b8bc0ae186198e6d44d0718d772491", func := "loop.example/g01020/laws.FnExactHandWay", spec := "fnExactHandWay", inPlace := ["internal/bytealg.IndexByteString", "internal/bytealg.IndexString"], named := ["unicode/utf8.first", "unicode/utf8.acceptRanges", "internal/bytealg.MaxLen"], plainKeys := false, apart := false, laid := [("unicode/utf8.acceptRanges", laid_unicode_utf8_acceptRanges), ("unicode/utf8.first", laid_unicode_utf8_first)] }
def FnExactHandWaySaid : Prop := fnExactHandWayRow.holds Tryd.pinned (OpenSpec.ofChange fnExactHandWaySpec)

/-- ITS FALSE NEIGHBOUR: 'it returns false'. Refute it at one input. -/
def fnExactHandWayWrong : ChangeSpec := { name := "fnExactHandWay", fn := fun _ => fun
  | [d1, d2, d3] => { results := [.lit (.bool false)], args := [d1, d2, d3] }
  | _ => none }
def FnExactHandWayWrongFalsely : Prop := fnExactHandWayRow.holds Tryd.pinned (OpenSpec.ofChange fnExactHandWayWrong)

/-- 'laws.FnExactShareOut': WHATEVER THE INPUT: true; the input reads as it did. -/
def fnExactShareOutSpec : ChangeSpec := { name := "fnExactShareOut", fn := fun _ => fun
  | [d1, d2] => { results := [.lit (.bool true)], args := [d1, d2] }
  | _ => none }
def fnExactShareOutRow : OpenClaim := { program := "ytpckhpkbdanjoaadoor", sum := "0397aaa823d191663bd30dadfce5f58059b8bc0ae186198e6d44d0718d772491", func := "loop.example/g01020/laws.FnExactShareOut", spec := "fnExactShareOut", inPlace := ["internal/bytealg.IndexByteString", "internal/bytealg.IndexString"], named := ["unicode/utf8.first", "unicode/utf8.acceptRanges", "internal/bytealg.MaxLen"], plainKeys := false, apart := false, laid := [("unicode/utf8.acceptRanges", laid_unicode_utf8_acceptRanges), ("unicode/utf8.first", laid_unicode_utf8_first)] }
def FnExactShareOutSaid : Prop := fnExactShareOutRow.holds Tryd.pinned (OpenSpec.ofChange fnExactShareOutSpec)

/-- ITS FALSE NEIGHBOUR: 'it returns false'. Refute it at one input. -/
def fnExactShareOutWrong : ChangeSpec := { name := "fnExactShareOut", fn := fun _ => fun
  | [d1, d2] => { results := [.lit (.bool false)], args := [d1, d2] }
  | _ => none }
def FnExactShareOutWrongFalsely : Prop := fnExactShareOutRow.holds Tryd.pinned (OpenSpec.ofChange fnExactShareOutWrong)

/-- 'laws.FnExactUnsearchedCells': WHATEVER THE INPUT: true; the input reads as it did. -/
def fnExactUnsearchedCellsSpec : ChangeSpec := { name := "fnExactUnsearchedCells", fn := fun _ => fun
  | [d1, d2, d3] => { results := [.lit (.bool true)], args := [d1, d2, d3] }
  | _ => none }
def fnExactUnsearchedCellsRow : OpenClaim := { program := "ytpckhpkbdanjoaadoor", sum := "0397aaa823d191663bd30dadfce5f58059b8bc0ae186198e6d44d0718d772491", func := "loop.example/g01020/laws.FnExactUnsearchedCells", spec := "fnExactUnsearchedCells", inPlace := ["internal/bytealg.IndexByteString", "internal/bytealg.IndexString"], unfollowed := true, recurses := true, named := ["unicode/utf8.first", "unicode/utf8.acceptRanges", "internal/bytealg.MaxLen"], plainKeys := false, apart := false, laid := [("unicode/utf8.acceptRanges", laid_unicode_utf8_acceptRanges), ("unicode/utf8.first", laid_unicode_utf8_first)] }
def FnExactUnsearchedCellsSaid : Prop := fnExactUnsearchedCellsRow.holds Tryd.pinned (OpenSpec.ofChange fnExactUnsearchedCellsSpec)

/-- ITS FALSE NEIGHBOUR: 'it returns false'. Refute it at one input. -/
def fnExactUnsearchedCellsWrong : ChangeSpec := { name := "fnExactUnsearchedCells", fn := fun _ => fun
  | [d1, d2, d3] => { results := [.lit (.bool false)], args := [d1, d2, d3] }
  | _ => none }
def FnExactUnsearchedCellsWrongFalsely : Prop := fnExactUnsearchedCellsRow.holds Tryd.pinned (OpenSpec.ofChange fnExactUnsearchedCellsWrong)

/-- 'laws.FnWays': WHATEVER THE INPUT: true; the input reads as it did. -/
def fnWaysSpec : ChangeSpec := { name := "fnWays", fn := fun _ => fun
  | [d1, d2] => { results := [.lit (.bool true)], args := [d1, d2] }
  | _ => none }
def fnWaysRow : OpenClaim := { program := "ytpckhpkbdanjoaadoor", sum := "0397aaa823d191663bd30dadfce5f58059b8bc0ae186198e6d44d0718d772491", func := "loop.example/g01020/laws.FnWays", spec := "fnWays", inPlace := ["internal/bytealg.IndexByteString", "internal/bytealg.IndexString", "internal/abi.NoEscape", "internal/bytealg.MakeNoZero", "internal/bytealg.CountString"], named := ["unicode/utf8.first", "unicode/utf8.acceptRanges", "internal/bytealg.MaxLen"], plainKeys := false, apart := false, laid := [("unicode/utf8.acceptRanges", laid_unicode_utf8_acceptRanges), ("unicode/utf8.first", laid_unicode_utf8_first)] }
def FnWaysSaid : Prop := fnWaysRow.holds Tryd.pinned (OpenSpec.ofChange fnWaysSpec)

/-- ITS FALSE NEIGHBOUR: 'it returns false'. Refute it at one input. -/
def fnWaysWrong : ChangeSpec := { name := "fnWays", fn := fun _ => fun
  | [d1, d2] => { results := [.lit (.bool false)], args := [d1, d2] }
  | _ => none }
def FnWaysWrongFalsely : Prop := fnWaysRow.holds Tryd.pinned (OpenSpec.ofChange fnWaysWrong)

/-- 'laws.FnSearches': WHATEVER THE INPUT: true; the input reads as it did. -/
def fnSearchesSpec : ChangeSpec := { name := "fnSearches", fn := fun _ => fun
  | [d1, d2] => { results := [.lit (.bool true)], args := [d1, d2] }
  | _ => none }
def fnSearchesRow : OpenClaim := { program := "ytpckhpkbdanjoaadoor", sum := "0397aaa823d191663bd30dadfce5f58059b8bc0ae186198e6d44d0718d772491", func := "loop.example/g01020/laws.FnSearches", spec := "fnSearches", inPlace := ["internal/bytealg.IndexByteString", "internal/bytealg.IndexString"], unfollowed := true, recurses := true, named := ["unicode/utf8.first", "unicode/utf8.acceptRanges", "internal/bytealg.MaxLen"], plainKeys := false, apart := false, laid := [("unicode/utf8.acceptRanges", laid_unicode_utf8_acceptRanges), ("unicode/utf8.first", laid_unicode_utf8_first)] }
def FnSearchesSaid : Prop := fnSearchesRow.holds Tryd.pinned (OpenSpec.ofChange fnSearchesSpec)

/-- ITS FALSE NEIGHBOUR: 'it returns false'. Refute it at one input. -/
def fnSearchesWrong : ChangeSpec := { name := "fnSearches", fn := fun _ => fun
  | [d1, d2] => { results := [.lit (.bool false)], args := [d1, d2] }
  | _ => none }
def FnSearchesWrongFalsely : Prop := fnSearchesRow.holds Tryd.pinned (OpenSpec.ofChange fnSearchesWrong)

/- THE SECOND FORM. 'bulk': how many values and letters a reading holds, each counted each time it is reached (what is shared counts as often as it is met; a slice's spare places count too). A statement '..UptoSaid' is the law's where the arguments, and the package variables that the reading takes, are together of bulk at most 1048576: NARROWER than '..Said'. Prove '..Said' where nothing that the law and all that it calls make is longer than what came in: it says more and counts as full. Else prove '..UptoSaid'. A law counts once. -/
mutual
def uptoBulk {H : Type} : DataW H → Nat
  | .lit (.string bytes) => bytes.length + 1
  | .lit _ => 1
  | .nil => 1
  | .ptr d => uptoBulk d + 1
  | .slice elems spare => uptoBulkAll elems + uptoBulkAll spare + 1
  | .agg parts => uptoBulkAll parts + 1
  | .iface _ d => uptoBulk d + 1
  | .map entries => uptoBulkEntries entries + 1
  | .held _ => 1
def uptoBulkAll {H : Type} : List (DataW H) → Nat
  | [] => 0
  | d :: r => uptoBulk d + uptoBulkAll r
def uptoBulkEntries {H : Type} : List (Lit × DataW H) → Nat
  | [] => 0
  | x :: r => uptoBulkEntry x + uptoBulkEntries r
def uptoBulkEntry {H : Type} : Lit × DataW H → Nat
  | (.string bytes, d) => bytes.length + uptoBulk d + 1
  | (_, d) => uptoBulk d + 1
 end
def uptoSmall : (H : Type) → List (DataW H) → Bool := fun _ ds => decide (uptoBulkAll ds ≤ 1048576)
def OpenSpec.upto (s : _root_.Go.ChangeSpec) : _root_.Go.OpenSpec := { _root_.Go.OpenSpec.ofChange s with cond := some uptoSmall }

/-- 'laws.FnExactSearchedCells', WHERE WHAT IT READS IS OF BULK AT MOST 1048576: true; the input reads as it did. -/
def fnExactSearchedCellsUptoRow : OpenClaim := { program := "ytpckhpkbdanjoaadoor", sum := "0397aaa823d191663bd30dadfce5f58059b8bc0ae186198e6d44d0718d772491", func := "loop.example/g01020/laws.FnExactSearchedCells", spec := "fnExactSearchedCells", inPlace := ["internal/bytealg.IndexByteString", "internal/bytealg.IndexString"], unfollowed := true, recurses := true, named := ["unicode/utf8.first", "unicode/utf8.acceptRanges", "internal/bytealg.MaxLen"], plainKeys := false, apart := false, laid := [("unicode/utf8.acceptRanges", laid_unicode_utf8_acceptRanges), ("unicode/utf8.first", laid_unicode_utf8_first)], narrowed := true }
def FnExactSearchedCellsUptoSaid : Prop := fnExactSearchedCellsUptoRow.holds Tryd.pinned (OpenSpec.upto fnExactSearchedCellsSpec)

/-- 'laws.FnExactHandWay', WHERE WHAT IT READS IS OF BULK AT MOST 1048576: true; the input reads as it did. -/
def fnExactHandWayUptoRow : OpenClaim := { program := "ytpckhpkbdanjoaadoor", sum := "0397aaa823d191663bd30dadfce5f58059b8bc0ae186198e6d44d0718d772491", func := "loop.example/g01020/laws.FnExactHandWay", spec := "fnExactHandWay", inPlace := ["internal/bytealg.IndexByteString", "internal/bytealg.IndexString"], named := ["unicode/utf8.first", "unicode/utf8.acceptRanges", "internal/bytealg.MaxLen"], plainKeys := false, apart := false, laid := [("unicode/utf8.acceptRanges", laid_unicode_utf8_acceptRanges), ("unicode/utf8.first", laid_unicode_utf8_first)], narrowed := true }
def FnExactHandWayUptoSaid : Prop := fnExactHandWayUptoRow.holds Tryd.pinned (OpenSpec.upto fnExactHandWaySpec)

/-- 'laws.FnExactShareOut', WHERE WHAT IT READS IS OF BULK AT MOST 1048576: true; the input reads as it did. -/
def fnExactShareOutUptoRow : OpenClaim := { program := "ytpckhpkbdanjoaadoor", sum := "0397aaa823d191663bd30dadfce5f58059b8bc0ae186198e6d44d0718d772491", func := "loop.example/g01020/laws.FnExactShareOut", spec := "fnExactShareOut", inPlace := ["internal/bytealg.IndexByteString", "internal/bytealg.IndexString"], named := ["unicode/utf8.first", "unicode/utf8.acceptRanges", "internal/bytealg.MaxLen"], plainKeys := false, apart := false, laid := [("unicode/utf8.acceptRanges", laid_unicode_utf8_acceptRanges), ("unicode/utf8.first", laid_unicode_utf8_first)], narrowed := true }
def FnExactShareOutUptoSaid : Prop := fnExactShareOutUptoRow.holds Tryd.pinned (OpenSpec.upto fnExactShareOutSpec)

/-- 'laws.FnExactUnsearchedCells', WHERE WHAT IT READS IS OF BULK AT MOST 1048576: true; the input reads as it did. -/
def fnExactUnsearchedCellsUptoRow : OpenClaim := { program := "ytpckhpkbdanjoaadoor", sum := "0397aaa823d191663bd30dadfce5f58059b8bc0ae186198e6d44d0718d772491", func := "loop.example/g01020/laws.FnExactUnsearchedCells", spec := "fnExactUnsearchedCells", inPlace := ["internal/bytealg.IndexByteString", "internal/bytealg.IndexString"], unfollowed := true, recurses := true, named := ["unicode/utf8.first", "unicode/utf8.acceptRanges", "internal/bytealg.MaxLen"], plainKeys := false, apart := false, laid := [("unicode/utf8.acceptRanges", laid_unicode_utf8_acceptRanges), ("unicode/utf8.first", laid_unicode_utf8_first)], narrowed := true }
def FnExactUnsearchedCellsUptoSaid : Prop := fnExactUnsearchedCellsUptoRow.holds Tryd.pinned (OpenSpec.upto fnExactUnsearchedCellsSpec)

/-- 'laws.FnWays', WHERE WHAT IT READS IS OF BULK AT MOST 1048576: true; the input reads as it did. -/
def fnWaysUptoRow : OpenClaim := { program := "ytpckhpkbdanjoaadoor", sum := "0397aaa823d191663bd30dadfce5f58059b8bc0ae186198e6d44d0718d772491", func := "loop.example/g01020/laws.FnWays", spec := "fnWays", inPlace := ["internal/bytealg.IndexByteString", "internal/bytealg.IndexString", "internal/abi.NoEscape", "internal/bytealg.MakeNoZero", "internal/bytealg.CountString"], named := ["unicode/utf8.first", "unicode/utf8.acceptRanges", "internal/bytealg.MaxLen"], plainKeys := false, apart := false, laid := [("unicode/utf8.acceptRanges", laid_unicode_utf8_acceptRanges), ("unicode/utf8.first", laid_unicode_utf8_first)], narrowed := true }
def FnWaysUptoSaid : Prop := fnWaysUptoRow.holds Tryd.pinned (OpenSpec.upto fnWaysSpec)

/-- 'laws.FnSearches', WHERE WHAT IT READS IS OF BULK AT MOST 1048576: true; the input reads as it did. -/
def fnSearchesUptoRow : OpenClaim := { program := "ytpckhpkbdanjoaadoor", sum := "0397aaa823d191663bd30dadfce5f58059b8bc0ae186198e6d44d0718d772491", func := "loop.example/g01020/laws.FnSearches", spec := "fnSearches", inPlace := ["internal/bytealg.IndexByteString", "internal/bytealg.IndexString"], unfollowed := true, recurses := true, named := ["unicode/utf8.first", "unicode/utf8.acceptRanges", "internal/bytealg.MaxLen"], plainKeys := false, apart := false, laid := [("unicode/utf8.acceptRanges", laid_unicode_utf8_acceptRanges), ("unicode/utf8.first", laid_unicode_utf8_first)], narrowed := true }
def FnSearchesUptoSaid : Prop := fnSearchesUptoRow.holds Tryd.pinned (OpenSpec.upto fnSearchesSpec)

end Rows
end Go.Proofs.YtpckhpkbdanjoaaDoor
