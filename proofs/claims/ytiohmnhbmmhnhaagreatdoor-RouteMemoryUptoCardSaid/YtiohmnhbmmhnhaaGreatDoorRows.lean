/-
  NARROWER THAN 'FOR EVERY INPUT', by the rows' own cells (each row's printed sentence says how): RouteNews: laid · RouteOrder: laid · RouteFirst: laid · RouteMatches: laid · RouteMemory: laid · RoutePaths: laid · RouteBack: laid · RouteAll: laid.
  DERIVED. THE GIVEN ROWS OF THIS SEAT. 8 by the template 'for every input the law returns true; each argument reads behind the call as it read before'; 0 by the template 'total and deterministic' (their statements: YtiohmnhbmmhnhaaGreatDoorTotals.lean).
  GIVEN WITH THE SEED: the statements are not yours to turn. If you find one false, say at which input.
  Laid BY PROGRAM, IN A SANDBOX (cutbox-rows.mjs): the forced cells as the released guide's own fill.sh prints them over the translation 5f988985e00d02f3… (all of the seat's roots in one cut). By AI agents, Wed Nov 11 2026. No macro, syntax, notation, axiom, sorry.
-/
import Derived.Test.YtiohmnhbmmhnhaaGreatDoorChecked
import GoSem.PinnedTables
import GoSem.Claim
import GoSem.ClaimJoined
import GoSem.ClaimMapViews
import Derived.JoinedTies
import Derived.KernelRfl
namespace Go.Proofs.YtiohmnhbmmhnhaaGreatDoor
/- THE CELL 'sum', in the pinned program and in every row, IS THE sha256 OF THE DUMP (.gsa) THAT YtiohmnhbmmhnhaaGreatDoorProg.lean LOADS. Nothing in Lean hashes anything: it is a label: what it is worth is what the hold of that sum in a sandbox is worth. -/
noncomputable def Tryz.pinned : Pinned := { name := "ytiohmnhbmmhnhaagreatdoor", sum := "5f988985e00d02f3698b0d50a2d93394e66b3e11986e02762252cff3ff66cd05", checked := Tryz.checked }
namespace Rows
def none {H : Type} : Left H := { results := [], args := [] }

/- WHAT THE LISTED PACKAGE-LEVEL VARIABLES READ AS WHEN THE CALL BEGINS. Each datum BY PROGRAM (the guide's laid-datum.mjs) off the statement by which the dump's own 'gosem.cut.vars' lays the variable. In a bare row this is a premise. The card (YtiohmnhbmmhnhaaGreatDoorCards.lean) ties it to the program's text. -/
def laid_turnpike_octet_signs {H : Type} : DataW H := .agg [.lit (.int .u32 0), .lit (.int .u32 67071226), .lit (.int .u32 3355443198), .lit (.int .u32 1476395007)]
def laid_unicode_utf8_acceptRanges {H : Type} : DataW H := .agg [.agg [.lit (.int .u8 128), .lit (.int .u8 191)], .agg [.lit (.int .u8 160), .lit (.int .u8 191)], .agg [.lit (.int .u8 128), .lit (.int .u8 159)], .agg [.lit (.int .u8 144), .lit (.int .u8 191)], .agg [.lit (.int .u8 128), .lit (.int .u8 143)], .agg [.lit (.int .u8 0), .lit (.int .u8 0)], .agg [.lit (.int .u8 0), .lit (.int .u8 0)], .agg [.lit (.int .u8 0), .lit (.int .u8 0)], .agg [.lit (.int .u8 0), .lit (.int .u8 0)], .agg [.lit (.int .u8 0), .lit (.int .u8 0)], .agg [.lit (.int .u8 0), .lit (.int .u8 0)], .agg [.lit (.int .u8 0), .lit (.int .u8 0)], .agg [.lit (.int .u8 0), .lit (.int .u8 0)], .agg [.lit (.int .u8 0), .lit (.int .u8 0)], .agg [.lit (.int .u8 0), .lit (.int .u8 0)], .agg [.lit (.int .u8 0), .lit (.int .u8 0)]]
/-- One of Go's own tables, pinned by name: the form's constant. -/
def laid_unicode_utf8_first : DataW Unit := Go.Pinned.utf8First

/-- 'turnpikelaw14.RouteNews': WHATEVER THE INPUT: true; the input reads as it did. -/
def routeNewsSpec : ChangeSpec := { name := "routeNews", fn := fun _ => fun
  | [d1, d2] => { results := [.lit (.bool true)], args := [d1, d2] }
  | _ => none }
def routeNewsRow : OpenClaim := { program := "ytiohmnhbmmhnhaagreatdoor", sum := "5f988985e00d02f3698b0d50a2d93394e66b3e11986e02762252cff3ff66cd05", func := "turnpike/turnpikelaw14.RouteNews", spec := "routeNews", inPlace := ["internal/bytealg.IndexByteString", "internal/bytealg.abigen_runtime_cmpstring", "slices.overlaps[turnpike/radix.entry[[]int]]", "internal/abi.NoEscape", "internal/bytealg.IndexString", "internal/bytealg.MakeNoZero"], unfollowed := true, recurses := true, named := ["turnpike/octet.signs", "internal/bytealg.MaxLen"], apart := false, laid := [("turnpike/octet.signs", laid_turnpike_octet_signs)] }
def RouteNewsSaid : Prop := routeNewsRow.holds Tryz.pinned (OpenSpec.ofChange routeNewsSpec)

/-- ITS FALSE NEIGHBOUR: 'it returns false'. Refute it at one input. -/
def routeNewsWrong : ChangeSpec := { name := "routeNews", fn := fun _ => fun
  | [d1, d2] => { results := [.lit (.bool false)], args := [d1, d2] }
  | _ => none }
def RouteNewsWrongFalsely : Prop := routeNewsRow.holds Tryz.pinned (OpenSpec.ofChange routeNewsWrong)

/-- 'turnpikelaw14.RouteOrder': WHATEVER THE INPUT: true; the input reads as it did. -/
def routeOrderSpec : ChangeSpec := { name := "routeOrder", fn := fun _ => fun
  | [d1, d2, d3] => { results := [.lit (.bool true)], args := [d1, d2, d3] }
  | _ => none }
def routeOrderRow : OpenClaim := { program := "ytiohmnhbmmhnhaagreatdoor", sum := "5f988985e00d02f3698b0d50a2d93394e66b3e11986e02762252cff3ff66cd05", func := "turnpike/turnpikelaw14.RouteOrder", spec := "routeOrder", inPlace := ["internal/bytealg.IndexByteString", "internal/bytealg.abigen_runtime_cmpstring", "slices.overlaps[turnpike/radix.entry[[]int]]", "internal/abi.NoEscape", "internal/bytealg.IndexString", "internal/bytealg.MakeNoZero"], unfollowed := true, recurses := true, named := ["turnpike/octet.signs", "internal/bytealg.MaxLen"], apart := false, laid := [("turnpike/octet.signs", laid_turnpike_octet_signs)] }
def RouteOrderSaid : Prop := routeOrderRow.holds Tryz.pinned (OpenSpec.ofChange routeOrderSpec)

/-- ITS FALSE NEIGHBOUR: 'it returns false'. Refute it at one input. -/
def routeOrderWrong : ChangeSpec := { name := "routeOrder", fn := fun _ => fun
  | [d1, d2, d3] => { results := [.lit (.bool false)], args := [d1, d2, d3] }
  | _ => none }
def RouteOrderWrongFalsely : Prop := routeOrderRow.holds Tryz.pinned (OpenSpec.ofChange routeOrderWrong)

/-- 'turnpikelaw14.RouteFirst': WHATEVER THE INPUT: true; the input reads as it did. -/
def routeFirstSpec : ChangeSpec := { name := "routeFirst", fn := fun _ => fun
  | [d1, d2] => { results := [.lit (.bool true)], args := [d1, d2] }
  | _ => none }
def routeFirstRow : OpenClaim := { program := "ytiohmnhbmmhnhaagreatdoor", sum := "5f988985e00d02f3698b0d50a2d93394e66b3e11986e02762252cff3ff66cd05", func := "turnpike/turnpikelaw14.RouteFirst", spec := "routeFirst", inPlace := ["internal/bytealg.IndexByteString", "internal/bytealg.abigen_runtime_cmpstring", "slices.overlaps[turnpike/radix.entry[[]int]]", "internal/abi.NoEscape", "internal/bytealg.IndexString", "internal/bytealg.MakeNoZero"], unfollowed := true, recurses := true, named := ["turnpike/octet.signs", "internal/bytealg.MaxLen"], apart := false, laid := [("turnpike/octet.signs", laid_turnpike_octet_signs)] }
def RouteFirstSaid : Prop := routeFirstRow.holds Tryz.pinned (OpenSpec.ofChange routeFirstSpec)

/-- ITS FALSE NEIGHBOUR: 'it returns false'. Refute it at one input. -/
def routeFirstWrong : ChangeSpec := { name := "routeFirst", fn := fun _ => fun
  | [d1, d2] => { results := [.lit (.bool false)], args := [d1, d2] }
  | _ => none }
def RouteFirstWrongFalsely : Prop := routeFirstRow.holds Tryz.pinned (OpenSpec.ofChange routeFirstWrong)

/-- 'turnpikelaw14.RouteMatches': WHATEVER THE INPUT: true; the input reads as it did. -/
def routeMatchesSpec : ChangeSpec := { name := "routeMatches", fn := fun _ => fun
  | [d1, d2, d3] => { results := [.lit (.bool true)], args := [d1, d2, d3] }
  | _ => none }
def routeMatchesRow : OpenClaim := { program := "ytiohmnhbmmhnhaagreatdoor", sum := "5f988985e00d02f3698b0d50a2d93394e66b3e11986e02762252cff3ff66cd05", func := "turnpike/turnpikelaw14.RouteMatches", spec := "routeMatches", inPlace := ["internal/bytealg.IndexByteString", "internal/bytealg.abigen_runtime_cmpstring", "slices.overlaps[turnpike/radix.entry[[]int]]", "internal/abi.NoEscape", "internal/bytealg.IndexString", "internal/bytealg.MakeNoZero"], unfollowed := true, recurses := true, named := ["turnpike/octet.signs", "internal/bytealg.MaxLen"], apart := false, laid := [("turnpike/octet.signs", laid_turnpike_octet_signs)] }
def RouteMatchesSaid : Prop := routeMatchesRow.holds Tryz.pinned (OpenSpec.ofChange routeMatchesSpec)

/-- ITS FALSE NEIGHBOUR: 'it returns false'. Refute it at one input. -/
def routeMatchesWrong : ChangeSpec := { name := "routeMatches", fn := fun _ => fun
  | [d1, d2, d3] => { results := [.lit (.bool false)], args := [d1, d2, d3] }
  | _ => none }
def RouteMatchesWrongFalsely : Prop := routeMatchesRow.holds Tryz.pinned (OpenSpec.ofChange routeMatchesWrong)

/-- 'turnpikelaw14.RouteMemory': WHATEVER THE INPUT: true; the input reads as it did. -/
def routeMemorySpec : ChangeSpec := { name := "routeMemory", fn := fun _ => fun
  | [d1, d2] => { results := [.lit (.bool true)], args := [d1, d2] }
  | _ => none }
def routeMemoryRow : OpenClaim := { program := "ytiohmnhbmmhnhaagreatdoor", sum := "5f988985e00d02f3698b0d50a2d93394e66b3e11986e02762252cff3ff66cd05", func := "turnpike/turnpikelaw14.RouteMemory", spec := "routeMemory", inPlace := ["internal/bytealg.IndexByteString", "internal/bytealg.abigen_runtime_cmpstring", "slices.overlaps[turnpike/radix.entry[[]int]]", "internal/abi.NoEscape", "internal/bytealg.IndexString", "internal/bytealg.MakeNoZero"], unfollowed := true, recurses := true, named := ["turnpike/octet.signs", "internal/bytealg.MaxLen"], apart := false, laid := [("turnpike/octet.signs", laid_turnpike_octet_signs)] }
def RouteMemorySaid : Prop := routeMemoryRow.holds Tryz.pinned (OpenSpec.ofChange routeMemorySpec)

/-- ITS FALSE NEIGHBOUR: 'it returns false'. Refute it at one input. -/
def routeMemoryWrong : ChangeSpec := { name := "routeMemory", fn := fun _ => fun
  | [d1, d2] => { results := [.lit (.bool false)], args := [d1, d2] }
  | _ => none }
def RouteMemoryWrongFalsely : Prop := routeMemoryRow.holds Tryz.pinned (OpenSpec.ofChange routeMemoryWrong)

/-- 'turnpikelaw14.RoutePaths': WHATEVER THE INPUT: true; the input reads as it did. -/
def routePathsSpec : ChangeSpec := { name := "routePaths", fn := fun _ => fun
  | [d1, d2, d3] => { results := [.lit (.bool true)], args := [d1, d2, d3] }
  | _ => none }
def routePathsRow : OpenClaim := { program := "ytiohmnhbmmhnhaagreatdoor", sum := "5f988985e00d02f3698b0d50a2d93394e66b3e11986e02762252cff3ff66cd05", func := "turnpike/turnpikelaw14.RoutePaths", spec := "routePaths", inPlace := ["internal/bytealg.IndexByteString", "internal/bytealg.abigen_runtime_cmpstring", "slices.overlaps[turnpike/radix.entry[[]int]]", "internal/abi.NoEscape", "internal/bytealg.IndexString", "internal/bytealg.MakeNoZero", "internal/bytealg.CountString"], unfollowed := true, recurses := true, named := ["turnpike/octet.signs", "internal/bytealg.MaxLen", "unicode/utf8.first", "unicode/utf8.acceptRanges"], apart := false, laid := [("unicode/utf8.acceptRanges", laid_unicode_utf8_acceptRanges), ("turnpike/octet.signs", laid_turnpike_octet_signs), ("unicode/utf8.first", laid_unicode_utf8_first)] }
def RoutePathsSaid : Prop := routePathsRow.holds Tryz.pinned (OpenSpec.ofChange routePathsSpec)

/-- ITS FALSE NEIGHBOUR: 'it returns false'. Refute it at one input. -/
def routePathsWrong : ChangeSpec := { name := "routePaths", fn := fun _ => fun
  | [d1, d2, d3] => { results := [.lit (.bool false)], args := [d1, d2, d3] }
  | _ => none }
def RoutePathsWrongFalsely : Prop := routePathsRow.holds Tryz.pinned (OpenSpec.ofChange routePathsWrong)

/-- 'turnpikelaw14.RouteBack': WHATEVER THE INPUT: true; the input reads as it did. -/
def routeBackSpec : ChangeSpec := { name := "routeBack", fn := fun _ => fun
  | [d1, d2, d3] => { results := [.lit (.bool true)], args := [d1, d2, d3] }
  | _ => none }
def routeBackRow : OpenClaim := { program := "ytiohmnhbmmhnhaagreatdoor", sum := "5f988985e00d02f3698b0d50a2d93394e66b3e11986e02762252cff3ff66cd05", func := "turnpike/turnpikelaw14.RouteBack", spec := "routeBack", inPlace := ["internal/bytealg.IndexByteString", "internal/bytealg.abigen_runtime_cmpstring", "slices.overlaps[turnpike/radix.entry[[]int]]", "internal/abi.NoEscape", "internal/bytealg.IndexString", "internal/bytealg.MakeNoZero", "internal/bytealg.CountString"], unfollowed := true, recurses := true, named := ["turnpike/octet.signs", "internal/bytealg.MaxLen", "unicode/utf8.first", "unicode/utf8.acceptRanges"], apart := false, laid := [("unicode/utf8.acceptRanges", laid_unicode_utf8_acceptRanges), ("turnpike/octet.signs", laid_turnpike_octet_signs), ("unicode/utf8.first", laid_unicode_utf8_first)] }
def RouteBackSaid : Prop := routeBackRow.holds Tryz.pinned (OpenSpec.ofChange routeBackSpec)

/-- ITS FALSE NEIGHBOUR: 'it returns false'. Refute it at one input. -/
def routeBackWrong : ChangeSpec := { name := "routeBack", fn := fun _ => fun
  | [d1, d2, d3] => { results := [.lit (.bool false)], args := [d1, d2, d3] }
  | _ => none }
def RouteBackWrongFalsely : Prop := routeBackRow.holds Tryz.pinned (OpenSpec.ofChange routeBackWrong)

/-- 'turnpikelaw14.RouteAll': WHATEVER THE INPUT: true; the input reads as it did. -/
def routeAllSpec : ChangeSpec := { name := "routeAll", fn := fun _ => fun
  | [d] => { results := [.lit (.bool true)], args := [d] }
  | _ => none }
def routeAllRow : OpenClaim := { program := "ytiohmnhbmmhnhaagreatdoor", sum := "5f988985e00d02f3698b0d50a2d93394e66b3e11986e02762252cff3ff66cd05", func := "turnpike/turnpikelaw14.RouteAll", spec := "routeAll", inPlace := ["internal/bytealg.IndexByteString", "internal/bytealg.abigen_runtime_cmpstring", "slices.overlaps[turnpike/radix.entry[[]int]]", "internal/abi.NoEscape", "internal/bytealg.IndexString", "internal/bytealg.MakeNoZero", "internal/bytealg.CountString"], unfollowed := true, recurses := true, named := ["turnpike/octet.signs", "internal/bytealg.MaxLen", "unicode/utf8.first", "unicode/utf8.acceptRanges"], apart := false, laid := [("unicode/utf8.acceptRanges", laid_unicode_utf8_acceptRanges), ("turnpike/octet.signs", laid_turnpike_octet_signs), ("unicode/utf8.first", laid_unicode_utf8_first)] }
def RouteAllSaid : Prop := routeAllRow.holds Tryz.pinned (OpenSpec.ofChange routeAllSpec)

/-- ITS FALSE NEIGHBOUR: 'it returns false'. Refute it at one input. -/
def routeAllWrong : ChangeSpec := { name := "routeAll", fn := fun _ => fun
  | [d] => { results := [.lit (.bool false)], args := [d] }
  | _ => none }
def RouteAllWrongFalsely : Prop := routeAllRow.holds Tryz.pinned (OpenSpec.ofChange routeAllWrong)

/- THE SECOND FORM. 'bulk': how many values and letters a reading holds, each counted each time it is reached (what is shared counts as often as it is met; a slice's spare places count too). A statement '..UptoSaid' is the law's where the arguments, and the package variables that the reading takes, are together of bulk at most 1048576: NARROWER than '..Said'. Prove '..Said' where nothing that the law and all that it calls make is longer than what came in: it says more and counts as full. Else prove '..UptoSaid'. A law counts once. -/
mutual
def uptoBulk {H : Type} : DataW H → Nat
  | .lit (.string bytes) => bytes.length + 1
  | .lit _ => 1
  | .nil => 1
  | .ptr d => uptoBulk d + 1
  | .slice elems spare => uptoBulkAll elems + uptoBulkAll spare + 1
  | .agg parts => uptoBulkAll parts + 1
  | .iface _ d => uptoBulk d + 1
  | .map entries => uptoBulkEntries entries + 1
  | .held _ => 1
def uptoBulkAll {H : Type} : List (DataW H) → Nat
  | [] => 0
  | d :: r => uptoBulk d + uptoBulkAll r
def uptoBulkEntries {H : Type} : List (Lit × DataW H) → Nat
  | [] => 0
  | x :: r => uptoBulkEntry x + uptoBulkEntries r
def uptoBulkEntry {H : Type} : Lit × DataW H → Nat
  | (.string bytes, d) => bytes.length + uptoBulk d + 1
  | (_, d) => uptoBulk d + 1
 end
def uptoSmall : (H : Type) → List (DataW H) → Bool := fun _ ds => decide (uptoBulkAll ds ≤ 1048576)
def OpenSpec.upto (s : _root_.Go.ChangeSpec) : _root_.Go.OpenSpec := { _root_.Go.OpenSpec.ofChange s with cond := some uptoSmall }

/-- 'turnpikelaw14.RouteNews', WHERE WHAT IT READS IS OF BULK AT MOST 1048576: true; the input reads as it did. -/
def routeNewsUptoRow : OpenClaim := { program := "ytiohmnhbmmhnhaagreatdoor", sum := "5f988985e00d02f3698b0d50a2d93394e66b3e11986e02762252cff3ff66cd05", func := "turnpike/turnpikelaw14.RouteNews", spec := "routeNews", inPlace := ["internal/bytealg.IndexByteString", "internal/bytealg.abigen_runtime_cmpstring", "slices.overlaps[turnpike/radix.entry[[]int]]", "internal/abi.NoEscape", "internal/bytealg.IndexString", "internal/bytealg.MakeNoZero"], unfollowed := true, recurses := true, named := ["turnpike/octet.signs", "internal/bytealg.MaxLen"], apart := false, laid := [("turnpike/octet.signs", laid_turnpike_octet_signs)], narrowed := true }
def RouteNewsUptoSaid : Prop := routeNewsUptoRow.holds Tryz.pinned (OpenSpec.upto routeNewsSpec)

/-- 'turnpikelaw14.RouteOrder', WHERE WHAT IT READS IS OF BULK AT MOST 1048576: true; the input reads as it did. -/
def routeOrderUptoRow : OpenClaim := { program := "ytiohmnhbmmhnhaagreatdoor", sum := "5f988985e00d02f3698b0d50a2d93394e66b3e11986e02762252cff3ff66cd05", func := "turnpike/turnpikelaw14.RouteOrder", spec := "routeOrder", inPlace := ["internal/bytealg.IndexByteString", "internal/bytealg.abigen_runtime_cmpstring", "slices.overlaps[turnpike/radix.entry[[]int]]", "internal/abi.NoEscape", "internal/bytealg.IndexString", "internal/bytealg.MakeNoZero"], unfollowed := true, recurses := true, named := ["turnpike/octet.signs", "internal/bytealg.MaxLen"], apart := false, laid := [("turnpike/octet.signs", laid_turnpike_octet_signs)], narrowed := true }
def RouteOrderUptoSaid : Prop := routeOrderUptoRow.holds Tryz.pinned (OpenSpec.upto routeOrderSpec)

/-- 'turnpikelaw14.RouteFirst', WHERE WHAT IT READS IS OF BULK AT MOST 1048576: true; the input reads as it did. -/
def routeFirstUptoRow : OpenClaim := { program := "ytiohmnhbmmhnhaagreatdoor", sum := "5f988985e00d02f3698b0d50a2d93394e66b3e11986e02762252cff3ff66cd05", func := "turnpike/turnpikelaw14.RouteFirst", spec := "routeFirst", inPlace := ["internal/bytealg.IndexByteString", "internal/bytealg.abigen_runtime_cmpstring", "slices.overlaps[turnpike/radix.entry[[]int]]", "internal/abi.NoEscape", "internal/bytealg.IndexString", "internal/bytealg.MakeNoZero"], unfollowed := true, recurses := true, named := ["turnpike/octet.signs", "internal/bytealg.MaxLen"], apart := false, laid := [("turnpike/octet.signs", laid_turnpike_octet_signs)], narrowed := true }
def RouteFirstUptoSaid : Prop := routeFirstUptoRow.holds Tryz.pinned (OpenSpec.upto routeFirstSpec)

/-- 'turnpikelaw14.RouteMatches', WHERE WHAT IT READS IS OF BULK AT MOST 1048576: true; the input reads as it did. -/
def routeMatchesUptoRow : OpenClaim := { program := "ytiohmnhbmmhnhaagreatdoor", sum := "5f988985e00d02f3698b0d50a2d93394e66b3e11986e02762252cff3ff66cd05", func := "turnpike/turnpikelaw14.RouteMatches", spec := "routeMatches", inPlace := ["internal/bytealg.IndexByteString", "internal/bytealg.abigen_runtime_cmpstring", "slices.overlaps[turnpike/radix.entry[[]int]]", "internal/abi.NoEscape", "internal/bytealg.IndexString", "internal/bytealg.MakeNoZero"], unfollowed := true, recurses := true, named := ["turnpike/octet.signs", "internal/bytealg.MaxLen"], apart := false, laid := [("turnpike/octet.signs", laid_turnpike_octet_signs)], narrowed := true }
def RouteMatchesUptoSaid : Prop := routeMatchesUptoRow.holds Tryz.pinned (OpenSpec.upto routeMatchesSpec)

/-- 'turnpikelaw14.RouteMemory', WHERE WHAT IT READS IS OF BULK AT MOST 1048576: true; the input reads as it did. -/
def routeMemoryUptoRow : OpenClaim := { program := "ytiohmnhbmmhnhaagreatdoor", sum := "5f988985e00d02f3698b0d50a2d93394e66b3e11986e02762252cff3ff66cd05", func := "turnpike/turnpikelaw14.RouteMemory", spec := "routeMemory", inPlace := ["internal/bytealg.IndexByteString", "internal/bytealg.abigen_runtime_cmpstring", "slices.overlaps[turnpike/radix.entry[[]int]]", "internal/abi.NoEscape", "internal/bytealg.IndexString", "internal/bytealg.MakeNoZero"], unfollowed := true, recurses := true, named := ["turnpike/octet.signs", "internal/bytealg.MaxLen"], apart := false, laid := [("turnpike/octet.signs", laid_turnpike_octet_signs)], narrowed := true }
def RouteMemoryUptoSaid : Prop := routeMemoryUptoRow.holds Tryz.pinned (OpenSpec.upto routeMemorySpec)

/-- 'turnpikelaw14.RoutePaths', WHERE WHAT IT READS IS OF BULK AT MOST 1048576: true; the input reads as it did. -/
def routePathsUptoRow : OpenClaim := { program := "ytiohmnhbmmhnhaagreatdoor", sum := "5f988985e00d02f3698b0d50a2d93394e66b3e11986e02762252cff3ff66cd05", func := "turnpike/turnpikelaw14.RoutePaths", spec := "routePaths", inPlace := ["internal/bytealg.IndexByteString", "internal/bytealg.abigen_runtime_cmpstring", "slices.overlaps[turnpike/radix.entry[[]int]]", "internal/abi.NoEscape", "internal/bytealg.IndexString", "internal/bytealg.MakeNoZero", "internal/bytealg.CountString"], unfollowed := true, recurses := true, named := ["turnpike/octet.signs", "internal/bytealg.MaxLen", "unicode/utf8.first", "unicode/utf8.acceptRanges"], apart := false, laid := [("unicode/utf8.acceptRanges", laid_unicode_utf8_acceptRanges), ("turnpike/octet.signs", laid_turnpike_octet_signs), ("unicode/utf8.first", laid_unicode_utf8_first)], narrowed := true }
def RoutePathsUptoSaid : Prop := routePathsUptoRow.holds Tryz.pinned (OpenSpec.upto routePathsSpec)

/-- 'turnpikelaw14.RouteBack', WHERE WHAT IT READS IS OF BULK AT MOST 1048576: true; the input reads as it did. -/
def routeBackUptoRow : OpenClaim := { program := "ytiohmnhbmmhnhaagreatdoor", sum := "5f988985e00d02f3698b0d50a2d93394e66b3e11986e02762252cff3ff66cd05", func := "turnpike/turnpikelaw14.RouteBack", spec := "routeBack", inPlace := ["internal/bytealg.IndexByteString", "internal/bytealg.abigen_runtime_cmpstring", "slices.overlaps[turnpike/radix.entry[[]int]]", "internal/abi.NoEscape", "internal/bytealg.IndexString", "internal/bytealg.MakeNoZero", "internal/bytealg.CountString"], unfollowed := true, recurses := true, named := ["turnpike/octet.signs", "internal/bytealg.MaxLen", "unicode/utf8.first", "unicode/utf8.acceptRanges"], apart := false, laid := [("unicode/utf8.acceptRanges", laid_unicode_utf8_acceptRanges), ("turnpike/octet.signs", laid_turnpike_octet_signs), ("unicode/utf8.first", laid_unicode_utf8_first)], narrowed := true }
def RouteBackUptoSaid : Prop := routeBackUptoRow.holds Tryz.pinned (OpenSpec.upto routeBackSpec)

/-- 'turnpikelaw14.RouteAll', WHERE WHAT IT READS IS OF BULK AT MOST 1048576: true; the input reads as it did. -/
def routeAllUptoRow : OpenClaim := { program := "ytiohmnhbmmhnhaagreatdoor", sum := "5f988985e00d02f3698b0d50a2d93394e66b3e11986e02762252cff3ff66cd05", func := "turnpike/turnpikelaw14.RouteAll", spec := "routeAll", inPlace := ["internal/bytealg.IndexByteString", "internal/bytealg.abigen_runtime_cmpstring", "slices.overlaps[turnpike/radix.entry[[]int]]", "internal/abi.NoEscape", "internal/bytealg.IndexString", "internal/bytealg.MakeNoZero", "internal/bytealg.CountString"], unfollowed := true, recurses := true, named := ["turnpike/octet.signs", "internal/bytealg.MaxLen", "unicode/utf8.first", "unicode/utf8.acceptRanges"], apart := false, laid := [("unicode/utf8.acceptRanges", laid_unicode_utf8_acceptRanges), ("turnpike/octet.signs", laid_turnpike_octet_signs), ("unicode/utf8.first", laid_unicode_utf8_first)], narrowed := true }
def RouteAllUptoSaid : Prop := routeAllUptoRow.holds Tryz.pinned (OpenSpec.upto routeAllSpec)

end Rows
end Go.Proofs.YtiohmnhbmmhnhaaGreatDoor
