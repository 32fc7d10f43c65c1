/-
  No cell of these rows narrows 'for every input' (looked for: loops, veiled, ifaces, maps, wideKeys, modest, calm, conditions, laid).
  DERIVED. THE GIVEN ROWS OF THIS SEAT. 6 by the template 'for every input the law returns true; each argument reads behind the call as it read before'; 0 by the template 'total and deterministic' (their statements: YteciaomjpafaiaaTotals.lean).
  GIVEN WITH THE SEED: the statements are not yours to turn. If you find one false, say at which input.
  Laid BY PROGRAM, IN A SANDBOX (cutbox-rows.mjs): the forced cells as the released guide's own fill.sh prints them over the translation 5035009369c25648… (all of the seat's roots in one cut). By AI agents, Wed Nov 11 2026. No macro, syntax, notation, axiom, sorry.
-/
import Derived.Test.YteciaomjpafaiaaChecked
import GoSem.Claim
import GoSem.ClaimJoined
import GoSem.ClaimMapViews
import Derived.JoinedTies
import Derived.KernelRfl
namespace Go.Proofs.Yteciaomjpafaiaa
/- THE CELL 'sum', in the pinned program and in every row, IS THE sha256 OF THE DUMP (.gsa) THAT YteciaomjpafaiaaProg.lean LOADS. Nothing in Lean hashes anything: it is a label: what it is worth is what the hold of that sum in a sandbox is worth. -/
noncomputable def Try.pinned : Pinned := { name := "yteciaomjpafaiaa", sum := "5035009369c2564838cb725b38da9a58692d402c1156892ea19f829ed888bbc4", checked := Try.checked }
namespace Rows
def none {H : Type} : Left H := { results := [], args := [] }

/-- 'turnpikelaw13.RadixFits': WHATEVER THE INPUT: true; the input reads as it did. -/
def radixFitsSpec : ChangeSpec := { name := "radixFits", fn := fun _ => fun
  | [d1, d2] => { results := [.lit (.bool true)], args := [d1, d2] }
  | _ => none }
def radixFitsRow : OpenClaim := { program := "yteciaomjpafaiaa", sum := "5035009369c2564838cb725b38da9a58692d402c1156892ea19f829ed888bbc4", func := "turnpike/turnpikelaw13.RadixFits", spec := "radixFits", inPlace := ["internal/bytealg.IndexByteString", "internal/abi.NoEscape", "internal/bytealg.IndexString", "internal/bytealg.MakeNoZero", "internal/bytealg.abigen_runtime_cmpstring", "slices.overlaps[turnpike/radix.entry[int]]"], unfollowed := true, recurses := true, named := ["internal/bytealg.MaxLen"], apart := false }
def RadixFitsSaid : Prop := radixFitsRow.holds Try.pinned (OpenSpec.ofChange radixFitsSpec)

/-- ITS FALSE NEIGHBOUR: 'it returns false'. Refute it at one input. -/
def radixFitsWrong : ChangeSpec := { name := "radixFits", fn := fun _ => fun
  | [d1, d2] => { results := [.lit (.bool false)], args := [d1, d2] }
  | _ => none }
def RadixFitsWrongFalsely : Prop := radixFitsRow.holds Try.pinned (OpenSpec.ofChange radixFitsWrong)

/-- 'turnpikelaw13.RadixChecks': WHATEVER THE INPUT: true; the input reads as it did. -/
def radixChecksSpec : ChangeSpec := { name := "radixChecks", fn := fun _ => fun
  | [d] => { results := [.lit (.bool true)], args := [d] }
  | _ => none }
def radixChecksRow : OpenClaim := { program := "yteciaomjpafaiaa", sum := "5035009369c2564838cb725b38da9a58692d402c1156892ea19f829ed888bbc4", func := "turnpike/turnpikelaw13.RadixChecks", spec := "radixChecks", inPlace := ["internal/bytealg.IndexByteString", "internal/bytealg.abigen_runtime_cmpstring", "slices.overlaps[turnpike/radix.entry[int]]", "internal/abi.NoEscape", "internal/bytealg.IndexString", "internal/bytealg.MakeNoZero"], unfollowed := true, recurses := true, named := ["internal/bytealg.MaxLen"], apart := false }
def RadixChecksSaid : Prop := radixChecksRow.holds Try.pinned (OpenSpec.ofChange radixChecksSpec)

/-- ITS FALSE NEIGHBOUR: 'it returns false'. Refute it at one input. -/
def radixChecksWrong : ChangeSpec := { name := "radixChecks", fn := fun _ => fun
  | [d] => { results := [.lit (.bool false)], args := [d] }
  | _ => none }
def RadixChecksWrongFalsely : Prop := radixChecksRow.holds Try.pinned (OpenSpec.ofChange radixChecksWrong)

/-- 'turnpikelaw13.RadixBegins': WHATEVER THE INPUT: true; the input reads as it did. -/
def radixBeginsSpec : ChangeSpec := { name := "radixBegins", fn := fun _ => fun
  | [d] => { results := [.lit (.bool true)], args := [d] }
  | _ => none }
def radixBeginsRow : OpenClaim := { program := "yteciaomjpafaiaa", sum := "5035009369c2564838cb725b38da9a58692d402c1156892ea19f829ed888bbc4", func := "turnpike/turnpikelaw13.RadixBegins", spec := "radixBegins", inPlace := ["internal/bytealg.IndexByteString", "internal/bytealg.abigen_runtime_cmpstring", "slices.overlaps[turnpike/radix.entry[int]]", "internal/abi.NoEscape", "internal/bytealg.IndexString", "internal/bytealg.MakeNoZero"], unfollowed := true, recurses := true, named := ["internal/bytealg.MaxLen"], apart := false }
def RadixBeginsSaid : Prop := radixBeginsRow.holds Try.pinned (OpenSpec.ofChange radixBeginsSpec)

/-- ITS FALSE NEIGHBOUR: 'it returns false'. Refute it at one input. -/
def radixBeginsWrong : ChangeSpec := { name := "radixBegins", fn := fun _ => fun
  | [d] => { results := [.lit (.bool false)], args := [d] }
  | _ => none }
def RadixBeginsWrongFalsely : Prop := radixBeginsRow.holds Try.pinned (OpenSpec.ofChange radixBeginsWrong)

/-- 'turnpikelaw13.RadixCompares': WHATEVER THE INPUT: true; the input reads as it did. -/
def radixComparesSpec : ChangeSpec := { name := "radixCompares", fn := fun _ => fun
  | [d1, d2] => { results := [.lit (.bool true)], args := [d1, d2] }
  | _ => none }
def radixComparesRow : OpenClaim := { program := "yteciaomjpafaiaa", sum := "5035009369c2564838cb725b38da9a58692d402c1156892ea19f829ed888bbc4", func := "turnpike/turnpikelaw13.RadixCompares", spec := "radixCompares", inPlace := ["internal/bytealg.IndexByteString", "internal/bytealg.abigen_runtime_cmpstring", "slices.overlaps[turnpike/radix.entry[int]]", "internal/abi.NoEscape", "internal/bytealg.IndexString", "internal/bytealg.MakeNoZero"], unfollowed := true, recurses := true, named := ["internal/bytealg.MaxLen"], apart := false }
def RadixComparesSaid : Prop := radixComparesRow.holds Try.pinned (OpenSpec.ofChange radixComparesSpec)

/-- ITS FALSE NEIGHBOUR: 'it returns false'. Refute it at one input. -/
def radixComparesWrong : ChangeSpec := { name := "radixCompares", fn := fun _ => fun
  | [d1, d2] => { results := [.lit (.bool false)], args := [d1, d2] }
  | _ => none }
def RadixComparesWrongFalsely : Prop := radixComparesRow.holds Try.pinned (OpenSpec.ofChange radixComparesWrong)

/-- 'turnpikelaw13.RadixSorts': WHATEVER THE INPUT: true; the input reads as it did. -/
def radixSortsSpec : ChangeSpec := { name := "radixSorts", fn := fun _ => fun
  | [d1, d2, d3] => { results := [.lit (.bool true)], args := [d1, d2, d3] }
  | _ => none }
def radixSortsRow : OpenClaim := { program := "yteciaomjpafaiaa", sum := "5035009369c2564838cb725b38da9a58692d402c1156892ea19f829ed888bbc4", func := "turnpike/turnpikelaw13.RadixSorts", spec := "radixSorts", inPlace := ["internal/bytealg.IndexByteString", "internal/bytealg.abigen_runtime_cmpstring", "slices.overlaps[turnpike/radix.entry[int]]", "internal/abi.NoEscape", "internal/bytealg.IndexString", "internal/bytealg.MakeNoZero"], unfollowed := true, recurses := true, named := ["internal/bytealg.MaxLen"], apart := false }
def RadixSortsSaid : Prop := radixSortsRow.holds Try.pinned (OpenSpec.ofChange radixSortsSpec)

/-- ITS FALSE NEIGHBOUR: 'it returns false'. Refute it at one input. -/
def radixSortsWrong : ChangeSpec := { name := "radixSorts", fn := fun _ => fun
  | [d1, d2, d3] => { results := [.lit (.bool false)], args := [d1, d2, d3] }
  | _ => none }
def RadixSortsWrongFalsely : Prop := radixSortsRow.holds Try.pinned (OpenSpec.ofChange radixSortsWrong)

/-- 'turnpikelaw13.RadixNil': WHATEVER THE INPUT: true; the input reads as it did. -/
def radixNilSpec : ChangeSpec := { name := "radixNil", fn := fun _ => fun
  | [d] => { results := [.lit (.bool true)], args := [d] }
  | _ => none }
def radixNilRow : OpenClaim := { program := "yteciaomjpafaiaa", sum := "5035009369c2564838cb725b38da9a58692d402c1156892ea19f829ed888bbc4", func := "turnpike/turnpikelaw13.RadixNil", spec := "radixNil", inPlace := ["internal/bytealg.abigen_runtime_cmpstring", "internal/bytealg.IndexByteString", "internal/abi.NoEscape", "internal/bytealg.IndexString", "internal/bytealg.MakeNoZero", "slices.overlaps[turnpike/radix.entry[int]]"], unfollowed := true, recurses := true, named := ["internal/bytealg.MaxLen"], apart := false }
def RadixNilSaid : Prop := radixNilRow.holds Try.pinned (OpenSpec.ofChange radixNilSpec)

/-- ITS FALSE NEIGHBOUR: 'it returns false'. Refute it at one input. -/
def radixNilWrong : ChangeSpec := { name := "radixNil", fn := fun _ => fun
  | [d] => { results := [.lit (.bool false)], args := [d] }
  | _ => none }
def RadixNilWrongFalsely : Prop := radixNilRow.holds Try.pinned (OpenSpec.ofChange radixNilWrong)

/- THE SECOND FORM. 'bulk': how many values and letters a reading holds, each counted each time it is reached (what is shared counts as often as it is met; a slice's spare places count too). A statement '..UptoSaid' is the law's where the arguments, and the package variables that the reading takes, are together of bulk at most 1048576: NARROWER than '..Said'. Prove '..Said' where nothing that the law and all that it calls make is longer than what came in: it says more and counts as full. Else prove '..UptoSaid'. A law counts once. -/
mutual
def uptoBulk {H : Type} : DataW H → Nat
  | .lit (.string bytes) => bytes.length + 1
  | .lit _ => 1
  | .nil => 1
  | .ptr d => uptoBulk d + 1
  | .slice elems spare => uptoBulkAll elems + uptoBulkAll spare + 1
  | .agg parts => uptoBulkAll parts + 1
  | .iface _ d => uptoBulk d + 1
  | .map entries => uptoBulkEntries entries + 1
  | .held _ => 1
def uptoBulkAll {H : Type} : List (DataW H) → Nat
  | [] => 0
  | d :: r => uptoBulk d + uptoBulkAll r
def uptoBulkEntries {H : Type} : List (Lit × DataW H) → Nat
  | [] => 0
  | x :: r => uptoBulkEntry x + uptoBulkEntries r
def uptoBulkEntry {H : Type} : Lit × DataW H → Nat
  | (.string bytes, d) => bytes.length + uptoBulk d + 1
  | (_, d) => uptoBulk d + 1
 end
def uptoSmall : (H : Type) → List (DataW H) → Bool := fun _ ds => decide (uptoBulkAll ds ≤ 1048576)
def OpenSpec.upto (s : _root_.Go.ChangeSpec) : _root_.Go.OpenSpec := { _root_.Go.OpenSpec.ofChange s with cond := some uptoSmall }

/-- 'turnpikelaw13.RadixFits', WHERE WHAT IT READS IS OF BULK AT MOST 1048576: true; the input reads as it did. -/
def radixFitsUptoRow : OpenClaim := { program := "yteciaomjpafaiaa", sum := "5035009369c2564838cb725b38da9a58692d402c1156892ea19f829ed888bbc4", func := "turnpike/turnpikelaw13.RadixFits", spec := "radixFits", inPlace := ["internal/bytealg.IndexByteString", "internal/abi.NoEscape", "internal/bytealg.IndexString", "internal/bytealg.MakeNoZero", "internal/bytealg.abigen_runtime_cmpstring", "slices.overlaps[turnpike/radix.entry[int]]"], unfollowed := true, recurses := true, named := ["internal/bytealg.MaxLen"], apart := false, narrowed := true }
def RadixFitsUptoSaid : Prop := radixFitsUptoRow.holds Try.pinned (OpenSpec.upto radixFitsSpec)

/-- 'turnpikelaw13.RadixChecks', WHERE WHAT IT READS IS OF BULK AT MOST 1048576: true; the input reads as it did. -/
def radixChecksUptoRow : OpenClaim := { program := "yteciaomjpafaiaa", sum := "5035009369c2564838cb725b38da9a58692d402c1156892ea19f829ed888bbc4", func := "turnpike/turnpikelaw13.RadixChecks", spec := "radixChecks", inPlace := ["internal/bytealg.IndexByteString", "internal/bytealg.abigen_runtime_cmpstring", "slices.overlaps[turnpike/radix.entry[int]]", "internal/abi.NoEscape", "internal/bytealg.IndexString", "internal/bytealg.MakeNoZero"], unfollowed := true, recurses := true, named := ["internal/bytealg.MaxLen"], apart := false, narrowed := true }
def RadixChecksUptoSaid : Prop := radixChecksUptoRow.holds Try.pinned (OpenSpec.upto radixChecksSpec)

/-- 'turnpikelaw13.RadixBegins', WHERE WHAT IT READS IS OF BULK AT MOST 1048576: true; the input reads as it did. -/
def radixBeginsUptoRow : OpenClaim := { program := "yteciaomjpafaiaa", sum := "5035009369c2564838cb725b38da9a58692d402c1156892ea19f829ed888bbc4", func := "turnpike/turnpikelaw13.RadixBegins", spec := "radixBegins", inPlace := ["internal/bytealg.IndexByteString", "internal/bytealg.abigen_runtime_cmpstring", "slices.overlaps[turnpike/radix.entry[int]]", "internal/abi.NoEscape", "internal/bytealg.IndexString", "internal/bytealg.MakeNoZero"], unfollowed := true, recurses := true, named := ["internal/bytealg.MaxLen"], apart := false, narrowed := true }
def RadixBeginsUptoSaid : Prop := radixBeginsUptoRow.holds Try.pinned (OpenSpec.upto radixBeginsSpec)

/-- 'turnpikelaw13.RadixCompares', WHERE WHAT IT READS IS OF BULK AT MOST 1048576: true; the input reads as it did. -/
def radixComparesUptoRow : OpenClaim := { program := "yteciaomjpafaiaa", sum := "5035009369c2564838cb725b38da9a58692d402c1156892ea19f829ed888bbc4", func := "turnpike/turnpikelaw13.RadixCompares", spec := "radixCompares", inPlace := ["internal/bytealg.IndexByteString", "internal/bytealg.abigen_runtime_cmpstring", "slices.overlaps[turnpike/radix.entry[int]]", "internal/abi.NoEscape", "internal/bytealg.IndexString", "internal/bytealg.MakeNoZero"], unfollowed := true, recurses := true, named := ["internal/bytealg.MaxLen"], apart := false, narrowed := true }
def RadixComparesUptoSaid : Prop := radixComparesUptoRow.holds Try.pinned (OpenSpec.upto radixComparesSpec)

/-- 'turnpikelaw13.RadixSorts', WHERE WHAT IT READS IS OF BULK AT MOST 1048576: true; the input reads as it did. -/
def radixSortsUptoRow : OpenClaim := { program := "yteciaomjpafaiaa", sum := "5035009369c2564838cb725b38da9a58692d402c1156892ea19f829ed888bbc4", func := "turnpike/turnpikelaw13.RadixSorts", spec := "radixSorts", inPlace := ["internal/bytealg.IndexByteString", "internal/bytealg.abigen_runtime_cmpstring", "slices.overlaps[turnpike/radix.entry[int]]", "internal/abi.NoEscape", "internal/bytealg.IndexString", "internal/bytealg.MakeNoZero"], unfollowed := true, recurses := true, named := ["internal/bytealg.MaxLen"], apart := false, narrowed := true }
def RadixSortsUptoSaid : Prop := radixSortsUptoRow.holds Try.pinned (OpenSpec.upto radixSortsSpec)

/-- 'turnpikelaw13.RadixNil', WHERE WHAT IT READS IS OF BULK AT MOST 1048576: true; the input reads as it did. -/
def radixNilUptoRow : OpenClaim := { program := "yteciaomjpafaiaa", sum := "5035009369c2564838cb725b38da9a58692d402c1156892ea19f829ed888bbc4", func := "turnpike/turnpikelaw13.RadixNil", spec := "radixNil", inPlace := ["internal/bytealg.abigen_runtime_cmpstring", "internal/bytealg.IndexByteString", "internal/abi.NoEscape", "internal/bytealg.IndexString", "internal/bytealg.MakeNoZero", "slices.overlaps[turnpike/radix.entry[int]]"], unfollowed := true, recurses := true, named := ["internal/bytealg.MaxLen"], apart := false, narrowed := true }
def RadixNilUptoSaid : Prop := radixNilUptoRow.holds Try.pinned (OpenSpec.upto radixNilSpec)

end Rows
end Go.Proofs.Yteciaomjpafaiaa
