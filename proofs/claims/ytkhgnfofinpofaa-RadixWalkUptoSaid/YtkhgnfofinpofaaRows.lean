/-
  No cell of these rows narrows 'for every input' (looked for: loops, veiled, ifaces, maps, wideKeys, modest, calm, conditions, laid).
  DERIVED. THE GIVEN ROWS OF THIS SEAT. 7 by the template 'for every input the law returns true; each argument reads behind the call as it read before'; 0 by the template 'total and deterministic' (their statements: YtkhgnfofinpofaaTotals.lean).
  GIVEN WITH THE SEED: the statements are not yours to turn. If you find one false, say at which input.
  Laid BY PROGRAM, IN A SANDBOX (cutbox-rows.mjs): the forced cells as the released guide's own fill.sh prints them over the translation 64b507e98319b3c5… (all of the seat's roots in one cut). By AI agents, Wed Nov 11 2026. No macro, syntax, notation, axiom, sorry.
-/
import Derived.Test.YtkhgnfofinpofaaChecked
import GoSem.Claim
import GoSem.ClaimJoined
import GoSem.ClaimMapViews
import Derived.JoinedTies
import Derived.KernelRfl
namespace Go.Proofs.Ytkhgnfofinpofaa
/- THE CELL 'sum', in the pinned program and in every row, IS THE sha256 OF THE DUMP (.gsa) THAT YtkhgnfofinpofaaProg.lean LOADS. Nothing in Lean hashes anything: it is a label: what it is worth is what the hold of that sum in a sandbox is worth. -/
noncomputable def Try.pinned : Pinned := { name := "ytkhgnfofinpofaa", sum := "64b507e98319b3c5ba9252bb099279eec2c4735ac77398706e2257e4716da5bc", checked := Try.checked }
namespace Rows
def none {H : Type} : Left H := { results := [], args := [] }

/-- 'turnpikelaw13.RadixMemory': WHATEVER THE INPUT: true; the input reads as it did. -/
def radixMemorySpec : ChangeSpec := { name := "radixMemory", fn := fun _ => fun
  | [d1, d2] => { results := [.lit (.bool true)], args := [d1, d2] }
  | _ => none }
def radixMemoryRow : OpenClaim := { program := "ytkhgnfofinpofaa", sum := "64b507e98319b3c5ba9252bb099279eec2c4735ac77398706e2257e4716da5bc", func := "turnpike/turnpikelaw13.RadixMemory", spec := "radixMemory", inPlace := ["internal/bytealg.IndexByteString", "internal/bytealg.abigen_runtime_cmpstring", "slices.overlaps[turnpike/radix.entry[int]]", "internal/abi.NoEscape", "internal/bytealg.IndexString", "internal/bytealg.MakeNoZero"], unfollowed := true, recurses := true, named := ["internal/bytealg.MaxLen"], apart := false }
def RadixMemorySaid : Prop := radixMemoryRow.holds Try.pinned (OpenSpec.ofChange radixMemorySpec)

/-- ITS FALSE NEIGHBOUR: 'it returns false'. Refute it at one input. -/
def radixMemoryWrong : ChangeSpec := { name := "radixMemory", fn := fun _ => fun
  | [d1, d2] => { results := [.lit (.bool false)], args := [d1, d2] }
  | _ => none }
def RadixMemoryWrongFalsely : Prop := radixMemoryRow.holds Try.pinned (OpenSpec.ofChange radixMemoryWrong)

/-- 'turnpikelaw13.RadixBegins': WHATEVER THE INPUT: true; the input reads as it did. -/
def radixBeginsSpec : ChangeSpec := { name := "radixBegins", fn := fun _ => fun
  | [d] => { results := [.lit (.bool true)], args := [d] }
  | _ => none }
def radixBeginsRow : OpenClaim := { program := "ytkhgnfofinpofaa", sum := "64b507e98319b3c5ba9252bb099279eec2c4735ac77398706e2257e4716da5bc", func := "turnpike/turnpikelaw13.RadixBegins", spec := "radixBegins", inPlace := ["internal/bytealg.IndexByteString", "internal/bytealg.abigen_runtime_cmpstring", "slices.overlaps[turnpike/radix.entry[int]]", "internal/abi.NoEscape", "internal/bytealg.IndexString", "internal/bytealg.MakeNoZero"], unfollowed := true, recurses := true, named := ["internal/bytealg.MaxLen"], apart := false }
def RadixBeginsSaid : Prop := radixBeginsRow.holds Try.pinned (OpenSpec.ofChange radixBeginsSpec)

/-- ITS FALSE NEIGHBOUR: 'it returns false'. Refute it at one input. -/
def radixBeginsWrong : ChangeSpec := { name := "radixBegins", fn := fun _ => fun
  | [d] => { results := [.lit (.bool false)], args := [d] }
  | _ => none }
def RadixBeginsWrongFalsely : Prop := radixBeginsRow.holds Try.pinned (OpenSpec.ofChange radixBeginsWrong)

/-- 'turnpikelaw13.RadixFlat': WHATEVER THE INPUT: true; the input reads as it did. -/
def radixFlatSpec : ChangeSpec := { name := "radixFlat", fn := fun _ => fun
  | [d1, d2] => { results := [.lit (.bool true)], args := [d1, d2] }
  | _ => none }
def radixFlatRow : OpenClaim := { program := "ytkhgnfofinpofaa", sum := "64b507e98319b3c5ba9252bb099279eec2c4735ac77398706e2257e4716da5bc", func := "turnpike/turnpikelaw13.RadixFlat", spec := "radixFlat", inPlace := ["internal/bytealg.IndexByteString", "internal/bytealg.abigen_runtime_cmpstring", "slices.overlaps[turnpike/radix.entry[int]]", "internal/abi.NoEscape", "internal/bytealg.IndexString", "internal/bytealg.MakeNoZero"], unfollowed := true, recurses := true, named := ["internal/bytealg.MaxLen"], apart := false }
def RadixFlatSaid : Prop := radixFlatRow.holds Try.pinned (OpenSpec.ofChange radixFlatSpec)

/-- ITS FALSE NEIGHBOUR: 'it returns false'. Refute it at one input. -/
def radixFlatWrong : ChangeSpec := { name := "radixFlat", fn := fun _ => fun
  | [d1, d2] => { results := [.lit (.bool false)], args := [d1, d2] }
  | _ => none }
def RadixFlatWrongFalsely : Prop := radixFlatRow.holds Try.pinned (OpenSpec.ofChange radixFlatWrong)

/-- 'turnpikelaw13.RadixNodes': WHATEVER THE INPUT: true; the input reads as it did. -/
def radixNodesSpec : ChangeSpec := { name := "radixNodes", fn := fun _ => fun
  | [d] => { results := [.lit (.bool true)], args := [d] }
  | _ => none }
def radixNodesRow : OpenClaim := { program := "ytkhgnfofinpofaa", sum := "64b507e98319b3c5ba9252bb099279eec2c4735ac77398706e2257e4716da5bc", func := "turnpike/turnpikelaw13.RadixNodes", spec := "radixNodes", inPlace := ["internal/bytealg.IndexByteString", "internal/bytealg.abigen_runtime_cmpstring", "slices.overlaps[turnpike/radix.entry[int]]", "internal/abi.NoEscape", "internal/bytealg.IndexString", "internal/bytealg.MakeNoZero"], unfollowed := true, recurses := true, named := ["internal/bytealg.MaxLen"], apart := false }
def RadixNodesSaid : Prop := radixNodesRow.holds Try.pinned (OpenSpec.ofChange radixNodesSpec)

/-- ITS FALSE NEIGHBOUR: 'it returns false'. Refute it at one input. -/
def radixNodesWrong : ChangeSpec := { name := "radixNodes", fn := fun _ => fun
  | [d] => { results := [.lit (.bool false)], args := [d] }
  | _ => none }
def RadixNodesWrongFalsely : Prop := radixNodesRow.holds Try.pinned (OpenSpec.ofChange radixNodesWrong)

/-- 'turnpikelaw13.RadixWalk': WHATEVER THE INPUT: true; the input reads as it did. -/
def radixWalkSpec : ChangeSpec := { name := "radixWalk", fn := fun _ => fun
  | [d1, d2] => { results := [.lit (.bool true)], args := [d1, d2] }
  | _ => none }
def radixWalkRow : OpenClaim := { program := "ytkhgnfofinpofaa", sum := "64b507e98319b3c5ba9252bb099279eec2c4735ac77398706e2257e4716da5bc", func := "turnpike/turnpikelaw13.RadixWalk", spec := "radixWalk", inPlace := ["internal/bytealg.IndexByteString", "internal/bytealg.abigen_runtime_cmpstring", "slices.overlaps[turnpike/radix.entry[int]]", "internal/abi.NoEscape", "internal/bytealg.IndexString", "internal/bytealg.MakeNoZero"], unfollowed := true, recurses := true, named := ["internal/bytealg.MaxLen"], apart := false }
def RadixWalkSaid : Prop := radixWalkRow.holds Try.pinned (OpenSpec.ofChange radixWalkSpec)

/-- ITS FALSE NEIGHBOUR: 'it returns false'. Refute it at one input. -/
def radixWalkWrong : ChangeSpec := { name := "radixWalk", fn := fun _ => fun
  | [d1, d2] => { results := [.lit (.bool false)], args := [d1, d2] }
  | _ => none }
def RadixWalkWrongFalsely : Prop := radixWalkRow.holds Try.pinned (OpenSpec.ofChange radixWalkWrong)

/-- 'turnpikelaw13.RadixUndo': WHATEVER THE INPUT: true; the input reads as it did. -/
def radixUndoSpec : ChangeSpec := { name := "radixUndo", fn := fun _ => fun
  | [d1, d2, d3] => { results := [.lit (.bool true)], args := [d1, d2, d3] }
  | _ => none }
def radixUndoRow : OpenClaim := { program := "ytkhgnfofinpofaa", sum := "64b507e98319b3c5ba9252bb099279eec2c4735ac77398706e2257e4716da5bc", func := "turnpike/turnpikelaw13.RadixUndo", spec := "radixUndo", inPlace := ["internal/bytealg.IndexByteString", "internal/bytealg.abigen_runtime_cmpstring", "slices.overlaps[turnpike/radix.entry[int]]", "internal/abi.NoEscape", "internal/bytealg.IndexString", "internal/bytealg.MakeNoZero", "slices.overlaps[turnpike/radix.entry[string]]"], unfollowed := true, recurses := true, named := ["internal/bytealg.MaxLen"], apart := false }
def RadixUndoSaid : Prop := radixUndoRow.holds Try.pinned (OpenSpec.ofChange radixUndoSpec)

/-- ITS FALSE NEIGHBOUR: 'it returns false'. Refute it at one input. -/
def radixUndoWrong : ChangeSpec := { name := "radixUndo", fn := fun _ => fun
  | [d1, d2, d3] => { results := [.lit (.bool false)], args := [d1, d2, d3] }
  | _ => none }
def RadixUndoWrongFalsely : Prop := radixUndoRow.holds Try.pinned (OpenSpec.ofChange radixUndoWrong)

/-- 'turnpikelaw13.RadixOrder': WHATEVER THE INPUT: true; the input reads as it did. -/
def radixOrderSpec : ChangeSpec := { name := "radixOrder", fn := fun _ => fun
  | [d1, d2] => { results := [.lit (.bool true)], args := [d1, d2] }
  | _ => none }
def radixOrderRow : OpenClaim := { program := "ytkhgnfofinpofaa", sum := "64b507e98319b3c5ba9252bb099279eec2c4735ac77398706e2257e4716da5bc", func := "turnpike/turnpikelaw13.RadixOrder", spec := "radixOrder", inPlace := ["internal/bytealg.IndexByteString", "internal/bytealg.abigen_runtime_cmpstring", "slices.overlaps[turnpike/radix.entry[int]]", "internal/abi.NoEscape", "internal/bytealg.IndexString", "internal/bytealg.MakeNoZero"], unfollowed := true, recurses := true, named := ["internal/bytealg.MaxLen"], apart := false }
def RadixOrderSaid : Prop := radixOrderRow.holds Try.pinned (OpenSpec.ofChange radixOrderSpec)

/-- ITS FALSE NEIGHBOUR: 'it returns false'. Refute it at one input. -/
def radixOrderWrong : ChangeSpec := { name := "radixOrder", fn := fun _ => fun
  | [d1, d2] => { results := [.lit (.bool false)], args := [d1, d2] }
  | _ => none }
def RadixOrderWrongFalsely : Prop := radixOrderRow.holds Try.pinned (OpenSpec.ofChange radixOrderWrong)

/- THE SECOND FORM. 'bulk': how many values and letters a reading holds, each counted each time it is reached (what is shared counts as often as it is met; a slice's spare places count too). A statement '..UptoSaid' is the law's where the arguments, and the package variables that the reading takes, are together of bulk at most 1048576: NARROWER than '..Said'. Prove '..Said' where nothing that the law and all that it calls make is longer than what came in: it says more and counts as full. Else prove '..UptoSaid'. A law counts once. -/
mutual
def uptoBulk {H : Type} : DataW H → Nat
  | .lit (.string bytes) => bytes.length + 1
  | .lit _ => 1
  | .nil => 1
  | .ptr d => uptoBulk d + 1
  | .slice elems spare => uptoBulkAll elems + uptoBulkAll spare + 1
  | .agg parts => uptoBulkAll parts + 1
  | .iface _ d => uptoBulk d + 1
  | .map entries => uptoBulkEntries entries + 1
  | .held _ => 1
def uptoBulkAll {H : Type} : List (DataW H) → Nat
  | [] => 0
  | d :: r => uptoBulk d + uptoBulkAll r
def uptoBulkEntries {H : Type} : List (Lit × DataW H) → Nat
  | [] => 0
  | x :: r => uptoBulkEntry x + uptoBulkEntries r
def uptoBulkEntry {H : Type} : Lit × DataW H → Nat
  | (.string bytes, d) => bytes.length + uptoBulk d + 1
  | (_, d) => uptoBulk d + 1
 end
def uptoSmall : (H : Type) → List (DataW H) → Bool := fun _ ds => decide (uptoBulkAll ds ≤ 1048576)
def OpenSpec.upto (s : _root_.Go.ChangeSpec) : _root_.Go.OpenSpec := { _root_.Go.OpenSpec.ofChange s with cond := some uptoSmall }

/-- 'turnpikelaw13.RadixMemory', WHERE WHAT IT READS IS OF BULK AT MOST 1048576: true; the input reads as it did. -/
def radixMemoryUptoRow : OpenClaim := { program := "ytkhgnfofinpofaa", sum := "64b507e98319b3c5ba9252bb099279eec2c4735ac77398706e2257e4716da5bc", func := "turnpike/turnpikelaw13.RadixMemory", spec := "radixMemory", inPlace := ["internal/bytealg.IndexByteString", "internal/bytealg.abigen_runtime_cmpstring", "slices.overlaps[turnpike/radix.entry[int]]", "internal/abi.NoEscape", "internal/bytealg.IndexString", "internal/bytealg.MakeNoZero"], unfollowed := true, recurses := true, named := ["internal/bytealg.MaxLen"], apart := false, narrowed := true }
def RadixMemoryUptoSaid : Prop := radixMemoryUptoRow.holds Try.pinned (OpenSpec.upto radixMemorySpec)

/-- 'turnpikelaw13.RadixBegins', WHERE WHAT IT READS IS OF BULK AT MOST 1048576: true; the input reads as it did. -/
def radixBeginsUptoRow : OpenClaim := { program := "ytkhgnfofinpofaa", sum := "64b507e98319b3c5ba9252bb099279eec2c4735ac77398706e2257e4716da5bc", func := "turnpike/turnpikelaw13.RadixBegins", spec := "radixBegins", inPlace := ["internal/bytealg.IndexByteString", "internal/bytealg.abigen_runtime_cmpstring", "slices.overlaps[turnpike/radix.entry[int]]", "internal/abi.NoEscape", "internal/bytealg.IndexString", "internal/bytealg.MakeNoZero"], unfollowed := true, recurses := true, named := ["internal/bytealg.MaxLen"], apart := false, narrowed := true }
def RadixBeginsUptoSaid : Prop := radixBeginsUptoRow.holds Try.pinned (OpenSpec.upto radixBeginsSpec)

/-- 'turnpikelaw13.RadixFlat', WHERE WHAT IT READS IS OF BULK AT MOST 1048576: true; the input reads as it did. -/
def radixFlatUptoRow : OpenClaim := { program := "ytkhgnfofinpofaa", sum := "64b507e98319b3c5ba9252bb099279eec2c4735ac77398706e2257e4716da5bc", func := "turnpike/turnpikelaw13.RadixFlat", spec := "radixFlat", inPlace := ["internal/bytealg.IndexByteString", "internal/bytealg.abigen_runtime_cmpstring", "slices.overlaps[turnpike/radix.entry[int]]", "internal/abi.NoEscape", "internal/bytealg.IndexString", "internal/bytealg.MakeNoZero"], unfollowed := true, recurses := true, named := ["internal/bytealg.MaxLen"], apart := false, narrowed := true }
def RadixFlatUptoSaid : Prop := radixFlatUptoRow.holds Try.pinned (OpenSpec.upto radixFlatSpec)

/-- 'turnpikelaw13.RadixNodes', WHERE WHAT IT READS IS OF BULK AT MOST 1048576: true; the input reads as it did. -/
def radixNodesUptoRow : OpenClaim := { program := "ytkhgnfofinpofaa", sum := "64b507e98319b3c5ba9252bb099279eec2c4735ac77398706e2257e4716da5bc", func := "turnpike/turnpikelaw13.RadixNodes", spec := "radixNodes", inPlace := ["internal/bytealg.IndexByteString", "internal/bytealg.abigen_runtime_cmpstring", "slices.overlaps[turnpike/radix.entry[int]]", "internal/abi.NoEscape", "internal/bytealg.IndexString", "internal/bytealg.MakeNoZero"], unfollowed := true, recurses := true, named := ["internal/bytealg.MaxLen"], apart := false, narrowed := true }
def RadixNodesUptoSaid : Prop := radixNodesUptoRow.holds Try.pinned (OpenSpec.upto radixNodesSpec)

/-- 'turnpikelaw13.RadixWalk', WHERE WHAT IT READS IS OF BULK AT MOST 1048576: true; the input reads as it did. -/
def radixWalkUptoRow : OpenClaim := { program := "ytkhgnfofinpofaa", sum := "64b507e98319b3c5ba9252bb099279eec2c4735ac77398706e2257e4716da5bc", func := "turnpike/turnpikelaw13.RadixWalk", spec := "radixWalk", inPlace := ["internal/bytealg.IndexByteString", "internal/bytealg.abigen_runtime_cmpstring", "slices.overlaps[turnpike/radix.entry[int]]", "internal/abi.NoEscape", "internal/bytealg.IndexString", "internal/bytealg.MakeNoZero"], unfollowed := true, recurses := true, named := ["internal/bytealg.MaxLen"], apart := false, narrowed := true }
def RadixWalkUptoSaid : Prop := radixWalkUptoRow.holds Try.pinned (OpenSpec.upto radixWalkSpec)

/-- 'turnpikelaw13.RadixUndo', WHERE WHAT IT READS IS OF BULK AT MOST 1048576: true; the input reads as it did. -/
def radixUndoUptoRow : OpenClaim := { program := "ytkhgnfofinpofaa", sum := "64b507e98319b3c5ba9252bb099279eec2c4735ac77398706e2257e4716da5bc", func := "turnpike/turnpikelaw13.RadixUndo", spec := "radixUndo", inPlace := ["internal/bytealg.IndexByteString", "internal/bytealg.abigen_runtime_cmpstring", "slices.overlaps[turnpike/radix.entry[int]]", "internal/abi.NoEscape", "internal/bytealg.IndexString", "internal/bytealg.MakeNoZero", "slices.overlaps[turnpike/radix.entry[string]]"], unfollowed := true, recurses := true, named := ["internal/bytealg.MaxLen"], apart := false, narrowed := true }
def RadixUndoUptoSaid : Prop := radixUndoUptoRow.holds Try.pinned (OpenSpec.upto radixUndoSpec)

/-- 'turnpikelaw13.RadixOrder', WHERE WHAT IT READS IS OF BULK AT MOST 1048576: true; the input reads as it did. -/
def radixOrderUptoRow : OpenClaim := { program := "ytkhgnfofinpofaa", sum := "64b507e98319b3c5ba9252bb099279eec2c4735ac77398706e2257e4716da5bc", func := "turnpike/turnpikelaw13.RadixOrder", spec := "radixOrder", inPlace := ["internal/bytealg.IndexByteString", "internal/bytealg.abigen_runtime_cmpstring", "slices.overlaps[turnpike/radix.entry[int]]", "internal/abi.NoEscape", "internal/bytealg.IndexString", "internal/bytealg.MakeNoZero"], unfollowed := true, recurses := true, named := ["internal/bytealg.MaxLen"], apart := false, narrowed := true }
def RadixOrderUptoSaid : Prop := radixOrderUptoRow.holds Try.pinned (OpenSpec.upto radixOrderSpec)

end Rows
end Go.Proofs.Ytkhgnfofinpofaa
