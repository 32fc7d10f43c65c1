/-
  Encoding, of the reference; decoding, of the program and of the reference: the walks.
-/
import Derived.Test.YtkhgnfofinpofaaTgEn
namespace Go.Proofs.Ytkhgnfofinpofaa
open Go.RowKit Go.Shelf Go.Lib

theorem own_empty (w : World) : OwnB (w.alloc (.cells #[] 5)) w.heap.size (.slice (some ⟨w.heap.size, 0, none⟩) 0 0) [] := World.ownsRow_lit w #[] 0 (Nat.le_refl _) (by unfold maxLen; omega) rfl
theorem OwnB.drew {w : World} {base : Nat} {v : Value} {l : List UInt8} (h : OwnB w base v l) : OwnB w.drew base v l := World.ownsRow.drew h
theorem OwnB.drewN {w : World} {base : Nat} {v : Value} {l : List UInt8} (h : OwnB w base v l) (q : Nat) : OwnB (w.drewN q) base v l := own_below h (below_drewN (Below.refl _ _) q)
theorem OwnB.below {w w' : World} {base : Nat} {v : Value} {l : List UInt8} (h : OwnB w base v l) (hb : Below w.heap.size w w') : OwnB w' base v l := own_below h hb
theorem enc_put (s : ByteArray) (k : Nat) : (if unres (bt s k) = true then [byteAt s k] else pct (byteAt s k)) = encB (byteAt s k) := by unfold encB; rw [byteAt_bt]

def decVal (s : ByteArray) : Value := .tuple #[.string (decR s).1, .int .i64 ((decR s).2.1 : Int), .int .i64 (decR s).2.2]
theorem decVal_ok {s : ByteArray} {acc : List UInt8} (h : decF s 0 [] = (acc, 0, true)) : decVal s = .tuple #[.string ⟨acc.toArray⟩, .int .i64 0, .int .i64 0] := by unfold decVal decR; rw [h]; rfl
theorem decVal_bad {s : ByteArray} {i : Nat} (h : decF s 0 [] = ([], i, false)) : decVal s = .tuple #[.string ⟨#[]⟩, .int .i64 (i : Int), .int .i64 51] := by unfold decVal decR; rw [h]; rfl
end Go.Proofs.Ytkhgnfofinpofaa
