/-
  The library's strings.Builder: contracts of the shelf, laid over this program by hand (the kit's own laying passes them over here).
-/
import Derived.Test.YtkhgnfofinpofaaShelf
import Derived.Shelf.Strings.BuilderK
namespace Go.Proofs
open Go.Shelf

def Try.hays240_ren : Go.Shelf.Ren := ⟨fun | 240 => 122 | 276 => 131 | n => n, fun | 5 => 5 | 37 => 103 | 0 => 0 | 4 => 4 | 9 => 9 | 20 => 20 | 70 => 151 | 72 => 153 | 164 => 175 | n => n, fun | n => n⟩
theorem Try.hays240 : Go.Proofs.Lays.n240 Try.prog Try.hays240_ren := {
  mixed := by kernel_rfl
  f240 := Try.func122.trans (congrArg some (by kernel_rfl))
  f276 := Try.func131.trans (congrArg some (by kernel_rfl))
  t0 := Try.underlying0
  a0 := Try.isAgg0
  z0 := Try.sizeOf0
  v0 := Try.zeroValue0
  t4 := Try.underlying4
  a4 := Try.isAgg4
  z4 := Try.sizeOf4
  v4 := Try.zeroValue4
  t9 := Try.underlying9
  a9 := Try.isAgg9
  z9 := Try.sizeOf9
  v9 := Try.zeroValue9
  t20 := Try.underlying20
  a20 := Try.isAgg20
  z20 := Try.sizeOf20
  v20 := Try.zeroValue20
  t70 := Try.underlying151
  a70 := Try.isAgg151
  z70 := Try.sizeOf151
  v70 := Try.zeroValue151
  t72 := Try.underlying153
  a72 := Try.isAgg153
  z72 := Try.sizeOf153
  v72 := Try.zeroValue153
  t164 := Try.underlying175
  a164 := Try.isAgg175
  z164 := Try.sizeOf175
  v164 := Try.zeroValue175 }

def Try.hays166_ren : Go.Shelf.Ren := ⟨fun | 166 => 97 | 240 => 122 | 276 => 131 | n => n, fun | 5 => 5 | 0 => 0 | 3 => 3 | 4 => 4 | 9 => 9 | 20 => 20 | 37 => 103 | 70 => 151 | 72 => 153 | 75 => 157 | 164 => 175 | 80 => 165 | n => n, fun | n => n⟩
theorem Try.hays166 : Go.Proofs.Lays.n166 Try.prog Try.hays166_ren := {
  mixed := by kernel_rfl
  f166 := Try.func97.trans (congrArg some (by kernel_rfl))
  f240 := Try.func122.trans (congrArg some (by kernel_rfl))
  f276 := Try.func131.trans (congrArg some (by kernel_rfl))
  t0 := Try.underlying0
  a0 := Try.isAgg0
  z0 := Try.sizeOf0
  v0 := Try.zeroValue0
  t3 := Try.underlying3
  a3 := Try.isAgg3
  z3 := Try.sizeOf3
  v3 := Try.zeroValue3
  t4 := Try.underlying4
  a4 := Try.isAgg4
  z4 := Try.sizeOf4
  v4 := Try.zeroValue4
  t9 := Try.underlying9
  a9 := Try.isAgg9
  z9 := Try.sizeOf9
  v9 := Try.zeroValue9
  t20 := Try.underlying20
  a20 := Try.isAgg20
  z20 := Try.sizeOf20
  v20 := Try.zeroValue20
  t37 := Try.underlying103
  a37 := Try.isAgg103
  z37 := Try.sizeOf103
  v37 := Try.zeroValue103
  t70 := Try.underlying151
  a70 := Try.isAgg151
  z70 := Try.sizeOf151
  v70 := Try.zeroValue151
  t72 := Try.underlying153
  a72 := Try.isAgg153
  z72 := Try.sizeOf153
  v72 := Try.zeroValue153
  t75 := Try.underlying157
  a75 := Try.isAgg157
  z75 := Try.sizeOf157
  v75 := Try.zeroValue157
  t164 := Try.underlying175
  a164 := Try.isAgg175
  z164 := Try.sizeOf175
  v164 := Try.zeroValue175 }

def Try.hays167_ren : Go.Shelf.Ren := ⟨fun | 167 => 95 | 240 => 122 | 276 => 131 | n => n, fun | 0 => 0 | 4 => 4 | 5 => 5 | 9 => 9 | 20 => 20 | 37 => 103 | 70 => 151 | 72 => 153 | 75 => 157 | 164 => 175 | 80 => 165 | n => n, fun | n => n⟩
theorem Try.hays167 : Go.Proofs.Lays.n167 Try.prog Try.hays167_ren := {
  mixed := by kernel_rfl
  f167 := Try.func95.trans (congrArg some (by kernel_rfl))
  f240 := Try.func122.trans (congrArg some (by kernel_rfl))
  f276 := Try.func131.trans (congrArg some (by kernel_rfl))
  t0 := Try.underlying0
  a0 := Try.isAgg0
  z0 := Try.sizeOf0
  v0 := Try.zeroValue0
  t4 := Try.underlying4
  a4 := Try.isAgg4
  z4 := Try.sizeOf4
  v4 := Try.zeroValue4
  t5 := Try.underlying5
  a5 := Try.isAgg5
  z5 := Try.sizeOf5
  v5 := Try.zeroValue5
  t9 := Try.underlying9
  a9 := Try.isAgg9
  z9 := Try.sizeOf9
  v9 := Try.zeroValue9
  t20 := Try.underlying20
  a20 := Try.isAgg20
  z20 := Try.sizeOf20
  v20 := Try.zeroValue20
  t37 := Try.underlying103
  a37 := Try.isAgg103
  z37 := Try.sizeOf103
  v37 := Try.zeroValue103
  t70 := Try.underlying151
  a70 := Try.isAgg151
  z70 := Try.sizeOf151
  v70 := Try.zeroValue151
  t72 := Try.underlying153
  a72 := Try.isAgg153
  z72 := Try.sizeOf153
  v72 := Try.zeroValue153
  t75 := Try.underlying157
  a75 := Try.isAgg157
  z75 := Try.sizeOf157
  v75 := Try.zeroValue157
  t164 := Try.underlying175
  a164 := Try.isAgg175
  z164 := Try.sizeOf175
  v164 := Try.zeroValue175 }

theorem Try.hExtra166 : Builder.Extra Try.prog Try.hays166_ren where
  sizeBuilder := by kernel_rfl
  liesBuilder := by kernel_rfl
  t5 := Try.underlying5
  a5 := Try.isAgg5
  z5 := Try.sizeOf5
  v5 := Try.zeroValue5
  infoByte := by kernel_rfl
  cellsByte := by kernel_rfl
  sizeByte := by kernel_rfl
  neB5 := by decide
theorem Try.hExtra167 : Builder.Extra Try.prog Try.hays167_ren where
  sizeBuilder := by kernel_rfl
  liesBuilder := by kernel_rfl
  t5 := Try.underlying5
  a5 := Try.isAgg5
  z5 := Try.sizeOf5
  v5 := Try.zeroValue5
  infoByte := by kernel_rfl
  cellsByte := by kernel_rfl
  sizeByte := by kernel_rfl
  neB5 := by decide
namespace Ytkhgnfofinpofaa
open Go.RowKit
theorem WriteString_k (B b : Nat) (bs : List Value) (s : ByteArray) (w : World) (h : Lib.IsBuilderF 153 5 B b bs w) (hlen : bs.length + s.size ≤ 140737488355328) (hBw : B ≤ w.heap.size) :
    Calls Try.prog 97 #[.pointer (some ⟨b, 0, none⟩), .string s] w fun e w' => e = .returned (.tuple #[.int .i64 s.size, .nilIface]) ∧ (Lib.BuilderAtF 153 5 B b (.pointer (some ⟨b, 0, none⟩)) (bs ++ Lib.strCells s) w' ∧ Below B w w' ∧ Lib.OthersKept 5 (some b) w w') :=
  Any.Builder_WriteString_k Try.hays166 Try.hExtra166 B b bs s w h hlen hBw
theorem WriteByte_k (B b : Nat) (bs : List Value) (c : Int) (w : World) (h : Lib.IsBuilderF 153 5 B b bs w) (hlen : bs.length + 1 ≤ 140737488355328) (hBw : B ≤ w.heap.size) :
    Calls Try.prog 95 #[.pointer (some ⟨b, 0, none⟩), .int .u8 c] w fun e w' => e = .returned .nilIface ∧ (Lib.BuilderAtF 153 5 B b (.pointer (some ⟨b, 0, none⟩)) (bs ++ [.int .u8 c]) w' ∧ Below B w w' ∧ Lib.OthersKept 5 (some b) w w') :=
  Any.Builder_WriteByte_k Try.hays167 Try.hExtra167 B b bs c w h hlen hBw
end Ytkhgnfofinpofaa
end Go.Proofs
