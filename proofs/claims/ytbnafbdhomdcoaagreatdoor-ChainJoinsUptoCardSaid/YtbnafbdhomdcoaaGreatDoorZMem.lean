/-
 Mem, without what this claim does not reach.
-/
import Derived.Test.YtbnafbdhomdcoaaGreatDoorZPlain
import Derived.Lib.ConvBytes
import Derived.Laws.BytesArg
import Derived.WalkSmall
namespace Go.Proofs.YtbnafbdhomdcoaaGreatDoor
open Go.RowKit
structure BytesAt (w : World) (b : Nat) (l : List UInt8) : Prop where
 cell : ∀ j, j < l.length → w.cell? ⟨b, j, none⟩ = some (.int .u8 ((l.getD j 0).toNat : Int))
 free : ∀ j, j < l.length → w.frozen? ⟨b, j, none⟩ = false
theorem BytesAt.of_conv (w : World) (e : TypeId) (s : ByteArray) : BytesAt (Lib.bytesWorld w e s) w.heap.size s.data.toList := by
 have hz := size_eq s
 refine ⟨fun j hj => Lib.bytesWorld_cell w e s j (by omega), fun j hj => ?_⟩
 have h := Lib.bytesWorld_at_new w e s
 have hc : s.size ≤ (Lib.bytesCells w e s).size := by
  have : s.data.size = s.size := rfl
  simp [Lib.bytesCells]
 simp [World.frozen?, h]
 omega
theorem BytesAt.drew {w : World} {b : Nat} {l : List UInt8} (h : BytesAt w b l) : BytesAt w.drew b l := ⟨h.cell, h.free⟩
theorem BytesAt.drewN {w : World} {b : Nat} {l : List UInt8} (h : BytesAt w b l) (n : Nat) : BytesAt (w.drewN n) b l := ⟨h.cell, h.free⟩
theorem BytesAt.below {B : Nat} {w w' : World} {b : Nat} {l : List UInt8} (h : BytesAt w b l) (hb : Below B w w') (hB : b < B) : BytesAt w' b l :=
 ⟨fun j hj => by rw [hb.cell (p := ⟨b, j, none⟩) hB]; exact h.cell j hj, fun j hj => by rw [hb.frozen (p := ⟨b, j, none⟩) hB]; exact h.free j hj⟩
theorem BytesAt.set {w : World} {b k : Nat} {l : List UInt8} (h : BytesAt w b l) (hk : k < l.length) (c : UInt8) (v : Int) (hv : v = (c.toNat : Int)) :
  BytesAt (w.setCell ⟨b, k, none⟩ (.int .u8 v)) b (l.set k c) := by
 subst hv
 refine ⟨fun j hj => ?_, fun j hj => ?_⟩
 ·rw [List.length_set] at hj
  by_cases e : j = k
  ·subst e
   rw [World.cell?_setCell_same w _ _ (h.cell j hj)]
   simp [List.getD, hk]
  ·rw [World.cell?_setCell_other w _ _ _ (by intro x; injection x with _ x; exact e x.symm), h.cell j hj]
   simp [List.getD, Ne.symm e]
 ·rw [List.length_set] at hj
  rw [World.frozen?_setCell]
  exact h.free j hj
theorem below_conv (w : World) (e : TypeId) (s : ByteArray) : Below w.heap.size w (Lib.bytesWorld w e s) :=
 ⟨rfl, rfl, rfl, by rw [Lib.bytesWorld_size]; omega, fun k hk => Lib.bytesWorld_at_old w e s k hk⟩
theorem BytesAt.conv {P : Program} {w : World} {b : Nat} {l : List UInt8} (h : BytesAt w b l) {src dst e : TypeId} (hs : P.underlying src = some (.slice e)) (he : P.underlying e = some (.int .u8)) (hd : P.underlying dst = some .string) (cap : Nat) :
  (convert src dst (.slice (some ⟨b, 0, none⟩) l.length cap)).run P w = .ok (.string ⟨l.toArray⟩) w := by
 have h1 := run_convert_bytes_arg (P := P) w src e hs he b 0 l.length cap (l.map fun c => (c.toNat : Int)) (by simp) (fun i hi => by
  rw [Nat.zero_add, h.cell i hi]
  simp [List.getD, hi]) dst hd
 rw [h1]
 congr 2
 apply ByteArray.ext
 apply Array.ext'
 rw [strOfNums_data, List.map_map]
 exact (List.map_congr_left fun c _ => by simp [Function.comp]).trans (List.map_id l)
end Go.Proofs.YtbnafbdhomdcoaaGreatDoor
