/-
  The segments of a path: the walk of the reference's function.
-/
import Derived.Test.YtjlnbjlhlglneaaGreatDoorTgSg
import Derived.Test.YtjlnbjlhlglneaaGreatDoorTgDr
import Derived.Test.YtjlnbjlhlglneaaGreatDoorTgF3
import Derived.Test.YtjlnbjlhlglneaaGreatDoorTgSm
import Derived.Laws.OwnMore
namespace Go.Proofs.YtjlnbjlhlglneaaGreatDoor
open Go.RowKit Go.Shelf Go.Lib

/-- The first places decoded, the others as they were. -/
def decTo (l : List ByteArray) (k : Nat) : List ByteArray := decs (l.take k) ++ l.drop k
theorem decTo_zero (l : List ByteArray) : decTo l 0 = l := by simp [decTo, decs]
theorem decTo_all (l : List ByteArray) : decTo l l.length = decs l := by simp [decTo]
theorem decTo_length (l : List ByteArray) (k : Nat) : (decTo l k).length = l.length := by
  unfold decTo decs
  rw [List.length_append, List.length_map, List.length_take, List.length_drop]
  omega
theorem decTo_at {l : List ByteArray} {k : Nat} {x : ByteArray} (h : l[k]? = some x) : (decTo l k)[k]? = some x := by
  have hk := lt_of_some h
  have h1 : (decs (l.take k)).length = k := by unfold decs; rw [List.length_map, List.length_take]; omega
  unfold decTo
  rw [List.getElem?_append_right (by omega), h1, Nat.sub_self, List.getElem?_drop, Nat.add_zero]
  exact h
theorem decTo_succ {l : List ByteArray} {k : Nat} {x : ByteArray} (h : l[k]? = some x) : (decTo l k).set k (decR x).1 = decTo l (k + 1) := by
  have hk := lt_of_some h
  have h1 : (decs (l.take k)).length = k := by unfold decs; rw [List.length_map, List.length_take]; omega
  unfold decTo
  rw [List.set_append_right (h := by omega), h1, Nat.sub_self, take_snoc h]
  rw [List.drop_eq_getElem_cons hk]
  unfold decs
  rw [List.map_append, List.append_assoc]
  rfl
set_option maxRecDepth 100000 in
set_option maxHeartbeats 4000000 in
theorem rSegments_any (s : ByteArray) (w : World) (hs : s.size ≤ 4194304) :
    Calls Tryz.prog 17 #[.string s] w (GivesSegs w (segR s)) := by
  have HP := Lib.hid (fun w => rIsPath_any s w (by omega))
  cases hp : isPathB s
  · rw [segR_no hp]
    rw [hp] at HP
    clear hp
    go_enter Tryz.func17, Tryz.ntmps17
    go_wp2_with fail
    refine (HP.out _).mono ?_
    rintro e w1 ⟨rfl, rfl⟩
    go_wp2
    go_ret2
    exact ⟨_, _, rfl, World.ownsRow_lit w #[] 0 (Nat.le_refl _) (by unfold maxLen; omega) rfl, (Below.refl _ w).alloc (Nat.le_refl _) _⟩
  · have h1 : 1 ≤ s.size := by
      unfold isPathB at hp
      simp at hp
      omega
    rw [segR_yes hp]
    rw [hp] at HP
    clear hp
    have hz : (s.extract 1 s.size).size ≤ 4194304 := by rw [ByteArray.size_extract]; omega
    have HS := Lib.hid (fun w => rsplit_any (s.extract 1 s.size) 47 w hz)
    have hsz := Lib.hid (fun x (hx : x ∈ splitC (s.extract 1 s.size) 47) => Nat.le_trans (splitC_size hx) hz)
    have hln := Nat.le_trans (splitC_len (s.extract 1 s.size) 47) (Nat.add_le_add_right hz 1)
    unfold behind1
    clear hz
    generalize splitC (s.extract 1 s.size) 47 = l at *
    go_enter Tryz.func17, Tryz.ntmps17
    go_wp2_with fail
    refine (HP.out _).mono ?_
    rintro e w1 ⟨rfl, rfl⟩
    go_wp2_with fail
    refine (HS.out _).mono ?_
    rintro e w1 ⟨A, c, rfl, hown, hb1⟩
    go_wp2
    go_loopw [5] (fun i wr => ∃ k : Nat, k ≤ l.length ∧ i = .int .i64 k ∧ wr.ownsRow w.heap.size 9 1 (.slice A l.length c) l.length ((decTo l k).map .string) ∧ Below w.heap.size w wr) (fun i _ => l.length - (RowKit.intOf i).toNat)
    case atStart => exact ⟨0, by omega, rfl, by rw [decTo_zero]; exact hown, hb1⟩
    case round =>
      obtain ⟨k, hk, rfl, ho, hbw⟩ := hrel
      by_cases hlt : k < l.length
      · obtain ⟨x, hx⟩ := some_of_lt hlt
        have hxs := hsz.out x (List.mem_of_getElem? hx)
        obtain ⟨g, cap, hA, _, hgl⟩ := ho.form (by omega)
        injection hA with hA1 hA2 hA3
        subst hA1 hA3
        have hc : wr.cell? ⟨g, k, none⟩ = some (.string x) := by
          rw [ho.cellAt k (by omega), List.getElem?_map, decTo_at hx]
          rfl
        have HS2 := Lib.hid (decTo_succ hx)
        have HD := Lib.hid (fun w => rDecode_any x w (by omega))
        unfold decVal at HD
        generalize (decR x).1 = d at *
        clear hx
        go_wp2_with fail
        refine (HD.out _).mono ?_
        rintro e w2 ⟨rfl, hb2⟩
        have ho2 := own_below ho hb2
        have hbw2 := hbw.trans (hb2.mono hbw.size)
        have hf2 := ho2.frozenAt k
        have hgl2 : g < w2.heap.size := Nat.lt_of_lt_of_le hgl hb2.size
        obtain ⟨hs1, hs2⟩ := ho2.stored k (.string d)
        have hgb : w.heap.size ≤ g := own_lt ho2 g rfl
        have hc2 : w2.cell? ⟨g, k, none⟩ = some (.string x) := (hb2.cell (p := ⟨g, k, none⟩) hgl).trans hc
        have ho3 : (w2.setCell ⟨g, k, none⟩ (.string d)).ownsRow w.heap.size 9 1 (.slice (some ⟨g, 0, none⟩) l.length c) l.length ((decTo l (k + 1)).map .string) := by
          rw [← HS2.out, List.map_set]
          exact hs1
        have hbw3 : Below w.heap.size w (w2.setCell ⟨g, k, none⟩ (.string d)) := hbw2.setCell hgb _
        clear ho ho2 hs1 hs2 hb2 hc hbw2
        go_wp2
        go_roundw
        case rel => exact ⟨k + 1, by omega, by go_num, ho3, hbw3⟩
        case measure => simp [RowKit.intOf]; omega
      · obtain rfl : k = l.length := by omega
        rw [decTo_all] at ho
        have hdl : (decs l).length = l.length := by unfold decs; rw [List.length_map]
        go_wp2
        go_ret2
        exact ⟨A, c, by rw [hdl]; rfl, by rw [hdl]; exact ho, hbw⟩
end Go.Proofs.YtjlnbjlhlglneaaGreatDoor
