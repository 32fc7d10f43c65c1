/-
  Encoding: the walks, of the program and of the reference.
-/
import Derived.Test.YtjlnbjlhlglneaaGreatDoorTgE
namespace Go.Proofs.YtjlnbjlhlglneaaGreatDoor
open Go.RowKit Go.Shelf Go.Lib

theorem builder_below {T e : TypeId} {B b : Nat} {bs : List Value} {w w' : World} (h : Lib.IsBuilderF T e B b bs w) (hb : Below w.heap.size w w') : Lib.IsBuilderF T e B b bs w' := by
  have one : ∀ p, Lib.BuilderAtF T e B b p bs w → Lib.BuilderAtF T e B b p bs w' := fun p hp => by
    have hlt := hp.lt
    obtain ⟨hB, v, hv, hown, hne⟩ := hp
    exact ⟨hB, v, (hb.block b hlt).trans hv, hown.kept (row := none) ⟨hb.os, hb.tape, hb.output, hb.size, fun k hk _ => hb.block k hk⟩ (by cases hv : v.ownBlock <;> simp), hne⟩
  exact h.elim (fun x => .inl (one _ x)) (fun x => .inr (one _ x))
theorem str_cells (l : List UInt8) : Lib.strCells ⟨l.toArray⟩ = Lib.byteCells l := rfl
set_option maxRecDepth 20000 in
set_option maxHeartbeats 2000000 in
theorem Encode_any (s : ByteArray) (w : World) (hs : s.size ≤ 1099511627776) :
    Calls Tryz.prog 31 #[.string s] w fun e w' => e = .returned (.string (enc s)) ∧ Below w.heap.size w w' := by
  have HF := Lib.hid (show enc s = ⟨(encL (s.data.toList.take s.size)).toArray⟩ by rw [take_full]; rfl)
  go_enter Tryz.func31, Tryz.ntmps31
  go_wp2
  go_loopw [7] (fun v wr => ∃ k : Nat, k ≤ s.size ∧ v = .int .i64 k ∧ Lib.IsBuilderF 88 5 w.heap.size w.heap.size (Lib.byteCells (encL (s.data.toList.take k))) wr ∧ Below w.heap.size w wr ∧ w.heap.size < wr.heap.size) (fun v _ => s.size - (RowKit.intOf v).toNat)
  case atStart => exact ⟨0, by omega, rfl, Lib.IsBuilderF.of (Lib.fresh_isBuilder 88 5 w), (Below.refl _ w).alloc (Nat.le_refl _) _, by simp⟩
  case round =>
    obtain ⟨k, hk, rfl, hI, hbw, hsz⟩ := hrel
    have hlen := encL_len (s.data.toList.take k)
    have hlk : (s.data.toList.take k).length ≤ k := List.length_take_le _ _
    by_cases hlt : k < s.size
    · have hb := @bt_eq s k hlt
      have HC := Lib.hid (fun w => class_any (bt s k) w (bt_nonneg s k) (bt_lt s k))
      have HE := Lib.hid (enc_at s hlt)
      have hone := class_one (bt s k)
      cases hu : unres (bt s k)
      · rw [hu] at hone
        have HB := Lib.hid (encB_no hu)
        have HP := Lib.hid (fun w => percent_any (byteAt s k) w)
        rw [byteAt_bt] at HP
        generalize encL (s.data.toList.take k) = acc at *
        clear hu
        go_wp2_with fail
        refine (HC.out _).mono ?_
        rintro e w' ⟨rfl, rfl⟩
        go_wp2_with fail
        refine (HP.out _).mono ?_
        rintro e w1 ⟨rfl, q, rfl⟩
        have hI1 := builder_below hI (below_drewN (Below.refl _ _) q)
        go_wp2_with fail
        refine (WriteString_k w.heap.size w.heap.size _ _ _ hI1 (by rw [Lib.byteCells_length, ← size_eq]; have : (pct (byteAt s k)).length = 3 := rfl; simp only; omega) (by have := hbw.size; exact this)).mono ?_
        rintro e w2 ⟨rfl, h2, b2, _⟩
        have hI2 : Lib.IsBuilderF 88 5 w.heap.size w.heap.size (Lib.byteCells (encL (s.data.toList.take (k + 1)))) w2 := .inr (by
          rw [HE.out, HB.out, Lib.byteCells_append]
          exact h2)
        have hbw2 : Below w.heap.size w w2 := (below_drewN hbw q).trans b2
        have hsz2 : w.heap.size < w2.heap.size := Nat.lt_of_lt_of_le hsz b2.size
        clear h2 hI hI1
        go_wp2
        go_roundw
        case rel => exact ⟨k + 1, by omega, by go_num, hI2, hbw2, hsz2⟩
        case measure => simp [RowKit.intOf]; omega
      · rw [hu] at hone
        have HB := Lib.hid (encB_yes hu)
        generalize encL (s.data.toList.take k) = acc at *
        clear hu
        go_wp2_with fail
        refine (HC.out _).mono ?_
        rintro e w' ⟨rfl, rfl⟩
        go_wp2_with fail
        refine (WriteByte_k w.heap.size w.heap.size _ _ _ hI (by rw [Lib.byteCells_length]; omega) (by have := hbw.size; exact this)).mono ?_
        rintro e w2 ⟨rfl, h2, b2, _⟩
        have hI2 : Lib.IsBuilderF 88 5 w.heap.size w.heap.size (Lib.byteCells (encL (s.data.toList.take (k + 1)))) w2 := .inr (by
          rw [HE.out, HB.out, Lib.byteCells_append]
          exact h2)
        have hbw2 : Below w.heap.size w w2 := hbw.trans b2
        have hsz2 : w.heap.size < w2.heap.size := Nat.lt_of_lt_of_le hsz b2.size
        clear h2 hI
        go_wp2
        go_roundw
        case rel => exact ⟨k + 1, by omega, by go_num, hI2, hbw2, hsz2⟩
        case measure => simp [RowKit.intOf]; omega
    · obtain rfl : k = s.size := by omega
      go_wp2_with fail
      refine (Tryz.Builder_String_any_k w.heap.size w.heap.size _ _ hI (by have := hbw.size; exact this)).mono ?_
      rintro e w1 ⟨rfl, _, b1, _⟩
      go_wp2
      go_ret
      exact ⟨ret_str HF.out.symm, hbw.trans b1⟩

/-- What a call hands back that writes on in a row of bytes of its caller's. -/
def GivesOn (w : World) (base : Nat) (l : List UInt8) (e : Ending) (w' : World) : Prop := ∃ v, e = .returned v ∧ OwnB w' base v l ∧ Below base w w'
theorem up_tab : ∀ n : Nat, n < 256 → bt upDigits (n / 16) = ((upDigits.data.toList.getD (n / 16) 0).toNat : Int) := fun _ _ => rfl
set_option maxRecDepth 20000 in
set_option maxHeartbeats 2000000 in
theorem put_yes (base : Nat) (v : Value) (l : List UInt8) (b : UInt8) (w : World) (ho : OwnB w base v l) (hbase : base ≤ w.heap.size) (hl : l.length ≤ 70368744177664) :
    Calls Tryz.prog 49 #[v, .int .u8 (b.toNat : Int), .bool true] w (GivesOn w base (l ++ [b])) := by
  obtain ⟨i0, hi0, hz0, hz1, hz2⟩ := info_parts info_byte
  have ho' := ho
  unfold OwnB at ho'
  go_enter Tryz.func49, Tryz.ntmps49
  go_wp2_with (at_builtin; refine wpList_append_own _ rfl _ _ 82 rfl base 5 i0 (.int .u8 0) 1 1 Tryz.underlying82 hi0 hz0 hz1 hz2 rfl (by decide) _ _ _ rfl (ho'.alloc _) ⟨w.heap.size, 0, none⟩ 1 1 [byteV b] rfl rfl (cell_one_new _ _ _) ?c1 ?c2 ?c3 ?c4 ?c5)
  case c1 => exact bytes_oneCell [b]
  case c2 => unfold maxLen; omega
  case c3 => omega
  case c4 => simp; omega
  case c5 =>
    intro v' w2 hown2 hg2 _
    have hb2 : Below base w w2 := ((Below.refl base w).alloc hbase _).grown hg2 (by simp; omega) (own_lt ho')
    have ho2 : OwnB w2 base v' (l ++ [b]) := by
      unfold OwnB
      rw [List.length_append, List.map_append]
      exact hown2
    go_wp2
    go_ret
    exact ⟨v', rfl, ho2, hb2⟩
theorem row_newc (w : World) (cs : Array Value) (t : TypeId) {n : Nat} (hn : n = w.heap.size) : Row (w.alloc (.cells cs t)) (some ⟨n, 0, none⟩) cs.toList := fun _ => by
  subst hn
  refine ⟨_, 0, rfl, by simp, fun j v hv => ?_⟩
  rw [Nat.zero_add, World.cell?_alloc_new]
  simpa using hv
theorem up_get {k : Nat} (h : k < 16) : ((((⟨#[48, 49, 50, 51, 52, 53, 54, 55, 56, 57, 65, 66, 67, 68, 69, 70]⟩ : ByteArray)[k]'(show k < 16 from h)).toNat : Nat) : Int) = ((upDigits.data.toList.getD k 0).toNat : Int) := @bt_eq upDigits k h
theorem pct_arr (b : UInt8) : (pct b).map byteV = (#[.int .u8 37, .int .u8 ((upDigits.data[b.toNat / 16]?.getD 0).toNat : Int), .int .u8 ((upDigits.data[b.toNat % 16]?.getD 0).toNat : Int)] : Array Value).toList := by simp [pct, byteV]
theorem below_drew {B : Nat} {w w' : World} (h : Below B w w') : Below B w w'.drew := ⟨h.os, h.tape, h.output, h.size, h.block⟩
set_option maxRecDepth 20000 in
set_option maxHeartbeats 2000000 in
theorem put_no (base : Nat) (v : Value) (l : List UInt8) (b : UInt8) (w : World) (ho : OwnB w base v l) (hbase : base ≤ w.heap.size) (hl : l.length ≤ 70368744177664) :
    Calls Tryz.prog 49 #[v, .int .u8 (b.toNat : Int), .bool false] w (GivesOn w base (l ++ pct b)) := by
  obtain ⟨i0, hi0, hz0, hz1, hz2⟩ := info_parts info_byte
  have ho' := ho
  unfold OwnB at ho'
  have hb := b.toNat_lt
  have h1 : (b.toNat : Int) < 256 := by omega
  have hq : b.toNat / 16 < 16 := by omega
  have hr : b.toNat % 16 < 16 := by omega
  have hq1 : ((b.toNat : Int) / 16) < 16 := by omega
  have hr1 : ((b.toNat : Int) % 16) < 16 := by omega
  have hq0 : 0 ≤ ((b.toNat : Int) / 16) := by omega
  have hr0 : 0 ≤ ((b.toNat : Int) % 16) := by omega
  have hqn : ((b.toNat : Int) / 16).toNat = b.toNat / 16 := by omega
  have hrn : ((b.toNat : Int) % 16).toNat = b.toNat % 16 := by omega
  have hw1 : IntKind.u8.wrap ((b.toNat : Int) / 16) = (b.toNat : Int) / 16 := IntWalk.u8_in _ (by omega)
  have hw2 : IntKind.u8.wrap ((b.toNat : Int) % 16) = (b.toNat : Int) % 16 := IntWalk.u8_in _ (by omega)
  have htm : (b.toNat : Int).tmod 16 = (b.toNat : Int) % 16 := IntWalk.rem_in _ _ (by omega)
  have u1 := up_get hq
  have u2 := up_get hr
  go_enter Tryz.func49, Tryz.ntmps49
  go_wp2_with fail
  go_region_held3 (fun _ => True) (trivial) ((refine step_append_any _ rfl (.tmp 12) (.tmp 19) 82 rfl base 5 i0 (.int .u8 0) 1 1 Tryz.underlying82 hi0 hz0 hz1 hz2 rfl (by decide) _ _ _ (by rfl) (ho'.drew.alloc _) _ (some ⟨w.heap.size, 0, none⟩) 3 3 ((pct b).map byteV) (by rfl) (reads_of_row (by rw [pct_arr]; exact (row_newc _ _ _ rfl).drew) rfl (by decide)) (bytes_oneCell _) (by unfold maxLen; omega) (by omega) (by simp; omega) ?_; intro v' w2 hown2 hg2 _))
  all_goals
    have hb2 : Below base w w2 := (below_drew ((Below.refl base w).alloc hbase _)).grown hg2 (by simp; omega) (own_lt ho')
    have ho2 : OwnB w2 base v' (l ++ pct b) := by
      unfold OwnB
      rw [List.length_append, List.map_append]
      exact hown2
    clear hg2 hown2
    go_wp2
    go_ret
    exact ⟨v', rfl, ho2, hb2⟩
theorem put_any (base : Nat) (v : Value) (l : List UInt8) (b : UInt8) (p : Bool) (w : World) (ho : OwnB w base v l) (hbase : base ≤ w.heap.size) (hl : l.length ≤ 70368744177664) :
    Calls Tryz.prog 49 #[v, .int .u8 (b.toNat : Int), .bool p] w (GivesOn w base (l ++ (if p = true then [b] else pct b))) := by
  cases p
  · exact put_no base v l b w ho hbase hl
  · exact put_yes base v l b w ho hbase hl
end Go.Proofs.YtjlnbjlhlglneaaGreatDoor
