/-
  The path of segments: the walks, of the program and of the reference.
-/
import Derived.Test.YtjlnbjlhlglneaaDoorTgPp
import Derived.Test.YtjlnbjlhlglneaaDoorTgJo
import Derived.Test.YtjlnbjlhlglneaaDoorTgEn
namespace Go.Proofs.YtjlnbjlhlglneaaDoor
open Go.RowKit Go.Shelf Go.Lib

def encRow (l : List ByteArray) (k : Nat) : List Value := ((l.take k).map enc).map .string
theorem encRow_succ {l : List ByteArray} {k : Nat} {x : ByteArray} (h : l[k]? = some x) : encRow l (k + 1) = encRow l k ++ [.string (enc x)] := by unfold encRow; rw [map_snoc h, List.map_append]; rfl
theorem encRow_all (l : List ByteArray) : encRow l l.length = (l.map enc).map .string := by unfold encRow; rw [List.take_length]
set_option maxRecDepth 20000 in
set_option maxHeartbeats 4000000 in
theorem Path_any (A : Option Addr) (c : Nat) (l : List ByteArray) (w : World) (hr : Row w A (l.map .string)) (hz : sumS l + l.length ≤ 1048576) :
    Calls Tryd.prog 22 #[.slice A l.length c] w fun e w' => e = .returned (.string (pathR l)) ∧ Below w.heap.size w w' := by
  obtain ⟨i0, hi0, hz0, hz1, hz2⟩ := info_parts info_string
  have hsz := Lib.hid (fun x (hx : x ∈ l) => sumS_mem hx)
  have hes := enc_sum l
  go_enter Tryd.func22, Tryd.ntmps22
  go_wp2
  go_loopw [3, 8] (fun v i wr => ∃ k : Nat, k ≤ l.length ∧ i = .int .i64 k ∧ wr.ownsRow w.heap.size 9 1 v k (encRow l k) ∧ Below w.heap.size w wr) (fun _ i _ => l.length - (RowKit.intOf i).toNat)
  case atStart => exact ⟨0, by omega, rfl, World.ownsRow_nil _ _ _ _, Below.refl _ _⟩
  case round =>
    obtain ⟨k, hk, rfl, hown, hbw⟩ := hrel
    by_cases hlt : k < l.length
    · obtain ⟨x, hx⟩ := some_of_lt hlt
      obtain ⟨b, off, rfl, hb, h0⟩ := (hr.below hbw).str hx
      have hxz := hsz.out x (List.mem_of_getElem? hx)
      have HE := Lib.hid (fun w => Encode_any x w (by omega))
      have HT := Lib.hid (encRow_succ hx)
      clear hx
      generalize enc x = y at *
      go_wp2_with fail
      refine (HE.out _).mono ?_
      rintro e w1 ⟨rfl, b1⟩
      have hown1 := own_below hown b1
      have hbw1 := hbw.trans (b1.mono hbw.size)
      clear hown b1 h0
      go_wp2_with (at_builtin; refine wpList_append_own _ rfl _ _ 42 rfl w.heap.size 9 i0 (.string ⟨#[]⟩) 1 16 Tryd.underlying42 hi0 hz0 hz1 hz2 rfl (by decide) _ _ _ rfl (hown1.alloc _) ⟨w1.heap.size, 0, none⟩ 1 1 [.string y] rfl rfl (cell_one_new _ _ _) ?c1 ?c2 ?c3 ?c4 ?c5)
      case c1 => exact strs_oneCell [_]
      case c2 => unfold maxLen; omega
      case c3 => omega
      case c4 => simp; have := hbw1.size; omega
      case c5 =>
        intro v' w2 hown2 hg2 _
        have hb2 : Below w.heap.size w w2 := (hbw1.alloc hbw1.size _).grown hg2 (by simp; have := hbw1.size; omega) (own_lt hown1)
        have ho2 : w2.ownsRow w.heap.size 9 1 v' (k + 1) (encRow l (k + 1)) := by
          rw [HT.out]
          exact hown2
        clear hown2 hg2 hown1
        go_wp2
        go_roundw
        case rel => exact ⟨k + 1, by omega, by go_num, ho2, hb2⟩
        case measure => simp [RowKit.intOf]; omega
    · obtain rfl : k = l.length := by omega
      rw [encRow_all] at hown
      obtain ⟨A', c', rfl⟩ := own_slice hown
      by_cases hn : l = []
      · subst hn
        have HJ := Lib.hid (fun w => Tryd.strings_Join_none A' c' ⟨#[47]⟩ w)
        go_wp2_with fail
        refine (HJ.out _).mono ?_
        rintro e w1 ⟨rfl, rfl⟩
        go_wp2
        go_ret
        exact ⟨rfl, hbw⟩
      · have hm : l.map enc ≠ [] := by simpa using hn
        have hml : (l.map enc).length = l.length := List.length_map _
        have hjl := join_len hm
        have HR := Lib.hid (join_path hm)
        have HJ0 := Join_own (l := l.map enc) (A := A') (c := c') (base := w.heap.size) (w := wr) (by rw [hml]; exact hown) hm (by omega) (by omega)
        rw [hml] at HJ0
        have HJ := Lib.hid HJ0
        have hjs : (⟨(Lib.join ((l.map enc).map (·.data.toList)) [47]).toArray⟩ : ByteArray).size ≤ 4194304 := by
          rw [← size_eq]
          show (Lib.join ((l.map enc).map (·.data.toList)) [47]).length ≤ _
          omega
        clear HJ0 hjl
        generalize (⟨(Lib.join ((l.map enc).map (·.data.toList)) [47]).toArray⟩ : ByteArray) = js at *
        go_wp2_with fail
        refine HJ.out.mono ?_
        rintro e w1 ⟨rfl, b1⟩
        go_wp2
        go_ret
        exact ⟨ret_str (by unfold pathR; exact HR.out), hbw.trans (b1.mono hbw.size)⟩
theorem row_alloc_byte (w : World) (v : UInt8) (t : TypeId) : Row (w.alloc (.cells #[byteV v] t)) (some ⟨w.heap.size, 0, none⟩) [byteV v] := row_newc w _ t rfl
set_option maxRecDepth 20000 in
set_option maxHeartbeats 8000000 in
theorem rPath_any (A : Option Addr) (c : Nat) (l : List ByteArray) (w : World) (hr : Row w A (l.map .string)) (hz : sumS l + l.length ≤ 1048576) :
    Calls Tryd.prog 23 #[.slice A l.length c] w fun e w' => e = .returned (.string (pathR l)) ∧ Below w.heap.size w w' := by
  obtain ⟨i0, hi0, hz0, hz1, hz2⟩ := info_parts info_byte
  have hsz := Lib.hid (fun x (hx : x ∈ l) => sumS_mem hx)
  have hln : ∀ k, (slashAll ((l.take k).map enc)).length ≤ 4194304 := fun k => by
    rw [slashAll_len, List.length_map, List.length_take]
    have h1 := enc_sum (l.take k)
    have h2 : sumS (l.take k) ≤ sumS l := by
      have e := List.take_append_drop k l
      have : sumS l = sumS (l.take k) + sumS (l.drop k) := by rw [← sumS_append, e]
      omega
    omega
  have HLN := Lib.hid hln
  clear hln
  go_enter Tryd.func23, Tryd.ntmps23
  go_wp2
  go_loopw [3, 4] (fun v i wr => ∃ k : Nat, k ≤ l.length ∧ i = .int .i64 k ∧ OwnB wr w.heap.size v (slashAll ((l.take k).map enc)) ∧ Below w.heap.size w wr) (fun _ i _ => l.length - (RowKit.intOf i).toNat)
  case atStart => exact ⟨0, by omega, rfl, own_empty w, (Below.refl _ w).alloc (Nat.le_refl _) _⟩
  case round =>
    obtain ⟨k, hk, rfl, ho1, hbw⟩ := hrel
    have hal := HLN.out k
    by_cases hlt : k < l.length
    · obtain ⟨x, hx⟩ := some_of_lt hlt
      obtain ⟨b, off, rfl, hb, h00⟩ := hr.str hx
      have h0 : wr.cell? ⟨b, off + k, none⟩ = some (.string x) := (hbw.cell (p := ⟨b, off + k, none⟩) hb).trans h00
      have HS := Lib.hid (fun (w' : World) (h : Below w.heap.size wr w') => (h.cell (p := ⟨b, off + k, none⟩) hb).trans h0)
      have hxz := hsz.out x (List.mem_of_getElem? hx)
      have hxe := enc_size x
      have HE := Lib.hid (fun w => rEncode_any x w (by omega))
      have HT := Lib.hid (slash_enc hx)
      clear hx h00
      generalize enc x = y at *
      generalize slashAll ((l.take k).map enc) = acc at *
      unfold OwnB at ho1
      have hws := hbw.size
      go_wp2_with fail
      go_region_held3 (fun w' => w'.cell? ⟨b, off + k, none⟩ = some (.string x)) (first | assumption | go_keep | exact HS.out _ hbC | exact HS.out _ hbB | exact HS.out _ hbD) (first | (refine step_append_any _ rfl (.tmp 12) (.tmp 13) 70 rfl w.heap.size 5 i0 (.int .u8 0) 1 1 Tryd.underlying70 hi0 hz0 hz1 hz2 rfl (by decide) _ _ _ (by rfl) (ho1.drew.alloc _) _ (some ⟨wr.heap.size, 0, none⟩) 1 1 [byteV 47] (by rfl) (reads_of_row ((row_newc _ _ _ rfl).drew) rfl (by decide)) (bytes_oneCell [47]) (by unfold maxLen; omega) (by omega) (by simp; omega) ?_; intro v' w2 hown2 hg2 _; have hbB : Below w.heap.size wr w2 := (below_drew ((Below.refl w.heap.size wr).alloc hws _)).grown hg2 (by simp; omega) (own_lt ho1)) | (refine step_append_any _ rfl (.tmp 12) (.tmp 13) 70 rfl w.heap.size 5 i0 (.int .u8 0) 1 1 Tryd.underlying70 hi0 hz0 hz1 hz2 rfl (by decide) _ _ _ (by rfl) (own_below (ho1.drew.alloc _) b3) _ (some ⟨wr.heap.size, 0, none⟩) 1 1 [byteV 47] (by rfl) (reads_of_row (((row_newc _ _ _ rfl).drew).below b3) rfl (by decide)) (bytes_oneCell [47]) (by unfold maxLen; omega) (by omega) (by have := hbC.size; omega) ?_; intro v' w2 hown2 hg2 _; have hbB : Below w.heap.size wr w2 := hbC.grown hg2 (by have := hbC.size; omega) (own_lt ho1)) | (go_at_call 19; (with_reducible refine (HE.out _).mono ?_); rintro e w3 ⟨rfl, b3⟩; have hbC : Below w.heap.size wr w3 := by (first | exact hbB.trans (b3.mono (Nat.le_trans hws hbB.size)) | exact (below_drew ((Below.refl w.heap.size wr).alloc hws _)).trans (b3.mono (by simp; omega)))) | (refine step_append_own_string rfl (.tmp 14) (.tmp 19) 70 9 rfl w.heap.size 5 i0 Tryd.underlying70 Tryd.underlying9 hi0 hz0 hz1 hz2 _ _ _ (by rfl) hown2 y (by rfl) (by unfold maxLen; omega) (by omega) (by have := hbB.size; omega) ?_; intro v4 w4 hown4 hg4; have hbD : Below w.heap.size wr w4 := hbB.grown hg4 (by have := hbB.size; omega) (own_lt hown2)) | (refine step_append_own_string rfl (.tmp 14) (.tmp 19) 70 9 rfl w.heap.size 5 i0 Tryd.underlying70 Tryd.underlying9 hi0 hz0 hz1 hz2 _ _ _ (by rfl) (own_below hown2 b3) y (by rfl) (by unfold maxLen; omega) (by omega) (by have := hbC.size; omega) ?_; intro v4 w4 hown4 hg4; have hbD : Below w.heap.size wr w4 := hbC.grown hg4 (by have := hbC.size; omega) (own_lt hown2)))
      all_goals
        have e1 : (acc ++ 47 :: y.data.toList).length = acc.length + 1 + y.size := by rw [List.length_append, List.length_cons, size_eq]; omega
        have e2 : (acc ++ 47 :: y.data.toList).map byteV = acc.map byteV ++ [byteV 47] ++ strCells y := by simp [strCells_eq]
        have ho4 : OwnB w4 w.heap.size v4 (slashAll ((l.take (k + 1)).map enc)) := by
          unfold OwnB
          rw [HT.out, e1, e2]
          exact hown4
        have hbw4 := hbw.trans hbD
        clear e1 e2 hown4 hg4 hown2 hg2 ho1 hbB hbC hbD b3 h0
        go_wp2
        go_roundw
        case rel => exact ⟨k + 1, by omega, by go_num, ho4, hbw4⟩
        case measure => simp [RowKit.intOf]; omega
    · obtain rfl : k = l.length := by omega
      rw [List.take_length] at ho1
      by_cases hn : l = []
      · subst hn
        go_wp2
        go_ret
        exact ⟨rfl, hbw⟩
      · have hm : l.map enc ≠ [] := by simpa using hn
        have hpos := List.length_pos_iff.2 hn
        have hne : ((l.length : Int) == 0) = false := by rw [beq_eq_false_iff_ne]; omega
        have hne2 : (l.length == 0) = false := by rw [beq_eq_false_iff_ne]; omega
        have HR := Lib.hid (show pathR l = ⟨(slashAll (l.map enc)).toArray⟩ by unfold pathR pathOf; rw [if_neg hm])
        have hcv := ho1.conv
        clear hn hm
        go_wp2
        go_ret
        exact ⟨ret_str HR.out.symm, hbw⟩
end Go.Proofs.YtjlnbjlhlglneaaDoor
