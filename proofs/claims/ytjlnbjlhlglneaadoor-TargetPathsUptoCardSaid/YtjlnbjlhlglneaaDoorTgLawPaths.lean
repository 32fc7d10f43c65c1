/-
  The walk of TargetPaths.
-/
import Derived.Test.YtjlnbjlhlglneaaDoorTgPa
import Derived.Test.YtjlnbjlhlglneaaDoorTgQd
import Derived.Test.YtjlnbjlhlglneaaDoorTgSg
import Derived.Test.YtjlnbjlhlglneaaDoorTgSm
import Derived.Test.YtjlnbjlhlglneaaDoorTgAw
namespace Go.Proofs.YtjlnbjlhlglneaaDoor
open Go.RowKit Go.Shelf Go.Lib

theorem Segments_path (s : ByteArray) (w : World) (hs : s.size ≤ 4194304) (hg : Glob w) :
    Calls Tryd.prog 24 #[.string s] w (GivesSegs w (segR s)) := by
  cases hp : isPathB s
  · exact Segments_no s w hs hp
  · exact Segments_yes s w hs hg hp
set_option maxRecDepth 100000 in
set_option maxHeartbeats 4000000 in
theorem TargetPaths_walk (A : Option Addr) (c : Nat) (l : List ByteArray) (w : World) (hr : Row w A (l.map .string)) (hk : sumS l + l.length ≤ 1048576) (hg : Glob w) :
    Calls Tryd.prog 8 #[.slice A l.length c] w fun e w' => e = .returned (.bool true) ∧ Below w.heap.size w w' := by
  have HP := Lib.hid (Path_any A c l w hr hk)
  have HR := Lib.hid (fun w hr => rPath_any A c l w hr hk)
  have hz := pathR_size l
  have HS := Lib.hid (fun w hg => Segments_path (pathR l) w (by omega) hg)
  rw [seg_path l] at HS
  clear hz
  generalize pathR l = p at *
  by_cases hn : l = []
  · subst hn
    rw [if_pos rfl] at HS
    go_enter Tryd.func8, Tryd.ntmps8
    go_wp2_with fail
    refine HP.out.mono ?_
    rintro e w1 ⟨rfl, b1⟩
    go_wp2_with fail
    refine (awake_any _).mono ?_
    rintro e w2 ⟨rfl, b2⟩
    have hb2 := b1.trans (b2.mono b1.size)
    clear b1 b2
    go_wp2_with fail
    refine (HR.out _ (Row.nil _ _)).mono ?_
    rintro e w3 ⟨rfl, b3⟩
    have hb3 := hb2.trans (b3.mono hb2.size)
    have hg3 := hg.beyond hb3
    clear hb2 b3
    go_wp2_with fail
    refine (HS.out _ hg3).mono ?_
    rintro e w4 ⟨A1, c1, rfl, o1, b4⟩
    dsimp only at o1
    dsimp only
    have hb4 := hb3.trans (b4.mono hb3.size)
    have r1 := (own_row o1).alloc (.cells #[.string ⟨#[]⟩] 9)
    have r2 := row_new w4 [(⟨#[]⟩ : ByteArray)] 9
    clear hb3 b4 o1 hg3
    go_wp2_with fail
    refine (same_same A1 _ c1 _ [(⟨#[]⟩ : ByteArray)] _ r1 r2 (by decide)).mono ?_
    rintro e w5 ⟨rfl, q, rfl⟩
    have hb5 := below_drewN (hb4.alloc hb4.size (.cells #[.string ⟨#[]⟩] 9)) q
    go_wp2
    go_ret
    exact ⟨rfl, hb5⟩
  · rw [if_neg hn] at HS
    have hpos := List.length_pos_iff.2 hn
    have hne : ((l.length : Int) == 0) = false := by rw [beq_eq_false_iff_ne]; omega
    have hne2 : (l.length == 0) = false := by rw [beq_eq_false_iff_ne]; omega
    clear hn
    go_enter Tryd.func8, Tryd.ntmps8
    go_wp2_with fail
    refine HP.out.mono ?_
    rintro e w1 ⟨rfl, b1⟩
    go_wp2_with fail
    refine (awake_any _).mono ?_
    rintro e w2 ⟨rfl, b2⟩
    have hb2 := b1.trans (b2.mono b1.size)
    clear b1 b2
    go_wp2_with fail
    refine (HR.out _ (hr.below hb2)).mono ?_
    rintro e w3 ⟨rfl, b3⟩
    have hb3 := hb2.trans (b3.mono hb2.size)
    have hg3 := hg.beyond hb3
    clear hb2 b3
    go_wp2_with fail
    refine (HS.out _ hg3).mono ?_
    rintro e w4 ⟨A1, c1, rfl, o1, b4⟩
    dsimp only at o1
    dsimp only
    have hb4 := hb3.trans (b4.mono hb3.size)
    have r1 := own_row o1
    have r2 := hr.below hb4
    clear hb3 b4 o1 hg3
    go_wp2_with fail
    refine (same_same A1 A c1 c l _ r1 r2 (by omega)).mono ?_
    rintro e w5 ⟨rfl, q, rfl⟩
    have hb5 := below_drewN hb4 q
    go_wp2
    go_ret
    exact ⟨rfl, hb5⟩
end Go.Proofs.YtjlnbjlhlglneaaDoor
