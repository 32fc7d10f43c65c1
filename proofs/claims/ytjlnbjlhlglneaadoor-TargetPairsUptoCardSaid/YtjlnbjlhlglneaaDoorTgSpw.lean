/-
  A text with its plus signs as spaces, decoded: the walks, of the program and of the reference.
-/
import Derived.Test.YtjlnbjlhlglneaaDoorTgSpc
import Derived.Test.YtjlnbjlhlglneaaDoorTgLib
import Derived.Test.YtjlnbjlhlglneaaDoorTgDr
import Derived.Test.YtjlnbjlhlglneaaDoorTgNm
namespace Go.Proofs.YtjlnbjlhlglneaaDoor
open Go.RowKit Go.Shelf Go.Lib

theorem Replace_any (s : ByteArray) (w : World) (hs : s.size ≤ 4194304) (hg : Glob w) :
    Calls Tryd.prog 66 #[.string s, .string ⟨#[43]⟩, .string ⟨#[32]⟩] w fun e w' => e = .returned (.string (spaceT s)) ∧ Below w.heap.size w w' := by
  obtain ⟨m, hm⟩ := hg.maxl
  have hc := count_plus s
  refine (Tryd.strings_ReplaceAll s ⟨#[43]⟩ ⟨#[32]⟩ m w (by omega) hm (by show 1 ≤ 1; omega) (by show s.size + Lib.countB s ⟨#[43]⟩ * 1 ≤ _; omega)).mono fun e w' ⟨he, hw⟩ => ⟨?_, hw⟩
  rw [he]
  exact ret_str (replace_plus s)
set_option maxRecDepth 20000 in
set_option maxHeartbeats 1000000 in
theorem Text_plus (s : ByteArray) (w : World) (hs : s.size ≤ 4194304) (hg : Glob w) :
    Calls Tryd.prog 65 #[.string s] w fun e w' => e = .returned (.string (spacedT s)) ∧ Below w.heap.size w w' := by
  have HR := Lib.hid (Replace_any s w hs hg)
  have hz := spaceT_size s
  have HD := Lib.hid (fun w => Decode_any (spaceT s) w (by omega))
  rw [spacedT_eq]
  clear hz
  generalize spaceT s = t at *
  unfold decVal at HD
  go_enter Tryd.func65, Tryd.ntmps65
  go_wp2_with fail
  refine HR.out.mono ?_
  rintro e w1 ⟨rfl, b1⟩
  go_wp2_with fail
  refine (HD.out _).mono ?_
  rintro e w2 ⟨rfl, b2⟩
  go_wp2
  go_ret
  exact ⟨rfl, b1.trans (b2.mono b1.size)⟩
end Go.Proofs.YtjlnbjlhlglneaaDoor
