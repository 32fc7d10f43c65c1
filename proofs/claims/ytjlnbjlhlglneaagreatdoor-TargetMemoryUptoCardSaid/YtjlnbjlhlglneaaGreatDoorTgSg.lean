/-
  The segments of a path: the walk of the program's function.
-/
import Derived.RangeFuncBox
import Derived.Maps.AppendAt
import Derived.Test.YtjlnbjlhlglneaaGreatDoorTgEa
import Derived.Test.YtjlnbjlhlglneaaGreatDoorTgDc
import Derived.Test.YtjlnbjlhlglneaaGreatDoorTgSp
namespace Go.Proofs.YtjlnbjlhlglneaaGreatDoor
open Go.RowKit Go.Shelf Go.Lib
attribute [local go_sem] Oper.semAt_some

/-- What a call hands back that makes a list of texts, and an error. -/
def GivesSegs (w : World) (r : List ByteArray × Int) (e : Ending) (w' : World) : Prop :=
  ∃ A c, e = .returned (.tuple #[.slice A r.1.length c, .int .i64 r.2]) ∧ w'.ownsRow w.heap.size 9 1 (.slice A r.1.length c) r.1.length (r.1.map .string) ∧ Below w.heap.size w w'
def decs (l : List ByteArray) : List ByteArray := l.map fun x => (decR x).1
theorem segR_no {s : ByteArray} (h : isPathB s = false) : segR s = ([], 53) := by unfold segR; rw [if_neg (by rw [h]; simp)]
theorem segR_yes {s : ByteArray} (h : isPathB s = true) : segR s = (decs (splitC (behind1 s) 47), 0) := by unfold segR; rw [if_pos h]; rfl
set_option maxRecDepth 100000 in
set_option maxHeartbeats 4000000 in
theorem Segments_no (s : ByteArray) (w : World) (hs : s.size ≤ 4194304) (hp : isPathB s = false) :
    Calls Tryz.prog 18 #[.string s] w (GivesSegs w (segR s)) := by
  have HP := Lib.hid (fun w => isPath_any s w (by omega))
  rw [segR_no hp]
  rw [hp] at HP
  clear hp
  go_enter Tryz.func18, Tryz.ntmps18
  go_wp2_with fail
  refine (HP.out _).mono ?_
  rintro e w1 ⟨rfl, q, rfl⟩
  go_wp2
  go_ret2
  exact ⟨none, 0, rfl, World.ownsRow_nil _ _ _ _, below_drewN (Below.refl _ _) q⟩
set_option maxRecDepth 100000 in
set_option maxHeartbeats 4000000 in
theorem Segments_yes (s : ByteArray) (w : World) (hs : s.size ≤ 4194304) (hg : Glob w) (hp : isPathB s = true) :
    Calls Tryz.prog 18 #[.string s] w (GivesSegs w (segR s)) := by
  obtain ⟨i0, hi0, hz0, hz1, hz2⟩ := info_parts info_string
  have HP := Lib.hid (fun w => isPath_any s w (by omega))
  have hh : heads s 47 = true := by
    rw [isPath_heads] at hp
    simp at hp
    exact hp.1
  rw [segR_yes hp]
  rw [hp] at HP
  clear hp
  have HH := Lib.hid hh
  clear hh
  refine (callsIn_wide (n := 8)).1 ?_
  refine callsIn_of_wp_marks Tryz.func18 rfl trivial ?_ rfl
  simp only [Tryz.ntmps18, List.size_toArray, List.length_cons, List.length_nil, Nat.reduceAdd, Nat.reduceSub, Array.replicate_succ, Array.replicate_zero, List.push_toArray, List.append_toArray, List.nil_append, List.cons_append]
  gi_wp2_with fail
  refine ⟨trivial, (callsIn_wide.2 (HP.out _)).mono ?_⟩
  rintro e w1 ⟨rfl, q, rfl⟩
  gi_wp2_with fail
  refine ⟨trivial, (callsIn_wide.2 (each_any s _)).mono ?_⟩
  rintro e w1 ⟨rfl, rfl⟩
  gi_wp2_with fail
  have bO := Boxed.new (w.drewN q) 41 (.slice none 0 0)
  have bN := Boxed.new ((w.drewN q).alloc (.cells #[.slice none 0 0] 41)) 9 (.string s)
  rw [World.size_alloc] at bN
  have hB0 : Below w.heap.size w (((w.drewN q).alloc (.cells #[.slice none 0 0] 41)).alloc (.cells #[.string s] 9)) := ((below_drewN (Below.refl _ w) q).alloc (Nat.le_refl _) _).alloc (by simp) _
  refine wpIn_rangeFunc_ownG rfl (by omega) (gf := 76) (lb := #[.pointer (some ⟨w.heap.size + 1, 0, none⟩)]) rfl trivial (enters_of Tryz.func76 (by kernel_rfl) rfl)
    (each_stops (8 - 1) (by omega) (w.heap.size + 1) w.heap.size s HH.out hs _ (hg.beyond hB0) (by simp) hg.size bN.cell) belowK_t (belowK_b (by simp; omega)) (Below.refl _ _) (fun _ => rfl)
    (fun pre W => (∃ v, Boxed W w.heap.size 41 v ∧ W.ownsRow w.heap.size 9 1 v (decs (bare pre)).length ((decs (bare pre)).map Value.string) ∧ True) ∧ Below w.heap.size w W)
    (fun _ _ _ => False)
    (OwnFrom.and (Own.from (holdsRow_own w.heap.size w.heap.size 41 9 1 (fun pre => (decs (bare pre)).length) (fun pre => (decs (bare pre)).map Value.string) (fun _ _ => True)) _) (ownFrom_below (Nat.le_refl _) (by simp; omega)))
    (fun _ _ _ _ _ hs _ _ => hs)
    ⟨⟨_, bO.alloc _, World.ownsRow_nil _ _ _ _, trivial⟩, hB0⟩
    (fun x => { tmps := #[.string s, undef, .slice none 0 0, .int .i64 0, .pointer (some ⟨w.heap.size, 0, none⟩), .string x.1, undef, undef, undef, .string s, .bool true, .bool false, .string s, .func (.func 76) #[] #[.pointer (some ⟨w.heap.size + 1, 0, none⟩)], .string x.1, undef, undef, undef, undef, undef, undef, undef, undef, undef, undef, undef], defers := [] }) ?assign ?body ?done ?stop
  case assign =>
    intro l x W K hK
    gi_wp2
    exact hK
  case body =>
    rintro l pre x W ⟨⟨v, hv, hrow, _⟩, hB⟩ hlt
    have hpl : (decs (bare pre)).length = pre.length := by unfold decs; rw [List.length_map, bare_length]
    have hln := splitC_len (behind1 s) 47
    have hb1z : (behind1 s).size ≤ s.size := by unfold behind1; rw [ByteArray.size_extract]; omega
    have hle : (decs (bare pre)).length ≤ 4194305 := by omega
    have HS := Lib.hid (show decs (bare (pre ++ [x])) = decs (bare pre) ++ [(decR x.1).1] by rw [bare_snoc]; unfold decs; rw [List.map_append]; rfl)
    clear hpl hln hb1z
    have hx := x.2
    gi_wp2_with fail
    refine ⟨trivial, (CallsIn.inRound l (callsIn_wide.2 (Decode_any x.1 _ (by omega)))).mono ?_⟩
    rintro e W1 ⟨rfl, hb1⟩
    unfold decVal
    have hv1 := hv.kept (below_grown hb1) (by simp)
    have hrow1 := own_below hrow hb1
    have hko : KeepsOthers W W1 := KeepsOthers.of_grownBy (below_grown hb1) (fun j o e => by cases e)
    have hbw := hb1.mono hB.size
    have hB1 := hB.trans hbw
    have hc := hv1.cell
    have hf := hv1.frozen
    clear hv hrow hb1 hB
    generalize decs (bare pre) = acc at *
    generalize (decR x.1).1 = d at *
    generalize (decR x.1).2.1 = d1 at *
    generalize (decR x.1).2.2 = d2 at *
    gi_wp2_with (gi_at_builtin; refine wpListIn_append_own _ rfl _ _ 41 rfl w.heap.size 9 i0 (.string ⟨#[]⟩) 1 16 Tryz.underlying41 hi0 hz0 hz1 hz2 rfl (by decide) _ _ _ rfl (hrow1.alloc _) ⟨W1.heap.size, 0, none⟩ 1 1 [.string d] rfl rfl (cell_one_new _ _ _) (by simp [Value.oneCell']) (by unfold maxLen; omega) (by omega) (by have := hB1.size; simp; omega) ?_; intro v' w1 hown' hgrow _; obtain ⟨g', cap', rfl⟩ := ownsRow_succ hown'; obtain ⟨hv2, hv3, hr2, hk2, hb2⟩ := hv1.appended (by decide) hrow1 hB1.size (Nat.le_refl _) hown' hgrow; have hc1 := hv2.cell; have hf1 := hv2.frozen)
    exact ⟨(hko.trans hk2).from _, hbw.trans hb2, ⟨_, hv3, by rw [HS.out]; simpa using hr2, trivial⟩, hB1.trans hb2⟩
  case done =>
    rintro D ys W hD hys ⟨⟨v, hv, hrow, _⟩, hB⟩ hK
    have hc := hv.cell
    rw [hys] at hrow
    clear hys
    generalize decs (splitC (behind1 s) 47) = out at *
    gi_wp2
    refine ⟨by simp, .inl ⟨_, _, rfl, run_takeDeferred hK, ?_⟩⟩
    obtain ⟨A, c, rfl⟩ := own_slice hrow
    refine ⟨.tuple #[.slice A out.length c, .int .i64 0], by simp [results, Tryz.results18, go_sem], A, c, rfl, ownsRow_putObj hrow _ hK rfl, hB.trans (belowK_b (w := w) (Nat.le_refl _) W D _ _ (by simp at hD; omega) hK rfl rfl)⟩
  case stop =>
    rintro D c pre W _ _ h _
    exact h.elim
end Go.Proofs.YtjlnbjlhlglneaaGreatDoor
