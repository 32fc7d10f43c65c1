/-
  The walk of RadixNil.
-/
import Derived.Test.YteciaomjpafaiaaRxNi
import Derived.Test.YteciaomjpafaiaaRxLawChecks
namespace Go.Proofs.Yteciaomjpafaiaa
open Go.RowKit Go.Shelf Go.Lib
attribute [local go_sem] Oper.semAt_some

theorem chk_two (s : ByteArray) : ((checkP s).2 = 130 ∧ nilIns s = 130) ∨ ((checkP s).2 = 0 ∧ nilIns s = 131) := by
  unfold checkP nilIns
  generalize splitP s = r
  obtain ⟨l, p, g⟩ := r
  cases g
  · exact .inl ⟨rfl, rfl⟩
  · exact .inr ⟨rfl, rfl⟩
set_option maxRecDepth 100000 in
set_option maxHeartbeats 8000000 in
theorem RadixNil_walk (s : ByteArray) (w : World) (_hs : s.size ≤ maxLen) (hk : s.size ≤ 1048576) (hg : Glob w) :
    Calls Try.prog 8 #[.string s] w fun e w' => e = .returned (.bool true) ∧ Below w.heap.size w w' := by
  have HC := Lib.hid (fun w => rCheck_any s w (by omega))
  have HI := Lib.hid (fun w => Insert_nil s 1 w (by omega))
  have h2 := chk_two s
  unfold chkVal at HC
  generalize checkP s = r at *
  obtain ⟨p, er⟩ := r
  dsimp only at HC h2
  generalize nilIns s = ni at *
  have HG := Lib.hid hg
  clear hg
  have hfn : ∀ (b : Nat) (w : World), (binOp .eql 47 (.func (.func 39) #[] #[.pointer (some ⟨b, 0, none⟩)]) .nilFunc).run Try.prog w = .ok (.bool false) w := fun _ _ => rfl
  rcases h2 with ⟨rfl, rfl⟩ | ⟨rfl, rfl⟩
  all_goals
    refine (callsIn_wide (n := 8)).1 ?_
    refine callsIn_of_wp_marks Try.func8 rfl trivial ?_ rfl
    simp only [Try.ntmps8, List.size_toArray, List.length_cons, List.length_nil, Nat.reduceAdd, Nat.reduceSub, Array.replicate_succ, Array.replicate_zero, List.push_toArray, List.append_toArray, List.nil_append, List.cons_append]
    gi_wp2_with fail
    refine ⟨trivial, (callsIn_wide.2 (HC.out _)).mono ?_⟩
    rintro e w1 ⟨rfl, b1⟩
    gi_wp2_with fail
    refine ⟨trivial, (callsIn_wide.2 (Remove_nil s _)).mono ?_⟩
    rintro e w2 ⟨rfl, b2⟩
    have B2 := b1.trans (b2.mono b1.size)
    clear b1 b2
    gi_wp2_with fail
    refine ⟨trivial, (callsIn_wide.2 (Get_nil s _)).mono ?_⟩
    rintro e w3 ⟨rfl, b3⟩
    have B3 := B2.trans (b3.mono B2.size)
    clear B2 b3
    gi_wp2_with fail
    refine ⟨trivial, (callsIn_wide.2 (Find_nil s _)).mono ?_⟩
    rintro e w4 ⟨rfl, b4⟩
    have B4 := B3.trans (b4.mono B3.size)
    clear B3 b4
    gi_wp2_with fail
    refine ⟨trivial, (callsIn_wide.2 (All_nil _)).mono ?_⟩
    rintro e w5 ⟨rfl, b5, hc5, hl5⟩
    have B5 := B4.trans (b5.mono B4.size)
    clear b5
    gi_wp2_with fail
    have BW5 : Below w.heap.size w w5 := ((Below.refl w.heap.size w).alloc (Nat.le_refl _) (.cells #[.bool false] 4)).trans (B5.mono (by simp))
    refine ⟨trivial, (callsIn_wide.2 (awake_any _ (HG.out.beyond BW5))).mono ?_⟩
    rintro e w6 ⟨rfl, b6⟩
    have B6 := B5.trans (b6.mono B5.size)
    have hc6 : w6.cell? ⟨w4.heap.size, 0, none⟩ = some (.slice none 0 0) := (b6.cell (p := ⟨w4.heap.size, 0, none⟩) hl5).trans hc5
    have hl6 : w4.heap.size < w6.heap.size := Nat.lt_of_lt_of_le hl5 b6.size
    have hw4 : w.heap.size < w4.heap.size := by have := B4.size; simp at this; omega
    clear b6 B5 BW5 hc5 hl5 B4
    have hcr : w6.cell? ⟨w.heap.size, 0, none⟩ = some (.bool false) := by
      rw [B6.cell (p := ⟨w.heap.size, 0, none⟩) (by simp)]
      simp
    have hfr : w6.frozen? ⟨w.heap.size, 0, none⟩ = false := by
      rw [B6.frozen (p := ⟨w.heap.size, 0, none⟩) (by simp)]
      simp
    gi_wp2_with fail
    have bR : Boxed w6 w.heap.size 4 (.bool false) := (Boxed.new w 4 (.bool false)).kept (below_grown B6) (fun e => by cases e)
    have BW6 : Below w.heap.size w w6 := ((Below.refl w.heap.size w).alloc (Nat.le_refl _) (.cells #[.bool false] 4)).trans (B6.mono (by simp))
    refine wpIn_rangeFunc_ownG rfl (by omega) (gf := 39) (lb := #[.pointer (some ⟨w4.heap.size, 0, none⟩)]) rfl trivial (enters_of Try.func39 (by kernel_rfl) rfl)
      (all1_nil (8 - 1) (by omega) w4.heap.size w.heap.size w6 hl6 hc6) belowK_t (belowK_b (by omega)) (Below.refl _ _) (fun _ => rfl)
      (fun pre W => Boxed W w.heap.size 4 (.bool false) ∧ Below w.heap.size w W)
      (fun _ _ _ => False)
      (OwnFrom.and (Own.from (boxed_at w.heap.size 4 (fun _ => .bool false)) _) (ownFrom_below (Nat.le_refl _) (by omega)))
      (fun _ _ _ _ _ hs _ _ => hs)
      ⟨bR, BW6⟩
      ?_ ?assign ?body ?done ?stop
    case assign =>
      intro l x W K hK
      gi_wp2
      exact hK
    case body =>
      rintro l pre x W _ hlt
      exact absurd hlt (Nat.not_lt_zero _)
    case stop =>
      rintro D c pre W _ _ h _
      exact h.elim
    case done =>
      rintro D ys W hD hys ⟨hR, hB⟩ hK
      have hcv := hR.cell
      have hfv := hR.frozen
      gi_wp2_with fail
      refine ⟨trivial, (callsIn_wide.2 (HI.out _)).mono ?_⟩
      rintro e v1 ⟨rfl, c1⟩
      gi_wp2_with fail
      refine ⟨trivial, (callsIn_wide.2 (Len_nil _)).mono ?_⟩
      rintro e v2 ⟨rfl, c2⟩
      have C2 := c1.trans (c2.mono c1.size)
      clear c1 c2
      gi_wp2_with fail
      refine ⟨trivial, (callsIn_wide.2 (Nodes_nil _)).mono ?_⟩
      rintro e v3 ⟨rfl, c3⟩
      have C3 := C2.trans (c3.mono C2.size)
      clear C2 c3
      have hR3 := hR.kept (below_grown C3) (fun e => by cases e)
      have hK3 := (KeepsOthers.of_grownBy (below_grown C3) (fun j o e => by cases e)).same D _ hK rfl
      have hB3 := hB.trans (C3.mono hB.size)
      have hcv3 := hR3.cell
      have hfv3 := hR3.frozen
      have hR4 := hR3.set (.bool true)
      have hK4 := (KeepsOthers.setCell v3 ⟨w.heap.size, 0, none⟩ (.bool true)).same D _ hK3 rfl
      have hB4 := hB3.setCell (p := ⟨w.heap.size, 0, none⟩) (Nat.le_refl w.heap.size) (.bool true)
      have hcv4 := hR4.cell
      clear C3 hcv hfv
      gi_wp2
      refine ⟨by simp, .inl ⟨_, _, rfl, run_takeDeferred hK4, ?_⟩⟩
      have hne : D ≠ w.heap.size := by omega
      have hcf : ((v3.setCell ⟨w.heap.size, 0, none⟩ (.bool true)).putObj D (.deferred none)).cell? ⟨w.heap.size, 0, none⟩ = some (.bool true) := by
        rw [← hcv4]
        simp [World.cell?, World.putObj, hne]
      exact ⟨.bool true, by simp [results, Try.results8, go_sem, hcf], rfl, hB4.trans (belowK_b (w := w) (Nat.le_refl _) _ D _ _ (by omega) hK4 rfl rfl)⟩
end Go.Proofs.Yteciaomjpafaiaa
