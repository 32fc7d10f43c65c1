/-
  The walk of TargetPairs.
-/
import Derived.Test.YtjlnbjlhlglneaaDoorTgPr
namespace Go.Proofs.YtjlnbjlhlglneaaDoor
open Go.RowKit Go.Shelf Go.Lib

theorem sumP_len (l : List Pr) : l.length ≤ sumP l := by
  induction l with
  | nil => exact Nat.le_refl _
  | cons p l ih =>
    have e : sumP (p :: l) = p.1.size + p.2.1.size + 4 + sumP l := by simp [sumP]
    rw [e, List.length_cons]
    omega
theorem printQ_size (l : List Pr) : (printQ l).1.size ≤ 3 * sumP l := by
  cases h : l.any badPair
  · rw [printQ_good h, ← size_eq, ← accQ_all]
    exact accQ_size l l.length
  · rw [printQ_bad h]
    exact Nat.zero_le _
set_option maxRecDepth 100000 in
set_option maxHeartbeats 4000000 in
theorem TargetPairs_walk (A : Option Addr) (c : Nat) (l : List Pr) (w : World) (hr : Row w A (flat3 l)) (hk : sumP l ≤ 1048576) (hg : Glob w) :
    Calls Tryd.prog 9 #[.slice A l.length c] w fun e w' => e = .returned (.bool true) ∧ Below w.heap.size w w' := by
  have hl := sumP_len l
  have HK := Lib.hid (known_any A c l w hr (by omega))
  have HP := Lib.hid (fun w hr => PrintQuery_any A c l w hr hk (by omega))
  have HR := Lib.hid (fun A c w hr => rPrintQuery_any A c l w hr hk (by omega))
  have hz := printQ_size l
  have HS := Lib.hid (fun w hg => Query_any (printQ l).1 w (by omega) hg)
  cases hb : l.any badPair
  · have HQ : pqVal l = .tuple #[.string (printQ l).1, .int .i64 0] := by unfold pqVal; rw [printQ_good hb]
    rw [print_read hb] at HS
    rw [HQ] at HP HR
    clear HQ hz hb
    generalize (printQ l).1 = p at *
    go_enter Tryd.func9, Tryd.ntmps9
    go_wp2_with fail
    refine HK.out.mono ?_
    rintro e w1 ⟨A1, c1, rfl, o1, b1⟩
    go_wp2_with fail
    refine (HP.out _ (hr.below b1)).mono ?_
    rintro e w2 ⟨rfl, b2⟩
    have r2 := (own_row o1).below b2
    have hb2 := b1.trans (b2.mono b1.size)
    clear o1 b1 b2
    go_wp2_with fail
    refine (HR.out _ _ _ r2).mono ?_
    rintro e w3 ⟨rfl, b3⟩
    have r3 := r2.below b3
    have hb3 := hb2.trans (b3.mono hb2.size)
    clear r2 b3 hb2
    go_wp2_with fail
    refine (awake_any _).mono ?_
    rintro e w4 ⟨rfl, b4⟩
    have r4 := r3.below b4
    have hb4 := hb3.trans (b4.mono hb3.size)
    have hq4 := hr.below hb4
    clear r3 b4 hb3
    go_wp2_with fail
    refine (pairs_same A A1 c c1 l _ hq4 r4 (by omega)).mono ?_
    rintro e w5 ⟨rfl, q, rfl⟩
    have r5 := r4.drewN q
    have hb5 := below_drewN hb4 q
    have hg5 := hg.beyond hb5
    clear r4 hb4 hq4
    go_wp2_with fail
    refine (HS.out _ hg5).mono ?_
    rintro e w6 ⟨A6, c6, rfl, o6, b6⟩
    dsimp only at o6
    dsimp only
    have r6 := own_row o6
    have r7 := r5.below b6
    have hb6 := hb5.trans (b6.mono hb5.size)
    clear r5 hb5 hg5 o6 b6
    go_wp2_with fail
    refine (pairs_same A6 A1 c6 c1 l _ r6 r7 (by omega)).mono ?_
    rintro e w8 ⟨rfl, q2, rfl⟩
    have hb8 := below_drewN hb6 q2
    go_wp2
    go_ret
    exact ⟨rfl, hb8⟩
  · have HQ : pqVal l = .tuple #[.string ⟨#[]⟩, .int .i64 54] := by unfold pqVal; rw [printQ_bad hb]
    rw [HQ] at HP HR
    clear HQ hz hb HS
    go_enter Tryd.func9, Tryd.ntmps9
    go_wp2_with fail
    refine HK.out.mono ?_
    rintro e w1 ⟨A1, c1, rfl, o1, b1⟩
    go_wp2_with fail
    refine (HP.out _ (hr.below b1)).mono ?_
    rintro e w2 ⟨rfl, b2⟩
    have r2 := (own_row o1).below b2
    have hb2 := b1.trans (b2.mono b1.size)
    clear o1 b1 b2
    go_wp2_with fail
    refine (HR.out _ _ _ r2).mono ?_
    rintro e w3 ⟨rfl, b3⟩
    have r3 := r2.below b3
    have hb3 := hb2.trans (b3.mono hb2.size)
    clear r2 b3 hb2
    go_wp2_with fail
    refine (awake_any _).mono ?_
    rintro e w4 ⟨rfl, b4⟩
    have r4 := r3.below b4
    have hb4 := hb3.trans (b4.mono hb3.size)
    have hq4 := hr.below hb4
    clear r3 b4 hb3
    go_wp2_with fail
    refine (pairs_same A A1 c c1 l _ hq4 r4 (by omega)).mono ?_
    rintro e w5 ⟨rfl, q, rfl⟩
    have hb5 := below_drewN hb4 q
    go_wp2
    go_ret
    exact ⟨rfl, hb5⟩
end Go.Proofs.YtjlnbjlhlglneaaDoor
