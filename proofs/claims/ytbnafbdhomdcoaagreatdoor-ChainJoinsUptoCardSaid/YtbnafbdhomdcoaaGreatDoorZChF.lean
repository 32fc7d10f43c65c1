/-
 ChF, without what this claim does not reach.
-/
import Derived.Test.YtbnafbdhomdcoaaGreatDoorZm5
import Derived.Deep.QuietTactic
import Derived.BigQuiet
import Derived.WalkSpells
namespace Go.Proofs.YtbnafbdhomdcoaaGreatDoor
open Go.RowKit Go.Shelf Go.Lib
theorem bel_drewN {B : Nat} {w w' : World} (h : Below B w w') (n : Nat) : Below B w (w'.drewN n) := ⟨h.os, h.tape, h.output, h.size, h.block⟩
theorem row_newc (w : World) (cs : Array Value) (t : TypeId) {n : Nat} (hn : n = w.heap.size) : Row (w.alloc (.cells cs t)) (some ⟨n, 0, none⟩) cs.toList := fun _ => by
 subst hn
 refine ⟨w.heap.size, 0, rfl, by simp, fun j v hv => ?_⟩
 have hj : j < cs.size := by
  have := (List.getElem?_eq_some_iff.1 hv).1
  simpa using this
 rw [Nat.zero_add]
 simp only [World.cell?_alloc_new]
 rw [← hv, Array.getElem?_toList]
theorem cell_far {w w2 : World} {row : Option Nat} (hg : w.grownBy w2 row) (p : Addr) (hp : p.block < w.heap.size) (hne : some p.block ≠ row) : w2.cell? p = w.cell? p := World.cell?_of_block (hg.block p.block hp hne)
theorem own_noner (w : World) : (w.alloc (.cells #[] 69)).ownsRow w.heap.size 69 2 (.slice (some ⟨w.heap.size, 0, none⟩) 0 0) 0 [] := World.ownsRow_lit w #[] 0 (Nat.le_refl _) (by unfold maxLen; omega) rfl
set_option maxRecDepth 20000 in
set_option maxHeartbeats 2000000 in
theorem fields_any (A : Option Addr) (c : Nat) (l : List Fl) (w : World) (hr : Row w A (flat l)) (hl : l.length ≤ 4398046511104) :
  Calls Tryz.prog 31 #[.slice A l.length c] w (GivesFl 69 w l) := by
 obtain ⟨i0, hi0, hz0, hz1, hz2⟩ := info_parts info_rfield
 go_enter Tryz.func31, Tryz.ntmps31
 go_wp2
 go_loopw [3, 4] (fun v i wr => ∃ k : Nat, k ≤ l.length ∧ i = .int .i64 k ∧ wr.ownsRow w.heap.size 69 2 v k (flat (l.take k)) ∧ Below w.heap.size w wr) (fun _ i _ => l.length - (RowKit.intOf i).toNat)
 case atStart => exact ⟨0, by omega, rfl, own_noner w, (Below.refl _ _).alloc (Nat.le_refl _) _⟩
 case round =>
  obtain ⟨k, hk, rfl, hown, hbw⟩ := hrel
  by_cases hlt : k < l.length
  ·obtain ⟨⟨x, y⟩, hxy⟩ := some_of_lt hlt
   obtain ⟨b, off, rfl, hb, h0, h1⟩ := (hr.below hbw).pair hxy
   have hki : (k : Int) < (l.length : Int) := by omega
   have HS := Lib.hid (take_snoc hxy)
   have HC := Lib.hid (And.intro h0 h1)
   have hbw0 : b < w.heap.size := by
    obtain ⟨b2, o2, e, h, _⟩ := hr.pair hxy
    cases e
    exact h
   clear hxy
   have HNB := Lib.hid (show some b ≠ u3.ownBlock from fun e => by have := own_lt hown _ e.symm; omega)
   go_wp2_with fail
   go_region_held3 (fun w' => w'.cell? ⟨b, off + k * 2, none⟩ = some (.string x) ∧ w'.cell? ⟨b, off + k * 2 + 1, none⟩ = some (.string y)) (first | exact HC.out | exact ⟨hSB0, hSB1⟩ | assumption | go_keep) ((refine step_append_any _ rfl (.tmp 12) (.tmp 24) 37 rfl w.heap.size 69 i0 (.agg #[.string ⟨#[]⟩, .string ⟨#[]⟩]) 2 32 Tryz.underlying37 hi0 hz0 hz1 hz2 rfl (by decide) _ _ _ (by rfl) (hown.drew.alloc _) _ (some ⟨wr.heap.size, 0, none⟩) 1 1 [.string x, .string y] (by rfl) (reads_of_row (row_newc _ _ _ (by simp)) rfl (by decide)) (flat_oneCell [(x, y)]) (by unfold maxLen; omega) (by omega) (by have := hbw.size; simp; omega) ?_; intro v' w2 hown2 hg2 alt2; have hSB0 := (cell_far hg2 ⟨b, off + k * 2, none⟩ (by simp; omega) HNB.out).trans ((World.cell?_alloc_lt _ _ _ (by simp; omega)).trans h0); have hSB1 := (cell_far hg2 ⟨b, off + k * 2 + 1, none⟩ (by simp; omega) HNB.out).trans ((World.cell?_alloc_lt _ _ _ (by simp; omega)).trans h1)))
   all_goals
    have hb5 := ((below_drew hbw).alloc (by have := hbw.size; simpa using this) (.cells #[.string x, .string y] 69)).grown hg2 (by have := hbw.size; simp; omega) (own_lt hown)
    have hov : w2.ownsRow w.heap.size 69 2 v' (k + 1) (flat (l.take (k + 1))) := by rw [HS.out, flat_append]; exact hown2
    clear hown2 hg2 alt2 hSB0 hSB1 HNB HC
    go_wp2
    go_roundw
    case rel => exact ⟨k + 1, by omega, by go_num, hov, hb5⟩
    case measure => simp [RowKit.intOf]; omega
  ·obtain rfl : k = l.length := by omega
   rw [List.take_length] at hown
   obtain ⟨A', c', rfl⟩ := own_slice hown
   go_wp2
   go_ret
   exact ⟨A', c', rfl, hown, hbw⟩
set_option maxRecDepth 20000 in
set_option maxHeartbeats 2000000 in
theorem sameFields_any (A B : Option Addr) (c d : Nat) (l m : List Fl) (w : World) (hr : Row w A (flat l)) (hs : Row w B (flat m)) (hl : l.length ≤ 4398046511104) (_hm : m.length ≤ 4398046511104) :
  Calls Tryz.prog 22 #[.slice A l.length c, .slice B m.length d] w fun e w' => e = .returned (.bool (decide (l = m))) ∧ Below w.heap.size w w' := by
 by_cases hlen : l.length = m.length
 ·have hne : ((l.length : Int) != (m.length : Int)) = false := by simp; omega
  have hml : m.length ≤ l.length := by omega
  have HL := Lib.hid hlen
  clear hlen
  go_enter Tryz.func22, Tryz.ntmps22
  go_wp2
  go_loopw [5] (fun i wr => ∃ (k q : Nat), k ≤ l.length ∧ i = .int .i64 k ∧ wr = w.drewN q ∧ l.take k = m.take k) (fun i _ => l.length - (RowKit.intOf i).toNat)
  case atStart => exact ⟨0, 0, by omega, rfl, rfl, rfl⟩
  case round =>
   obtain ⟨k, q, hk, rfl, rfl, htk⟩ := hrel
   have HT := Lib.hid htk
   clear htk
   by_cases hlt : k < l.length
   ·obtain ⟨⟨x, y⟩, hxy⟩ := some_of_lt hlt
    obtain ⟨⟨x', y'⟩, hxy'⟩ := some_of_lt (show k < m.length by have := HL.out; omega)
    obtain ⟨b, off, rfl, hb, h0, h1⟩ := hr.pair hxy
    obtain ⟨b', off', rfl, hb', h0', h1'⟩ := hs.pair hxy'
    have hkm : k < m.length := lt_of_some hxy'
    have HX := Lib.hid hxy
    have HX' := Lib.hid hxy'
    clear hxy hxy'
    have hki : (k : Int) < (l.length : Int) := by omega
    have hki' : (k : Int) < (m.length : Int) := by omega
    cases hx : (x.toList == x'.toList)
    ·have hneq : ¬ l = m := fun e => by
      have h2 := HX.out
      rw [e, HX'.out] at h2
      injection h2 with h2
      injection h2 with h2 _
      rw [h2] at hx
      simp at hx
     have HN := Lib.hid hneq
     clear hneq
     go_wp2_with fail
     go_quiet (fail)
     go_wp2
     go_ret
     exact ⟨ret_bool (by rw [decide_eq_false HN.out]), bel_drewN (bel_drewN (Below.refl _ _) _) _⟩
    ·cases hy : (y.toList == y'.toList)
     ·have hneq : ¬ l = m := fun e => by
       have h2 := HX.out
       rw [e, HX'.out] at h2
       injection h2 with h2
       injection h2 with _ h2
       rw [h2] at hy
       simp at hy
      have HN := Lib.hid hneq
      clear hneq
      go_wp2_with fail
      go_quiet (fail)
      go_wp2
      go_ret
      exact ⟨ret_bool (by rw [decide_eq_false HN.out]), bel_drewN (bel_drewN (Below.refl _ _) _) _⟩
     ·have HE := Lib.hid (show (x, y) = (x', y') by rw [of_decide_eq_true ((eq_str x x').symm.trans hx), of_decide_eq_true ((eq_str y y').symm.trans hy)])
      go_wp2_with fail
      go_quiet (fail)
      go_wp2
      go_roundw
      case rel => exact ⟨k + 1, _, by omega, by go_num, rfl, by rw [take_snoc HX.out, take_snoc HX'.out, HT.out, HE.out]⟩
      case measure => simp [RowKit.intOf]; omega
   ·obtain rfl : k = l.length := by omega
    have he : l = m := by
     have := HT.out
     rw [List.take_length, HL.out, List.take_length] at this
     exact this
    have HN := Lib.hid he
    clear he
    go_wp2
    go_ret
    exact ⟨ret_bool (by rw [decide_eq_true HN.out]), bel_drewN (Below.refl _ _) _⟩
 ·have hne : ((l.length : Int) != (m.length : Int)) = true := by rw [bne_iff_ne]; omega
  have HN := Lib.hid (show ¬ l = m from fun e => hlen (by rw [e]))
  clear hlen
  go_enter Tryz.func22, Tryz.ntmps22
  go_wp2
  go_ret
  exact ⟨ret_bool (by rw [decide_eq_false HN.out]), Below.refl _ _⟩
end Go.Proofs.YtbnafbdhomdcoaaGreatDoor
