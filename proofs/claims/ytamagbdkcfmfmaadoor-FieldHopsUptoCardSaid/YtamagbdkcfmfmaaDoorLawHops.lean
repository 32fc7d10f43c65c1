/-
  The walk of FieldHops.
-/
import Derived.Test.YtamagbdkcfmfmaaDoorHops
import Derived.Test.YtamagbdkcfmfmaaDoorOnw
import Derived.Test.YtamagbdkcfmfmaaDoorLawTurns
namespace Go.Proofs.YtamagbdkcfmfmaaDoor
open Go.RowKit Go.Shelf Go.Lib

set_option maxRecDepth 20000 in
set_option maxHeartbeats 4000000 in
theorem FieldHops_walk (A : Option Addr) (c : Nat) (l : List Fl) (old : Bool) (w : World) (hr : Row w A (flat l)) (hl : l.length ≤ 4398046511102) (_hw : Wide l) (hk : bulkF l + 0 ≤ 1048576) (hg : Glob w) :
    Calls Tryd.prog 10 #[.slice A l.length c, .bool old] w fun e w' => e = .returned (.bool true) ∧ Below w.heap.size w w' := by
  have hkb : bulkF l ≤ 1048576 := by omega
  have hbl := bulk_len l
  have HH := Lib.hid (fun A c w hr => Host_any A c l old w hr hkb)
  have HRH := Lib.hid (fun A c w hr => rHost_any A c l old w hr hkb)
  have HP := Lib.hid (fun A c w hr hg => Persist_any A c l old w hr hkb hg)
  have HRP := Lib.hid (fun A c w hr => rPersist_any A c l old w hr hkb)
  have HO := Lib.hid (fun A c w hr hg => Onward_any A c l w hr hkb hg)
  have HRO := Lib.hid (fun A c w hr => rOnward_any A c l w hr hkb)
  have hol := onwR_len l (tokR (listR (allV l ⟨#[67, 111, 110, 110, 101, 99, 116, 105, 111, 110]⟩))).1
  generalize hostR (allV l hoName) old = hh at *
  generalize persR (tokR (listR (allV l coName))) old = pp at *
  generalize onwR l (tokR (listR (allV l ⟨#[67, 111, 110, 110, 101, 99, 116, 105, 111, 110]⟩))).1 = oo at *
  obtain ⟨s, b, he⟩ := hh
  have hbb : (b != b) = false := by cases b <;> rfl
  have hpp : (pp != pp) = false := by cases pp <;> rfl
  go_enter Tryd.func10, Tryd.ntmps10
  go_wp2_with fail
  refine (awake_any w hg).mono ?_
  rintro e w1 ⟨rfl, hb⟩
  have r_1 := hr.below hb
  have g_1 := hg.beyond hb
  have hbw1 := hb
  clear hb 
  go_wp2_with fail
  refine (handed_any A c l w1 r_1 hl).mono ?_
  rintro e w2 ⟨g, c2, rfl, hown, hb⟩
  have r_2 := r_1.below hb
  have g_2 := g_1.beyond hb
  have in_2 := (handed_rows hown).1
  have full_2 := (handed_rows hown).2
  have hbw2 := hbw1.trans (hb.mono hbw1.size)
  clear hb r_1 g_1 hbw1 hown
  go_wp2_with fail
  refine (plain_any A c l w2 r_2 (by omega)).mono ?_
  rintro e w3 ⟨P, cp, rfl, hown, hb⟩
  have r_3 := r_2.below hb
  have g_3 := g_2.beyond hb
  have in_3 := in_2.below hb
  have full_3 := full_2.below hb
  have p_3 := own_row hown
  have hbw3 := hbw2.trans (hb.mono hbw2.size)
  clear hb r_2 g_2 in_2 full_2 hbw2 hown
  go_wp2_with fail
  refine (HH.out (some ⟨g, 0, none⟩) c2 w3 in_3).mono ?_
  rintro e w4 ⟨rfl, hb⟩
  have r_4 := r_3.below hb
  have g_4 := g_3.beyond hb
  have in_4 := in_3.below hb
  have full_4 := full_3.below hb
  have p_4 := p_3.below hb
  have hbw4 := hbw3.trans (hb.mono hbw3.size)
  clear hb r_3 g_3 in_3 full_3 p_3 hbw3
  go_wp2_with fail
  refine (HRH.out P cp w4 p_4).mono ?_
  rintro e w5 ⟨rfl, hb⟩
  have r_5 := r_4.below hb
  have g_5 := g_4.beyond hb
  have in_5 := in_4.below hb
  have full_5 := full_4.below hb
  have p_5 := p_4.below hb
  have hbw5 := hbw4.trans (hb.mono hbw4.size)
  clear hb r_4 g_4 in_4 full_4 p_4 hbw4
  go_wp2_with fail
  refine (HP.out (some ⟨g, 0, none⟩) c2 w5 in_5 g_5).mono ?_
  rintro e w6 ⟨rfl, hb⟩
  have r_6 := r_5.below hb
  have g_6 := g_5.beyond hb
  have in_6 := in_5.below hb
  have full_6 := full_5.below hb
  have p_6 := p_5.below hb
  have hbw6 := hbw5.trans (hb.mono hbw5.size)
  clear hb r_5 g_5 in_5 full_5 p_5 hbw5
  go_wp2_with fail
  refine (HRP.out P cp w6 p_6).mono ?_
  rintro e w7 ⟨rfl, hb⟩
  have r_7 := r_6.below hb
  have g_7 := g_6.beyond hb
  have in_7 := in_6.below hb
  have full_7 := full_6.below hb
  have p_7 := p_6.below hb
  have hbw7 := hbw6.trans (hb.mono hbw6.size)
  clear hb r_6 g_6 in_6 full_6 p_6 hbw6
  go_wp2_with fail
  refine (HO.out (some ⟨g, 0, none⟩) c2 w7 in_7 g_7).mono ?_
  rintro e w8 ⟨X, cx, rfl, hown, hb⟩
  have r_8 := r_7.below hb
  have g_8 := g_7.beyond hb
  have in_8 := in_7.below hb
  have full_8 := full_7.below hb
  have p_8 := p_7.below hb
  have x_8 := own_row hown
  have hbw8 := hbw7.trans (hb.mono hbw7.size)
  clear hb r_7 g_7 in_7 full_7 p_7 hbw7 hown
  go_wp2_with fail
  refine (HRO.out P cp w8 p_8).mono ?_
  rintro e w9 ⟨Y, cy, rfl, hown, hb⟩
  have r_9 := r_8.below hb
  have g_9 := g_8.beyond hb
  have in_9 := in_8.below hb
  have full_9 := full_8.below hb
  have p_9 := p_8.below hb
  have x_9 := x_8.below hb
  have y_9 := own_row hown
  have hbw9 := hbw8.trans (hb.mono hbw8.size)
  clear hb r_8 g_8 in_8 full_8 p_8 x_8 hbw8 hown
  go_wp2_with fail
  refine (sames_any (A := X) (B := Y) cx cy oo w9 x_9 y_9 (by omega)).mono ?_
  rintro e w10 ⟨rfl, hb⟩
  have r_10 := r_9.below hb
  have g_10 := g_9.beyond hb
  have in_10 := in_9.below hb
  have full_10 := full_9.below hb
  have p_10 := p_9.below hb
  have hbw10 := hbw9.trans (hb.mono hbw9.size)
  clear hb x_9 y_9 r_9 g_9 in_9 full_9 p_9 hbw9
  go_wp2_with fail
  refine (wholes_any (c2 := c2) (c := c) l w10 full_10 r_10 hl).mono ?_
  rintro e w11 ⟨rfl, hb⟩
  have r_11 := r_10.below hb
  have g_11 := g_10.beyond hb
  have in_11 := in_10.below hb
  have full_11 := full_10.below hb
  have p_11 := p_10.below hb
  have hbw11 := hbw10.trans (hb.mono hbw10.size)
  clear hb r_10 g_10 in_10 full_10 p_10 hbw10
  go_wp2
  go_ret
  exact ⟨rfl, hbw11⟩
end Go.Proofs.YtamagbdkcfmfmaaDoor
