/-
  The walk of FieldLooks.
-/
import Derived.Test.YtamagbdkcfmfmaaDoorToks
import Derived.Test.YtamagbdkcfmfmaaDoorLawTurns
namespace Go.Proofs.YtamagbdkcfmfmaaDoor
open Go.RowKit Go.Shelf Go.Lib

def headV (vs : List ByteArray) : ByteArray × Bool := match vs with
  | [] => (⟨#[]⟩, false)
  | v :: _ => (v, true)
theorem findV_head (l : List Fl) (name : ByteArray) : findV l name = headV (allV l name) := by
  unfold findV
  cases allV l name <;> rfl
theorem bool_ne_self (b : Bool) : (b != b) = false := by cases b <;> rfl

set_option maxRecDepth 20000 in
set_option maxHeartbeats 4000000 in
theorem FieldLooks_walk (A : Option Addr) (c : Nat) (l : List Fl) (name token : ByteArray) (w : World) (hr : Row w A (flat l)) (hl : l.length ≤ 4398046511102) (_hw : Wide l) (hn : name.size ≤ maxLen) (ht : token.size ≤ maxLen) (hk : bulkF l + name.size + token.size ≤ 1048576) (hg : Glob w) :
    Calls Tryd.prog 12 #[.slice A l.length c, .string name, .string token] w fun e w' => e = .returned (.bool true) ∧ Below w.heap.size w w' := by
  have hkb : bulkF l ≤ 1048576 := by omega
  have hba := bulk_all l name
  have HF := Lib.hid (fun A c w hr => Find_any A c l name w hr (by omega) (bulk_wide hkb) hn)
  have HA := Lib.hid (fun A c w hr => All_any A c l name w hr (by omega) (bulk_wide hkb) hn)
  have HRA := Lib.hid (fun A c w hr => rAll_any A c l name w hr (by omega) (bulk_wide hkb) hn)
  have HJ := Lib.hid (fun A c w hr => Joined_any A c l name w hr hkb hn)
  have HRJ := Lib.hid (fun A c w hr => rJoined_any A c l name w hr hkb hn)
  have HL := Lib.hid (fun A c w hr => fList_any A c l name w hr hkb hn)
  have HRL := Lib.hid (fun A c w hr => rList_any A c l name w hr hkb hn)
  have HT := Lib.hid (fun A c w hr hg => Tokens_any A c l name w hr hkb hn hg)
  have HRT := Lib.hid (fun A c w hr => rTokens_any A c l name w hr hkb hn)
  have HH := Lib.hid (fun A c w hr hg => Has_any A c l name token w hr hkb hn ht hg)
  have HRH := Lib.hid (fun A c w hr => rHas_any A c l name token w hr hkb hn ht)
  simp only [findV_head] at HF
  generalize allV l name = vs at *
  have hlb := (listR_bound vs).2.2
  have htl := tokR_len (listR vs)
  generalize hasR (tokR (listR vs)) token = hs at HH HRH
  generalize tokR (listR vs) = tr at HT HRT htl
  generalize listR vs = lr at HL HRL hlb htl
  generalize joinR vs = jn at HJ HRJ
  obtain ⟨tl, te⟩ := tr
  obtain ⟨ll, le⟩ := lr
  have hll : ll.length ≤ 1048576 := by simp only at hlb; omega
  have htt : tl.length ≤ 1048576 := by simp only at htl; omega
  have hvl : vs.length ≤ 1048576 := by omega
  clear hlb htl hba
  have hhs := Lib.hid (bool_ne_self hs)
  cases vs with
  | nil =>
    have HF2 := Lib.hid (show headV [] = (⟨#[]⟩, false) from rfl)
    rw [HF2.out] at HF
    have hposn : decide (0 < ([] : List ByteArray).length) = false := rfl
    rw [hposn] at HJ HRJ
    clear hposn
    go_enter Tryd.func12, Tryd.ntmps12
    go_wp2_with fail
    refine (awake_any w hg).mono ?_
    rintro e w1 ⟨rfl, hb⟩
    have r_1 := hr.below hb
    have g_1 := hg.beyond hb
    have hbw1 := hb
    clear hb 
    go_wp2_with fail
    refine (handed_any A c l w1 r_1 hl).mono ?_
    rintro e w2 ⟨g, c2, rfl, hown, hb⟩
    have r_2 := r_1.below hb
    have g_2 := g_1.beyond hb
    have in_2 := (handed_rows hown).1
    have full_2 := (handed_rows hown).2
    have hbw2 := hbw1.trans (hb.mono hbw1.size)
    clear hb r_1 g_1 hbw1 hown
    go_wp2_with fail
    refine (plain_any A c l w2 r_2 (by omega)).mono ?_
    rintro e w3 ⟨P, cp, rfl, hown, hb⟩
    have r_3 := r_2.below hb
    have g_3 := g_2.beyond hb
    have in_3 := in_2.below hb
    have full_3 := full_2.below hb
    have p_3 := own_row hown
    have hbw3 := hbw2.trans (hb.mono hbw2.size)
    clear hb r_2 g_2 in_2 full_2 hbw2 hown
    go_wp2_with fail
    refine (HRA.out P cp w3 p_3).mono ?_
    rintro e w4 ⟨Y, cy, rfl, hown, hb⟩
    have r_4 := r_3.below hb
    have g_4 := g_3.beyond hb
    have in_4 := in_3.below hb
    have full_4 := full_3.below hb
    have p_4 := p_3.below hb
    have y_4 := own_row hown
    have hbw4 := hbw3.trans (hb.mono hbw3.size)
    clear hb r_3 g_3 in_3 full_3 p_3 hbw3 hown
    go_wp2_with fail
    refine (HF.out (some ⟨g, 0, none⟩) c2 w4 in_4).mono ?_
    rintro e w5 ⟨rfl, hb⟩
    have r_5 := r_4.below hb
    have g_5 := g_4.beyond hb
    have in_5 := in_4.below hb
    have full_5 := full_4.below hb
    have p_5 := p_4.below hb
    have y_5 := y_4.below hb
    have hbw5 := hbw4.trans (hb.mono hbw4.size)
    clear hb r_4 g_4 in_4 full_4 p_4 y_4 hbw4
    go_wp2_with fail
    refine (HA.out (some ⟨g, 0, none⟩) c2 w5 in_5).mono ?_
    rintro e w6 ⟨X, cx, rfl, hown, hb⟩
    have r_6 := r_5.below hb
    have g_6 := g_5.beyond hb
    have in_6 := in_5.below hb
    have full_6 := full_5.below hb
    have p_6 := p_5.below hb
    have y_6 := y_5.below hb
    have x_6 := own_row hown
    have hbw6 := hbw5.trans (hb.mono hbw5.size)
    clear hb r_5 g_5 in_5 full_5 p_5 y_5 hbw5 hown
    have HX := Lib.hid (textss_any (A := X) (B := Y) cx cy [] w6 x_6 y_6 (by simp only [List.length_nil]; omega))
    go_wp2_with fail
    refine (HX.out).mono ?_
    rintro e w7 ⟨rfl, hb⟩
    have r_7 := r_6.below hb
    have g_7 := g_6.beyond hb
    have in_7 := in_6.below hb
    have full_7 := full_6.below hb
    have p_7 := p_6.below hb
    have hbw7 := hbw6.trans (hb.mono hbw6.size)
    clear hb x_6 y_6 r_6 g_6 in_6 full_6 p_6 hbw6
    go_wp2_with fail
    refine (HJ.out (some ⟨g, 0, none⟩) c2 w7 in_7).mono ?_
    rintro e w8 ⟨rfl, hb⟩
    have r_8 := r_7.below hb
    have g_8 := g_7.beyond hb
    have in_8 := in_7.below hb
    have full_8 := full_7.below hb
    have p_8 := p_7.below hb
    have hbw8 := hbw7.trans (hb.mono hbw7.size)
    clear hb r_7 g_7 in_7 full_7 p_7 hbw7
    go_wp2_with fail
    refine (HRJ.out P cp w8 p_8).mono ?_
    rintro e w9 ⟨rfl, hb⟩
    have r_9 := r_8.below hb
    have g_9 := g_8.beyond hb
    have in_9 := in_8.below hb
    have full_9 := full_8.below hb
    have p_9 := p_8.below hb
    have hbw9 := hbw8.trans (hb.mono hbw8.size)
    clear hb r_8 g_8 in_8 full_8 p_8 hbw8
    go_wp2_with fail
    refine (HL.out (some ⟨g, 0, none⟩) c2 w9 in_9).mono ?_
    rintro e w10 ⟨X1, cx1, rfl, hown, hb⟩
    have r_10 := r_9.below hb
    have g_10 := g_9.beyond hb
    have in_10 := in_9.below hb
    have full_10 := full_9.below hb
    have p_10 := p_9.below hb
    have x_10 := own_row hown
    have hbw10 := hbw9.trans (hb.mono hbw9.size)
    clear hb r_9 g_9 in_9 full_9 p_9 hbw9 hown
    go_wp2_with fail
    refine (HRL.out P cp w10 p_10).mono ?_
    rintro e w11 ⟨Y1, cy1, rfl, hown, hb⟩
    have r_11 := r_10.below hb
    have g_11 := g_10.beyond hb
    have in_11 := in_10.below hb
    have full_11 := full_10.below hb
    have p_11 := p_10.below hb
    have x_11 := x_10.below hb
    have y_11 := own_row hown
    have hbw11 := hbw10.trans (hb.mono hbw10.size)
    clear hb r_10 g_10 in_10 full_10 p_10 x_10 hbw10 hown
    go_wp2_with fail
    refine (textss_any (A := X1) (B := Y1) cx1 cy1 ll w11 x_11 y_11 (by omega)).mono ?_
    rintro e w12 ⟨rfl, hb⟩
    have r_12 := r_11.below hb
    have g_12 := g_11.beyond hb
    have in_12 := in_11.below hb
    have full_12 := full_11.below hb
    have p_12 := p_11.below hb
    have hbw12 := hbw11.trans (hb.mono hbw11.size)
    clear hb x_11 y_11 r_11 g_11 in_11 full_11 p_11 hbw11
    go_wp2_with fail
    refine (HT.out (some ⟨g, 0, none⟩) c2 w12 in_12 g_12).mono ?_
    rintro e w13 ⟨X2, cx2, rfl, hown, hb⟩
    have r_13 := r_12.below hb
    have g_13 := g_12.beyond hb
    have in_13 := in_12.below hb
    have full_13 := full_12.below hb
    have p_13 := p_12.below hb
    have x_13 := own_row hown
    have hbw13 := hbw12.trans (hb.mono hbw12.size)
    clear hb r_12 g_12 in_12 full_12 p_12 hbw12 hown
    go_wp2_with fail
    refine (HRT.out P cp w13 p_13).mono ?_
    rintro e w14 ⟨Y2, cy2, rfl, hown, hb⟩
    have r_14 := r_13.below hb
    have g_14 := g_13.beyond hb
    have in_14 := in_13.below hb
    have full_14 := full_13.below hb
    have p_14 := p_13.below hb
    have x_14 := x_13.below hb
    have y_14 := own_row hown
    have hbw14 := hbw13.trans (hb.mono hbw13.size)
    clear hb r_13 g_13 in_13 full_13 p_13 x_13 hbw13 hown
    go_wp2_with fail
    refine (textss_any (A := X2) (B := Y2) cx2 cy2 tl w14 x_14 y_14 (by omega)).mono ?_
    rintro e w15 ⟨rfl, hb⟩
    have r_15 := r_14.below hb
    have g_15 := g_14.beyond hb
    have in_15 := in_14.below hb
    have full_15 := full_14.below hb
    have p_15 := p_14.below hb
    have hbw15 := hbw14.trans (hb.mono hbw14.size)
    clear hb x_14 y_14 r_14 g_14 in_14 full_14 p_14 hbw14
    go_wp2_with fail
    refine (HH.out (some ⟨g, 0, none⟩) c2 w15 in_15 g_15).mono ?_
    rintro e w16 ⟨rfl, hb⟩
    have r_16 := r_15.below hb
    have g_16 := g_15.beyond hb
    have in_16 := in_15.below hb
    have full_16 := full_15.below hb
    have p_16 := p_15.below hb
    have hbw16 := hbw15.trans (hb.mono hbw15.size)
    clear hb r_15 g_15 in_15 full_15 p_15 hbw15
    go_wp2_with fail
    refine (HRH.out P cp w16 p_16).mono ?_
    rintro e w17 ⟨rfl, hb⟩
    have r_17 := r_16.below hb
    have g_17 := g_16.beyond hb
    have full_17 := full_16.below hb
    have hbw17 := hbw16.trans (hb.mono hbw16.size)
    clear hb in_16 p_16 r_16 g_16 full_16 hbw16
    have hse : (hs == hs) = true := by cases hs <;> rfl
    go_wp2_with fail
    refine (wholes_any (c2 := c2) (c := c) l w17 full_17 r_17 hl).mono ?_
    rintro e w18 ⟨rfl, hb⟩
    have r_18 := r_17.below hb
    have g_18 := g_17.beyond hb
    have full_18 := full_17.below hb
    have hbw18 := hbw17.trans (hb.mono hbw17.size)
    clear hb r_17 g_17 full_17 hbw17
    go_wp2
    go_ret
    exact ⟨rfl, hbw18⟩
  | cons v vs =>
    have HF2 := Lib.hid (show headV (v :: vs) = (v, true) from rfl)
    rw [HF2.out] at HF
    have hpos : decide ((0 : Int) < (vs.length : Int) + 1) = true := decide_eq_true (by omega)
    have hposn : decide (0 < (v :: vs).length) = true := decide_eq_true (by simp)
    rw [hposn] at HJ HRJ
    clear hposn
    simp only [List.length_cons] at hvl
    go_enter Tryd.func12, Tryd.ntmps12
    go_wp2_with fail
    refine (awake_any w hg).mono ?_
    rintro e w1 ⟨rfl, hb⟩
    have r_1 := hr.below hb
    have g_1 := hg.beyond hb
    have hbw1 := hb
    clear hb 
    go_wp2_with fail
    refine (handed_any A c l w1 r_1 hl).mono ?_
    rintro e w2 ⟨g, c2, rfl, hown, hb⟩
    have r_2 := r_1.below hb
    have g_2 := g_1.beyond hb
    have in_2 := (handed_rows hown).1
    have full_2 := (handed_rows hown).2
    have hbw2 := hbw1.trans (hb.mono hbw1.size)
    clear hb r_1 g_1 hbw1 hown
    go_wp2_with fail
    refine (plain_any A c l w2 r_2 (by omega)).mono ?_
    rintro e w3 ⟨P, cp, rfl, hown, hb⟩
    have r_3 := r_2.below hb
    have g_3 := g_2.beyond hb
    have in_3 := in_2.below hb
    have full_3 := full_2.below hb
    have p_3 := own_row hown
    have hbw3 := hbw2.trans (hb.mono hbw2.size)
    clear hb r_2 g_2 in_2 full_2 hbw2 hown
    go_wp2_with fail
    refine (HRA.out P cp w3 p_3).mono ?_
    rintro e w4 ⟨Y, cy, rfl, hown, hb⟩
    have r_4 := r_3.below hb
    have g_4 := g_3.beyond hb
    have in_4 := in_3.below hb
    have full_4 := full_3.below hb
    have p_4 := p_3.below hb
    have y_4 := own_row hown
    have hbw4 := hbw3.trans (hb.mono hbw3.size)
    clear hb r_3 g_3 in_3 full_3 p_3 hbw3 hown
    obtain ⟨yb, yo, rfl, hyb, hyc⟩ := y_4.str (k := 0) (x := v) rfl
    rw [Nat.add_zero] at hyc
    rw [List.length_cons]
    go_wp2_with fail
    refine (HF.out (some ⟨g, 0, none⟩) c2 w4 in_4).mono ?_
    rintro e w5 ⟨rfl, hb⟩
    have r_5 := r_4.below hb
    have g_5 := g_4.beyond hb
    have in_5 := in_4.below hb
    have full_5 := full_4.below hb
    have p_5 := p_4.below hb
    have y_5 := y_4.below hb
    have hbw5 := hbw4.trans (hb.mono hbw4.size)
    clear hb r_4 g_4 in_4 full_4 p_4 y_4 hbw4
    go_wp2_with fail
    refine (HA.out (some ⟨g, 0, none⟩) c2 w5 in_5).mono ?_
    rintro e w6 ⟨X, cx, rfl, hown, hb⟩
    have r_6 := r_5.below hb
    have g_6 := g_5.beyond hb
    have in_6 := in_5.below hb
    have full_6 := full_5.below hb
    have p_6 := p_5.below hb
    have y_6 := y_5.below hb
    have x_6 := own_row hown
    have hbw6 := hbw5.trans (hb.mono hbw5.size)
    clear hb r_5 g_5 in_5 full_5 p_5 y_5 hbw5 hown
    rw [List.length_cons]
    have HX := Lib.hid (textss_any (A := X) (B := (some ⟨yb, yo, none⟩)) cx cy (v :: vs) w6 x_6 y_6 (by simp only [List.length_cons]; omega))
    rw [List.length_cons] at HX
    go_wp2_with fail
    refine (HX.out).mono ?_
    rintro e w7 ⟨rfl, hb⟩
    have r_7 := r_6.below hb
    have g_7 := g_6.beyond hb
    have in_7 := in_6.below hb
    have full_7 := full_6.below hb
    have p_7 := p_6.below hb
    have hbw7 := hbw6.trans (hb.mono hbw6.size)
    clear hb x_6 y_6 r_6 g_6 in_6 full_6 p_6 hbw6
    go_wp2_with fail
    refine (HJ.out (some ⟨g, 0, none⟩) c2 w7 in_7).mono ?_
    rintro e w8 ⟨rfl, hb⟩
    have r_8 := r_7.below hb
    have g_8 := g_7.beyond hb
    have in_8 := in_7.below hb
    have full_8 := full_7.below hb
    have p_8 := p_7.below hb
    have hbw8 := hbw7.trans (hb.mono hbw7.size)
    clear hb r_7 g_7 in_7 full_7 p_7 hbw7
    go_wp2_with fail
    refine (HRJ.out P cp w8 p_8).mono ?_
    rintro e w9 ⟨rfl, hb⟩
    have r_9 := r_8.below hb
    have g_9 := g_8.beyond hb
    have in_9 := in_8.below hb
    have full_9 := full_8.below hb
    have p_9 := p_8.below hb
    have hbw9 := hbw8.trans (hb.mono hbw8.size)
    clear hb r_8 g_8 in_8 full_8 p_8 hbw8
    go_wp2_with fail
    refine (HL.out (some ⟨g, 0, none⟩) c2 w9 in_9).mono ?_
    rintro e w10 ⟨X1, cx1, rfl, hown, hb⟩
    have r_10 := r_9.below hb
    have g_10 := g_9.beyond hb
    have in_10 := in_9.below hb
    have full_10 := full_9.below hb
    have p_10 := p_9.below hb
    have x_10 := own_row hown
    have hbw10 := hbw9.trans (hb.mono hbw9.size)
    clear hb r_9 g_9 in_9 full_9 p_9 hbw9 hown
    go_wp2_with fail
    refine (HRL.out P cp w10 p_10).mono ?_
    rintro e w11 ⟨Y1, cy1, rfl, hown, hb⟩
    have r_11 := r_10.below hb
    have g_11 := g_10.beyond hb
    have in_11 := in_10.below hb
    have full_11 := full_10.below hb
    have p_11 := p_10.below hb
    have x_11 := x_10.below hb
    have y_11 := own_row hown
    have hbw11 := hbw10.trans (hb.mono hbw10.size)
    clear hb r_10 g_10 in_10 full_10 p_10 x_10 hbw10 hown
    go_wp2_with fail
    refine (textss_any (A := X1) (B := Y1) cx1 cy1 ll w11 x_11 y_11 (by omega)).mono ?_
    rintro e w12 ⟨rfl, hb⟩
    have r_12 := r_11.below hb
    have g_12 := g_11.beyond hb
    have in_12 := in_11.below hb
    have full_12 := full_11.below hb
    have p_12 := p_11.below hb
    have hbw12 := hbw11.trans (hb.mono hbw11.size)
    clear hb x_11 y_11 r_11 g_11 in_11 full_11 p_11 hbw11
    go_wp2_with fail
    refine (HT.out (some ⟨g, 0, none⟩) c2 w12 in_12 g_12).mono ?_
    rintro e w13 ⟨X2, cx2, rfl, hown, hb⟩
    have r_13 := r_12.below hb
    have g_13 := g_12.beyond hb
    have in_13 := in_12.below hb
    have full_13 := full_12.below hb
    have p_13 := p_12.below hb
    have x_13 := own_row hown
    have hbw13 := hbw12.trans (hb.mono hbw12.size)
    clear hb r_12 g_12 in_12 full_12 p_12 hbw12 hown
    go_wp2_with fail
    refine (HRT.out P cp w13 p_13).mono ?_
    rintro e w14 ⟨Y2, cy2, rfl, hown, hb⟩
    have r_14 := r_13.below hb
    have g_14 := g_13.beyond hb
    have in_14 := in_13.below hb
    have full_14 := full_13.below hb
    have p_14 := p_13.below hb
    have x_14 := x_13.below hb
    have y_14 := own_row hown
    have hbw14 := hbw13.trans (hb.mono hbw13.size)
    clear hb r_13 g_13 in_13 full_13 p_13 x_13 hbw13 hown
    go_wp2_with fail
    refine (textss_any (A := X2) (B := Y2) cx2 cy2 tl w14 x_14 y_14 (by omega)).mono ?_
    rintro e w15 ⟨rfl, hb⟩
    have r_15 := r_14.below hb
    have g_15 := g_14.beyond hb
    have in_15 := in_14.below hb
    have full_15 := full_14.below hb
    have p_15 := p_14.below hb
    have hbw15 := hbw14.trans (hb.mono hbw14.size)
    clear hb x_14 y_14 r_14 g_14 in_14 full_14 p_14 hbw14
    go_wp2_with fail
    refine (HH.out (some ⟨g, 0, none⟩) c2 w15 in_15 g_15).mono ?_
    rintro e w16 ⟨rfl, hb⟩
    have r_16 := r_15.below hb
    have g_16 := g_15.beyond hb
    have in_16 := in_15.below hb
    have full_16 := full_15.below hb
    have p_16 := p_15.below hb
    have hbw16 := hbw15.trans (hb.mono hbw15.size)
    clear hb r_15 g_15 in_15 full_15 p_15 hbw15
    go_wp2_with fail
    refine (HRH.out P cp w16 p_16).mono ?_
    rintro e w17 ⟨rfl, hb⟩
    have r_17 := r_16.below hb
    have g_17 := g_16.beyond hb
    have full_17 := full_16.below hb
    have hbw17 := hbw16.trans (hb.mono hbw16.size)
    clear hb in_16 p_16 r_16 g_16 full_16 hbw16
    have hse : (hs == hs) = true := by cases hs <;> rfl
    go_wp2_with fail
    refine (wholes_any (c2 := c2) (c := c) l w17 full_17 r_17 hl).mono ?_
    rintro e w18 ⟨rfl, hb⟩
    have r_18 := r_17.below hb
    have g_18 := g_17.beyond hb
    have full_18 := full_17.below hb
    have hbw18 := hbw17.trans (hb.mono hbw17.size)
    clear hb r_17 g_17 full_17 hbw17
    go_wp2
    go_ret
    exact ⟨rfl, hbw18⟩
end Go.Proofs.YtamagbdkcfmfmaaDoor
