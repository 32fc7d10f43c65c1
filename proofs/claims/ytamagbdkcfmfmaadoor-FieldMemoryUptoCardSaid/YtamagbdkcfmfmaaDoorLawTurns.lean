/-
  The walk of FieldTurns.
-/
import Derived.Test.YtamagbdkcfmfmaaDoorTurns3
import Derived.Test.YtamagbdkcfmfmaaDoorLawPrints
namespace Go.Proofs.YtamagbdkcfmfmaaDoor
open Go.RowKit Go.Shelf Go.Lib

theorem wrong_len_add (l : List Fl) (name value : ByteArray) : (addL l name value).1.length ≤ l.length + 1 := by
  unfold addL
  split <;> simp
theorem setL_len (l : List Fl) (name value : ByteArray) : (setL l name value).1.length ≤ l.length + 1 := by
  unfold setL
  split
  · exact wrong_len_add l name value
  · split
    · have := setKept_len name l
      simp only [List.length_map]; omega
    · simp
theorem removeL_len (l : List Fl) (name : ByteArray) : (removeL l name).length ≤ l.length := List.length_filter_le _ _
theorem sames_any {A B : Option Addr} (c d : Nat) (l : List Fl) (w : World) (hr : Row w A (flat l)) (hs : Row w B (flat l)) (hl : l.length ≤ 4398046511104) :
    Calls Tryd.prog 35 #[.slice A l.length c, .slice B l.length d] w fun e w' => e = .returned (.bool true) ∧ Below w.heap.size w w' := by
  have hS := same_any A B c d l l w hr hs hl hl
  rw [decide_eq_true rfl] at hS
  exact hS
theorem wholes_any {g c2 c : Nat} {A : Option Addr} (l : List Fl) (w : World) (hf : Row w (some ⟨g, 0, none⟩) (flat (l ++ spareRoom))) (hr : Row w A (flat l)) (hl : l.length ≤ 4398046511102) :
    Calls Tryd.prog 30 #[.slice (some ⟨g, 0, none⟩) (l.length + 2) c2, .slice A l.length c] w fun e w' => e = .returned (.bool true) ∧ Below w.heap.size w w' := by
  have hlen : (l ++ spareRoom).length = l.length + 2 := by rw [List.length_append]; rfl
  have hW := whole_any (some ⟨g, 0, none⟩) A c2 c (l ++ spareRoom) l w hf hr (by omega) hl
  rw [hlen, decide_eq_true rfl] at hW
  exact hW

set_option maxRecDepth 20000 in
set_option maxHeartbeats 4000000 in
theorem FieldTurns_walk (A : Option Addr) (c : Nat) (l : List Fl) (name value : ByteArray) (w : World) (hr : Row w A (flat l)) (hl : l.length ≤ 4398046511102) (hw : Wide l) (hn : name.size ≤ maxLen) (hv : value.size ≤ maxLen) (hg : Glob w) :
    Calls Tryd.prog 6 #[.slice A l.length c, .string name, .string value] w fun e w' => e = .returned (.bool true) ∧ Below w.heap.size w w' := by
  have HA := Lib.hid (fun A c w hr hg => Add_any A c l name value w hr (by omega) hn hv hg)
  have HRA := Lib.hid (fun A c w hr => rAdd_any A c l name value w hr (by omega) hn hv)
  have HS := Lib.hid (fun A c w hr hg => Set_any A c l name value w hr (by omega) hw hn hv hg)
  have HRS := Lib.hid (fun A c w hr => rSet_any A c l name value w hr (by omega) hw hn hv)
  have HM := Lib.hid (fun A c w hr => Remove_any A c l name w hr (by omega) hw hn)
  have HRM := Lib.hid (fun A c w hr => rRemove_any A c l name w hr (by omega) hw hn)
  have la := wrong_len_add l name value
  have ls := setL_len l name value
  have lm := removeL_len l name
  generalize addL l name value = ra at HA HRA la
  generalize setL l name value = rs at HS HRS ls
  generalize removeL l name = rm at HM HRM lm
  obtain ⟨al, ae⟩ := ra
  obtain ⟨sl, se⟩ := rs
  replace la : al.length ≤ l.length + 1 := la
  replace ls : sl.length ≤ l.length + 1 := ls
  go_enter Tryd.func6, Tryd.ntmps6
  go_wp2_with fail
  refine (awake_any w hg).mono ?_
  rintro e w1 ⟨rfl, hb1⟩
  have hr1 := hr.below hb1
  have hg1 := hg.beyond hb1
  go_wp2_with fail
  refine (handed_any A c l w1 hr1 hl).mono ?_
  rintro e w2 ⟨g, c2, rfl, hown, hb2⟩
  obtain ⟨hin2, hfull2⟩ := handed_rows hown
  have hr2 := hr1.below hb2
  have hg2 := hg1.beyond hb2
  have hbw2 := hb1.trans (hb2.mono hb1.size)
  clear hown hb1 hb2 hr1 hg1
  go_wp2_with fail
  refine (plain_any A c l w2 hr2 (by omega)).mono ?_
  rintro e w3 ⟨P, cp, rfl, hown, hb⟩
  have hp3 := own_row hown
  have hin3 := hin2.below hb
  have hfull3 := hfull2.below hb
  have hr3 := hr2.below hb
  have hg3 := hg2.beyond hb
  have hbw3 := hbw2.trans (hb.mono hbw2.size)
  clear hb hin2 hfull2 hr2 hg2 hbw2 hown
  go_wp2_with fail
  refine (HA.out (some ⟨g, 0, none⟩) c2 w3 hin3 hg3).mono ?_
  rintro e w4 ⟨X1, d1, rfl, hown, hb⟩
  have hx4 := own_row hown
  have hin4 := hin3.below hb
  have hfull4 := hfull3.below hb
  have hr4 := hr3.below hb
  have hp4 := hp3.below hb
  have hg4 := hg3.beyond hb
  have hbw4 := hbw3.trans (hb.mono hbw3.size)
  clear hb hin3 hfull3 hr3 hp3 hg3 hbw3 hown
  go_wp2_with fail
  refine (HRA.out P cp w4 hp4).mono ?_
  rintro e w5 ⟨Y1, d2, rfl, hown, hb⟩
  have hy5 := own_row hown
  have hin5 := hin4.below hb
  have hfull5 := hfull4.below hb
  have hr5 := hr4.below hb
  have hp5 := hp4.below hb
  have hx5 := hx4.below hb
  have hg5 := hg4.beyond hb
  have hbw5 := hbw4.trans (hb.mono hbw4.size)
  clear hb hin4 hfull4 hr4 hp4 hx4 hg4 hbw4 hown
  go_wp2_with fail
  refine (sames_any d1 d2 al w5 hx5 hy5 (by omega)).mono ?_
  rintro e w6 ⟨rfl, hb⟩
  have hin6 := hin5.below hb
  have hfull6 := hfull5.below hb
  have hr6 := hr5.below hb
  have hp6 := hp5.below hb
  have hg6 := hg5.beyond hb
  have hbw6 := hbw5.trans (hb.mono hbw5.size)
  clear hb hin5 hfull5 hr5 hp5 hg5 hbw5
  go_wp2_with fail
  refine (wholes_any (c2 := c2) (c := c) l w6 hfull6 hr6 hl).mono ?_
  rintro e w7 ⟨rfl, hb⟩
  have hin7 := hin6.below hb
  have hfull7 := hfull6.below hb
  have hr7 := hr6.below hb
  have hp7 := hp6.below hb
  have hg7 := hg6.beyond hb
  have hbw7 := hbw6.trans (hb.mono hbw6.size)
  clear hb hin6 hfull6 hr6 hp6 hg6 hbw6
  go_wp2_with fail
  refine (HS.out (some ⟨g, 0, none⟩) c2 w7 hin7 hg7).mono ?_
  rintro e w8 ⟨X2, d3, rfl, hown, hb⟩
  have hx8 := own_row hown
  have hin8 := hin7.below hb
  have hfull8 := hfull7.below hb
  have hr8 := hr7.below hb
  have hp8 := hp7.below hb
  have hg8 := hg7.beyond hb
  have hbw8 := hbw7.trans (hb.mono hbw7.size)
  clear hb hin7 hfull7 hr7 hp7 hg7 hbw7 hown
  go_wp2_with fail
  refine (HRS.out P cp w8 hp8).mono ?_
  rintro e w9 ⟨Y2, d4, rfl, hown, hb⟩
  have hy9 := own_row hown
  have hin9 := hin8.below hb
  have hfull9 := hfull8.below hb
  have hr9 := hr8.below hb
  have hp9 := hp8.below hb
  have hx9 := hx8.below hb
  have hg9 := hg8.beyond hb
  have hbw9 := hbw8.trans (hb.mono hbw8.size)
  clear hb hin8 hfull8 hr8 hp8 hx8 hg8 hbw8 hown
  go_wp2_with fail
  refine (sames_any d3 d4 sl w9 hx9 hy9 (by omega)).mono ?_
  rintro e w10 ⟨rfl, hb⟩
  have hin10 := hin9.below hb
  have hfull10 := hfull9.below hb
  have hr10 := hr9.below hb
  have hp10 := hp9.below hb
  have hg10 := hg9.beyond hb
  have hbw10 := hbw9.trans (hb.mono hbw9.size)
  clear hb hin9 hfull9 hr9 hp9 hg9 hbw9
  go_wp2_with fail
  refine (wholes_any (c2 := c2) (c := c) l w10 hfull10 hr10 hl).mono ?_
  rintro e w11 ⟨rfl, hb⟩
  have hin11 := hin10.below hb
  have hfull11 := hfull10.below hb
  have hr11 := hr10.below hb
  have hp11 := hp10.below hb
  have hg11 := hg10.beyond hb
  have hbw11 := hbw10.trans (hb.mono hbw10.size)
  clear hb hin10 hfull10 hr10 hp10 hg10 hbw10
  go_wp2_with fail
  refine (HM.out (some ⟨g, 0, none⟩) c2 w11 hin11).mono ?_
  rintro e w12 ⟨X3, d5, rfl, hown, hb⟩
  have hx12 := own_row hown
  have hin12 := hin11.below hb
  have hfull12 := hfull11.below hb
  have hr12 := hr11.below hb
  have hp12 := hp11.below hb
  have hg12 := hg11.beyond hb
  have hbw12 := hbw11.trans (hb.mono hbw11.size)
  clear hb hin11 hfull11 hr11 hp11 hg11 hbw11 hown
  go_wp2_with fail
  refine (HRM.out P cp w12 hp12).mono ?_
  rintro e w13 ⟨Y3, d6, rfl, hown, hb⟩
  have hy13 := own_row hown
  have hin13 := hin12.below hb
  have hfull13 := hfull12.below hb
  have hr13 := hr12.below hb
  have hp13 := hp12.below hb
  have hx13 := hx12.below hb
  have hg13 := hg12.beyond hb
  have hbw13 := hbw12.trans (hb.mono hbw12.size)
  clear hb hin12 hfull12 hr12 hp12 hx12 hg12 hbw12 hown
  go_wp2_with fail
  refine (sames_any d5 d6 rm w13 hx13 hy13 (by omega)).mono ?_
  rintro e w14 ⟨rfl, hb⟩
  have hin14 := hin13.below hb
  have hfull14 := hfull13.below hb
  have hr14 := hr13.below hb
  have hp14 := hp13.below hb
  have hg14 := hg13.beyond hb
  have hbw14 := hbw13.trans (hb.mono hbw13.size)
  clear hb hin13 hfull13 hr13 hp13 hg13 hbw13
  go_wp2_with fail
  refine (wholes_any (c2 := c2) (c := c) l w14 hfull14 hr14 hl).mono ?_
  rintro e w15 ⟨rfl, hb⟩
  have hin15 := hin14.below hb
  have hfull15 := hfull14.below hb
  have hr15 := hr14.below hb
  have hp15 := hp14.below hb
  have hg15 := hg14.beyond hb
  have hbw15 := hbw14.trans (hb.mono hbw14.size)
  clear hb hin14 hfull14 hr14 hp14 hg14 hbw14
  go_wp2
  go_ret
  exact ⟨rfl, hbw15⟩
end Go.Proofs.YtamagbdkcfmfmaaDoor
