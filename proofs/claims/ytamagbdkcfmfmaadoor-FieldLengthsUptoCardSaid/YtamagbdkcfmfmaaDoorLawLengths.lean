/-
  The walk of FieldLengths.
-/
import Derived.Test.YtamagbdkcfmfmaaDoorFram
import Derived.Test.YtamagbdkcfmfmaaDoorLawTurns
namespace Go.Proofs.YtamagbdkcfmfmaaDoor
open Go.RowKit Go.Shelf Go.Lib

set_option maxRecDepth 20000 in
set_option maxHeartbeats 4000000 in
theorem FieldLengths_walk (A : Option Addr) (c : Nat) (l : List Fl) (old : Bool) (w : World) (hr : Row w A (flat l)) (hl : l.length ≤ 4398046511102) (_hw : Wide l) (hk : bulkF l + 0 ≤ 1048576) (hg : Glob w) :
    Calls Tryd.prog 13 #[.slice A l.length c, .bool old] w fun e w' => e = .returned (.bool true) ∧ Below w.heap.size w w' := by
  have hkb : bulkF l ≤ 1048576 := by omega
  have hba := bulk_all l teName
  have HL := Lib.hid (fun A c w hr => Length_any A c l w hr hkb)
  have HRL := Lib.hid (fun A c w hr => rLength_any A c l w hr hkb)
  have HC := Lib.hid (fun A c w hr hg => Codings_any A c l w hr hkb hg)
  have HRC := Lib.hid (fun A c w hr => rCodings_any A c l w hr hkb)
  have HF := Lib.hid (fun A c w hr hg => Framing_any A c l old w hr hkb hg)
  have HRF := Lib.hid (fun A c w hr => rFraming_any A c l old w hr hkb)
  have hcl : (codR (allV l teName)).1.length ≤ (allV l teName).length ∨ (codR (allV l teName)).1.length ≤ ((allV l teName).map (·.size)).sum := by
    unfold codR
    split
    · exact .inl (by simp)
    · split
      · exact .inr (Nat.le_trans (tokR_len _) (listR_bound _).2.2)
      · exact .inl (by simp)
  have hcl2 : (codR (allV l teName)).1.length ≤ 1048576 := by omega
  clear hcl hba
  generalize framR (codR (allV l teName)) (lengthR (allV l clName)) old = fr at HF HRF
  generalize codR (allV l teName) = cr at *
  generalize lengthR (allV l clName) = lr at *
  obtain ⟨fk, fn, fe⟩ := fr
  obtain ⟨cl, cb, ce⟩ := cr
  obtain ⟨m, mb, me⟩ := lr
  unfold framVal at HF
  unfold framVal3 at HRF
  simp only at HF HRF HL HRL hcl2
  have hmb : (mb != mb) = false := by cases mb <;> rfl
  have hcb : (cb != cb) = false := by cases cb <;> rfl
  go_enter Tryd.func13, Tryd.ntmps13
  go_wp2_with fail
  refine (awake_any w hg).mono ?_
  rintro e w1 ⟨rfl, hb⟩
  have r_1 := hr.below hb
  have g_1 := hg.beyond hb
  have hbw1 := hb
  clear hb 
  go_wp2_with fail
  refine (handed_any A c l w1 r_1 hl).mono ?_
  rintro e w2 ⟨g, c2, rfl, hown, hb⟩
  have r_2 := r_1.below hb
  have g_2 := g_1.beyond hb
  have in_2 := (handed_rows hown).1
  have full_2 := (handed_rows hown).2
  have hbw2 := hbw1.trans (hb.mono hbw1.size)
  clear hb r_1 g_1 hbw1 hown
  go_wp2_with fail
  refine (plain_any A c l w2 r_2 (by omega)).mono ?_
  rintro e w3 ⟨P, cp, rfl, hown, hb⟩
  have r_3 := r_2.below hb
  have g_3 := g_2.beyond hb
  have in_3 := in_2.below hb
  have full_3 := full_2.below hb
  have p_3 := own_row hown
  have hbw3 := hbw2.trans (hb.mono hbw2.size)
  clear hb r_2 g_2 in_2 full_2 hbw2 hown
  go_wp2_with fail
  refine (HL.out (some ⟨g, 0, none⟩) c2 w3 in_3).mono ?_
  rintro e w4 ⟨rfl, hb⟩
  have r_4 := r_3.below hb
  have g_4 := g_3.beyond hb
  have in_4 := in_3.below hb
  have full_4 := full_3.below hb
  have p_4 := p_3.below hb
  have hbw4 := hbw3.trans (hb.mono hbw3.size)
  clear hb r_3 g_3 in_3 full_3 p_3 hbw3
  go_wp2_with fail
  refine (HRL.out P cp w4 p_4).mono ?_
  rintro e w5 ⟨rfl, hb⟩
  have r_5 := r_4.below hb
  have g_5 := g_4.beyond hb
  have in_5 := in_4.below hb
  have full_5 := full_4.below hb
  have p_5 := p_4.below hb
  have hbw5 := hbw4.trans (hb.mono hbw4.size)
  clear hb r_4 g_4 in_4 full_4 p_4 hbw4
  go_wp2_with fail
  refine (HC.out (some ⟨g, 0, none⟩) c2 w5 in_5 g_5).mono ?_
  rintro e w6 ⟨X, cx, rfl, hown, hb⟩
  have r_6 := r_5.below hb
  have g_6 := g_5.beyond hb
  have in_6 := in_5.below hb
  have full_6 := full_5.below hb
  have p_6 := p_5.below hb
  have x_6 := own_row hown
  have hbw6 := hbw5.trans (hb.mono hbw5.size)
  clear hb r_5 g_5 in_5 full_5 p_5 hbw5 hown
  go_wp2_with fail
  refine (HRC.out P cp w6 p_6).mono ?_
  rintro e w7 ⟨Y, cy, rfl, hown, hb⟩
  have r_7 := r_6.below hb
  have g_7 := g_6.beyond hb
  have in_7 := in_6.below hb
  have full_7 := full_6.below hb
  have p_7 := p_6.below hb
  have x_7 := x_6.below hb
  have y_7 := own_row hown
  have hbw7 := hbw6.trans (hb.mono hbw6.size)
  clear hb r_6 g_6 in_6 full_6 p_6 x_6 hbw6 hown
  go_wp2_with fail
  refine (textss_any (A := X) (B := Y) cx cy cl w7 x_7 y_7 (by omega)).mono ?_
  rintro e w8 ⟨rfl, hb⟩
  have r_8 := r_7.below hb
  have g_8 := g_7.beyond hb
  have in_8 := in_7.below hb
  have full_8 := full_7.below hb
  have p_8 := p_7.below hb
  have hbw8 := hbw7.trans (hb.mono hbw7.size)
  clear hb x_7 y_7 r_7 g_7 in_7 full_7 p_7 hbw7
  go_wp2_with fail
  refine (HF.out (some ⟨g, 0, none⟩) c2 w8 in_8 g_8).mono ?_
  rintro e w9 ⟨rfl, hb⟩
  have r_9 := r_8.below hb
  have full_9 := full_8.below hb
  have p_9 := p_8.below hb
  have hbw9 := hbw8.trans (hb.mono hbw8.size)
  clear hb in_8 g_8 r_8 full_8 p_8 hbw8
  have r_10 := r_9.alloc (.cells #[.int .i64 fk, .int .i64 fn] 90)
  have full_10 := full_9.alloc (.cells #[.int .i64 fk, .int .i64 fn] 90)
  have p_10 := p_9.alloc (.cells #[.int .i64 fk, .int .i64 fn] 90)
  have hbw10 := hbw9.alloc hbw9.size (.cells #[.int .i64 fk, .int .i64 fn] 90)
  clear r_9 full_9 p_9 hbw9
  go_wp2_with fail
  refine (HRF.out P cp _ p_10).mono ?_
  rintro e w11 ⟨rfl, hb⟩
  obtain ⟨⟨hc0, hc1⟩, _, _⟩ := box2 (w := w9) (by simpa using hb)
  have r_11 := r_10.below hb
  have full_11 := full_10.below hb
  have hbw11 := hbw10.trans (hb.mono hbw10.size)
  clear hb p_10 r_10 full_10 hbw10
  go_wp2_with fail
  refine (wholes_any (c2 := c2) (c := c) l w11 full_11 r_11 hl).mono ?_
  rintro e w12 ⟨rfl, hb⟩
  have r_12 := r_11.below hb
  have full_12 := full_11.below hb
  have hbw12 := hbw11.trans (hb.mono hbw11.size)
  clear hb r_11 full_11 hbw11
  go_wp2
  go_ret
  exact ⟨rfl, hbw12⟩
end Go.Proofs.YtamagbdkcfmfmaaDoor
