/-
  The walk of FieldPrints.
-/
import Derived.Test.YtamagbdkcfmfmaaDoorPrint
import Derived.Test.YtamagbdkcfmfmaaDoorFl
namespace Go.Proofs.YtamagbdkcfmfmaaDoor
open Go.RowKit Go.Shelf Go.Lib

theorem Row.prefix_ {w : World} {A : Option Addr} {xs ys : List Value} (h : Row w A (xs ++ ys)) : Row w A xs := fun hn => by
  obtain ⟨b, off, e, hb, hc⟩ := h (by rw [List.length_append]; omega)
  exact ⟨b, off, e, hb, fun j v hv => hc j v (by rw [List.getElem?_append_left (List.getElem?_eq_some_iff.1 hv).1]; exact hv)⟩
theorem handed_rows {w : World} {base g c : Nat} {l : List Fl} (h : w.ownsRow base 24 2 (.slice (some ⟨g, 0, none⟩) (l.length + 2) c) (l.length + 2) (flat (l ++ spareRoom))) :
    Row w (some ⟨g, 0, none⟩) (flat l) ∧ Row w (some ⟨g, 0, none⟩) (flat (l ++ spareRoom)) :=
  ⟨Row.prefix_ (by rw [← flat_append]; exact own_row h), own_row h⟩

set_option maxRecDepth 20000 in
set_option maxHeartbeats 2000000 in
theorem FieldPrints_walk (A : Option Addr) (c : Nat) (l : List Fl) (w : World) (hr : Row w A (flat l)) (hl : l.length ≤ 4398046511102) (hw : Wide l) (hg : Glob w) :
    Calls Tryd.prog 5 #[.slice A l.length c] w fun e w' => e = .returned (.bool true) ∧ Below w.heap.size w w' := by
  have HP := Lib.hid (fun A c w hr hg => Print_any A c l w hr (by omega) hw hg)
  have HR := Lib.hid (fun A c w hr => rPrint_any A c l w hr (by omega) hw)
  generalize printAll l = r at HP HR
  obtain ⟨s, ec⟩ := r
  go_enter Tryd.func5, Tryd.ntmps5
  go_wp2_with fail
  refine (awake_any w hg).mono ?_
  rintro e w1 ⟨rfl, hb1⟩
  have hr1 := hr.below hb1
  have hg1 := hg.beyond hb1
  go_wp2_with fail
  refine (handed_any A c l w1 hr1 hl).mono ?_
  rintro e w2 ⟨g, c2, rfl, hown, hb2⟩
  obtain ⟨hin, hfull⟩ := handed_rows hown
  have hr2 := hr1.below hb2
  have hg2 := hg1.beyond hb2
  have hbw2 := hb1.trans (hb2.mono hb1.size)
  clear hown hb1 hb2 hr1 hg1
  go_wp2_with fail
  refine (HP.out (some ⟨g, 0, none⟩) c2 w2 hin hg2).mono ?_
  rintro e w3 ⟨rfl, hb3⟩
  have hr3 := hr2.below hb3
  have hg3 := hg2.beyond hb3
  have hfull3 := hfull.below hb3
  have hbw3 := hbw2.trans (hb3.mono hbw2.size)
  clear hr2 hg2 hfull hin hb3 hbw2
  go_wp2_with fail
  refine (plain_any A c l w3 hr3 (by omega)).mono ?_
  rintro e w4 ⟨A4, c4, rfl, hown4, hb4⟩
  have hp4 := own_row hown4
  have hr4 := hr3.below hb4
  have hg4 := hg3.beyond hb4
  have hfull4 := hfull3.below hb4
  have hbw4 := hbw3.trans (hb4.mono hbw3.size)
  clear hown4 hr3 hg3 hfull3 hb4 hbw3
  go_wp2_with fail
  refine (HR.out A4 c4 w4 hp4).mono ?_
  rintro e w5 ⟨rfl, hb5⟩
  have hr5 := hr4.below hb5
  have hg5 := hg4.beyond hb5
  have hfull5 := hfull4.below hb5
  have hbw5 := hbw4.trans (hb5.mono hbw4.size)
  clear hr4 hg4 hfull4 hb5 hbw4 hp4
  have hlen : (l ++ spareRoom).length = l.length + 2 := by rw [List.length_append]; rfl
  have hW := whole_any (some ⟨g, 0, none⟩) A c2 c (l ++ spareRoom) l w5 hfull5 hr5 (by omega) hl
  rw [hlen, decide_eq_true rfl] at hW
  have HW := Lib.hid hW
  clear hW hlen
  go_wp2_with fail
  refine HW.out.mono ?_
  rintro e w6 ⟨rfl, hb6⟩
  have hr6 := hr5.below hb6
  have hg6 := hg5.beyond hb6
  have hbw6 := hbw5.trans (hb6.mono hbw5.size)
  clear hr5 hg5 hfull5 hb6 hbw5 HW
  clear HP HR
  go_wp2
  go_loopw [49] (fun i wr => ∃ k : Nat, k ≤ l.length ∧ i = .int .i64 k ∧ Below w6.heap.size w6 wr) (fun i _ => l.length - (RowKit.intOf i).toNat)
  case atStart => exact ⟨0, by omega, rfl, Below.refl _ _⟩
  case round =>
    obtain ⟨k, hk, rfl, hbw⟩ := hrel
    by_cases hlt : k < l.length
    · obtain ⟨⟨x, y⟩, hxy⟩ := some_of_lt hlt
      obtain ⟨b, off, rfl, hb, h0, h1⟩ := (hr6.below hbw).pair hxy
      obtain ⟨hwx, hwy⟩ := hw.at_ hxy
      have HL := Lib.hid (fun w hg => PrintLine_any x y w hwx hwy hg)
      have HR := Lib.hid (fun w => rPrintLine_any x y w hwx hwy)
      have hgr := (hg6.beyond hbw).alloc (.cells #[.string x, .string y] 24)
      generalize printLine (x, y) = r at HL HR
      obtain ⟨u, eu⟩ := r
      clear hxy
      go_wp2_with fail
      refine (HL.out _ hgr).mono ?_
      rintro e w7 ⟨rfl, hb7⟩
      have hb7' : Below (wr.heap.size + 1) (wr.alloc (.cells #[.string x, .string y] 24)) w7 := by simpa using hb7
      obtain ⟨⟨hc0, hc1⟩, _, _⟩ := box2 hb7'
      have hbw7 := hbw.trans ((below_box hb7').mono hbw.size)
      clear hb7 hb7' hgr h0 h1
      go_wp2_with fail
      refine (HR.out _).mono ?_
      rintro e w8 ⟨rfl, hb8⟩
      have hbw8 := hbw7.trans (hb8.mono hbw7.size)
      clear hb8 hbw7
      go_wp2
      go_roundw
      case rel => exact ⟨k + 1, by omega, by go_num, hbw8⟩
      case measure => simp [RowKit.intOf]; omega
    · obtain rfl : k = l.length := by omega
      go_wp2
      go_ret
      exact ⟨rfl, hbw6.trans (hbw.mono hbw6.size)⟩
end Go.Proofs.YtamagbdkcfmfmaaDoor
