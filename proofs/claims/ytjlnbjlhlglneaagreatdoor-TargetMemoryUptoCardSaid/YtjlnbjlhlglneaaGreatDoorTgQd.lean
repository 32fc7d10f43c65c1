/-
  Four numbers with points between: the walks of the reference and of the program.
-/
import Derived.Test.YtjlnbjlhlglneaaGreatDoorTgSp
namespace Go.Proofs.YtjlnbjlhlglneaaGreatDoor
open Go.RowKit Go.Shelf Go.Lib

theorem byteNum_bad {d : ByteArray} (h : ¬ (numR d 255 10).2 = 0) : byteNum d = false := by unfold byteNum; rw [decide_eq_false h]; rfl
theorem byteNum_ok {d : ByteArray} (h : (numR d 255 10).2 = 0) : byteNum d = ((itoaT (numR d 255 10).1).toList == d.toList) := by unfold byteNum; rw [decide_eq_true h, Bool.true_and, eq_str]
set_option maxRecDepth 20000 in
theorem rdec_any (d : ByteArray) (w : World) (hd : d.size ≤ 4194304) :
    Calls Tryz.prog 141 #[.string d] w fun e w' => e = .returned (.bool (byteNum d)) ∧ Below w.heap.size w w' := by
  have HN := Lib.hid (fun w => rDecimal_any d 255 w (by omega) (by omega) (by omega))
  have hr := numR_range d 255 (by omega)
  have hbad := @byteNum_bad d
  have hok := @byteNum_ok d
  generalize numR d 255 10 = r at *
  obtain ⟨n, er⟩ := r
  dsimp only at HN hr hbad hok
  by_cases he : er = 0
  · have HB := Lib.hid (hok he)
    obtain ⟨k, rfl⟩ := Int.eq_ofNat_of_zero_le hr.1
    have HD := Lib.hid (fun w => rDigits_pos k w (by omega))
    have hee : (er == 0) = true := by simpa using he
    clear hok hbad he hr
    go_enter Tryz.func141, Tryz.ntmps141
    go_wp2_with fail
    refine (HN.out _).mono ?_
    rintro e w1 ⟨rfl, rfl⟩
    go_wp2_with fail
    refine (HD.out _).mono ?_
    rintro e w2 ⟨rfl, b2⟩
    go_wp2
    go_ret
    exact ⟨ret_bool HB.out.symm, b2⟩
  · have HB := Lib.hid (hbad he)
    have hee : (er == 0) = false := by simpa using he
    clear hok hbad he hr
    go_enter Tryz.func141, Tryz.ntmps141
    go_wp2_with fail
    refine (HN.out _).mono ?_
    rintro e w1 ⟨rfl, rfl⟩
    go_wp2
    go_ret
    exact ⟨ret_bool HB.out.symm, Below.refl _ _⟩
/-- The first k of a list are numbers. -/
def NumsTo (l : List ByteArray) (k : Nat) : Prop := ∀ (j : Nat) x, j < k → l[j]? = some x → byteNum x = true
theorem NumsTo.succ {l : List ByteArray} {k : Nat} {x : ByteArray} (h : NumsTo l k) (hk : l[k]? = some x) (hx : byteNum x = true) : NumsTo l (k + 1) := fun j y hj hy => by
  by_cases e : j = k
  · subst e
    rw [hk] at hy
    injection hy with hy
    rw [← hy]; exact hx
  · exact h j y (by omega) hy
theorem quad_bad {s : ByteArray} {k : Nat} {x : ByteArray} (hk : (splitC s 46)[k]? = some x) (hx : byteNum x = false) : quad s = false := by
  unfold quad
  have : (splitC s 46).all byteNum = false := by
    rw [List.all_eq_false]
    exact ⟨x, List.mem_of_getElem? hk, by rw [hx]; simp⟩
  rw [this]
  rfl
theorem quad_end {s : ByteArray} (h : NumsTo (splitC s 46) (splitC s 46).length) : quad s = (((splitC s 46).length : Int) == 4) := by
  unfold quad
  have : (splitC s 46).all byteNum = true := List.all_eq_true.2 fun x hx => by
    obtain ⟨j, hj, rfl⟩ := List.getElem_of_mem hx
    exact h j _ hj (List.getElem?_eq_getElem hj)
  rw [this, Bool.true_and, Bool.eq_iff_iff, decide_eq_true_eq, beq_iff_eq]
  omega
set_option maxRecDepth 20000 in
set_option maxHeartbeats 2000000 in
theorem rquad_any (s : ByteArray) (w : World) (hs : s.size ≤ 4194304) :
    Calls Tryz.prog 131 #[.string s] w fun e w' => e = .returned (.bool (quad s)) ∧ Below w.heap.size w w' := by
  have HS := Lib.hid (fun w => rsplit_any s 46 w hs)
  have hbad := Lib.hid (fun (k : Nat) (x : ByteArray) (h1 : (splitC s 46)[k]? = some x) (h2 : byteNum x = false) => quad_bad h1 h2)
  have hend := Lib.hid (fun (h : NumsTo (splitC s 46) (splitC s 46).length) => quad_end h)
  have hsz := Lib.hid (fun x (hx : x ∈ splitC s 46) => splitC_size hx)
  have hln := splitC_len s 46
  generalize splitC s 46 = l at *
  go_enter Tryz.func131, Tryz.ntmps131
  go_wp2_with fail
  refine (HS.out _).mono ?_
  rintro e w1 ⟨A, c, rfl, hown, hb1⟩
  have hrow := own_row hown
  clear hown
  go_wp2
  go_loopw [4] (fun v wr => ∃ k : Nat, k ≤ l.length ∧ v = .int .i64 k ∧ NumsTo l k ∧ Below w1.heap.size w1 wr) (fun v _ => l.length - (RowKit.intOf v).toNat)
  case atStart => exact ⟨0, by omega, rfl, fun j x hj => by omega, Below.refl _ _⟩
  case round =>
    obtain ⟨k, hk, rfl, hN, hbr⟩ := hrel
    by_cases hlt : k < l.length
    · obtain ⟨x, hx⟩ := some_of_lt hlt
      obtain ⟨b, off, rfl, hb, h0⟩ := (hrow.below hbr).str hx
      have HX := Lib.hid (fun w => rdec_any x w (Nat.le_trans (hsz.out x (List.mem_of_getElem? hx)) hs))
      cases hbn : byteNum x
      · have HB := Lib.hid (hbad.out _ _ hx hbn)
        rw [hbn] at HX
        clear hx hbn hN
        go_wp2_with fail
        refine (HX.out _).mono ?_
        rintro e w2 ⟨rfl, b2⟩
        go_wp2
        go_ret
        exact ⟨ret_bool HB.out.symm, hb1.trans ((hbr.trans (b2.mono hbr.size)).mono hb1.size)⟩
      · have HN := Lib.hid (hN.succ hx hbn)
        rw [hbn] at HX
        clear hx hbn hN
        go_wp2_with fail
        refine (HX.out _).mono ?_
        rintro e w2 ⟨rfl, b2⟩
        go_wp2
        go_roundw
        case rel => exact ⟨k + 1, by omega, by go_num, HN.out, hbr.trans (b2.mono hbr.size)⟩
        case measure => simp [RowKit.intOf]; omega
    · obtain rfl : k = l.length := by omega
      have HB := Lib.hid (hend.out hN)
      clear hN
      go_wp2
      go_ret
      exact ⟨ret_bool HB.out.symm, hb1.trans (hbr.mono hb1.size)⟩
theorem row_new (w : World) (l : List ByteArray) (t : TypeId) : Row (w.alloc (.cells (l.map Value.string).toArray t)) (some ⟨w.heap.size, 0, none⟩) (l.map .string) := row_newc w _ t rfl
set_option maxRecDepth 20000 in
set_option maxHeartbeats 2000000 in
theorem isDotted_any (s : ByteArray) (w : World) (hs : s.size ≤ 4194304) (hg : Glob w) :
    Calls Tryz.prog 140 #[.string s] w fun e w' => e = .returned (.bool (quad s)) ∧ Below w.heap.size w w' := by
  have HS := Lib.hid (Split_any s 46 w hs hg)
  have hbad := Lib.hid (fun (k : Nat) (x : ByteArray) (h1 : (splitC s 46)[k]? = some x) (h2 : byteNum x = false) => quad_bad h1 h2)
  have hend := Lib.hid (fun (h : NumsTo (splitC s 46) (splitC s 46).length) => quad_end h)
  have hsz := Lib.hid (fun x (hx : x ∈ splitC s 46) => splitC_size hx)
  have hln := splitC_len s 46
  rw [show ((46 : UInt8).toNat : Int) = 46 from rfl] at HS
  generalize splitC s 46 = l at *
  go_enter Tryz.func140, Tryz.ntmps140
  go_wp2_with fail
  refine HS.out.mono ?_
  rintro e w1 ⟨rfl, rfl⟩
  have hrow := row_new w l 9
  have hb1 : Below w.heap.size w (w.alloc (.cells (l.map Value.string).toArray 9)) := (Below.refl _ w).alloc (Nat.le_refl _) _
  have hg1 := hg.beyond hb1
  generalize w.alloc (.cells (l.map Value.string).toArray 9) = w1 at *
  go_wp2
  go_loopw [12] (fun v wr => ∃ k : Nat, k ≤ l.length ∧ v = .int .i64 k ∧ NumsTo l k ∧ Below w1.heap.size w1 wr) (fun v _ => l.length - (RowKit.intOf v).toNat)
  case atStart => exact ⟨0, by omega, rfl, fun j x hj => by omega, Below.refl _ _⟩
  case round =>
    obtain ⟨k, hk, rfl, hN, hbr⟩ := hrel
    by_cases hlt : k < l.length
    · obtain ⟨x, hx⟩ := some_of_lt hlt
      obtain ⟨b, off, hbe, hb, h0⟩ := (hrow.below hbr).str hx
      injection hbe with hbe
      injection hbe with hbe1 hbe2
      subst hbe1 hbe2
      rw [Nat.zero_add] at h0
      have hxs := Nat.le_trans (hsz.out x (List.mem_of_getElem? hx)) hs
      have HD := Lib.hid (fun w => Decimal_any x 255 w (by omega) (by omega) (by omega))
      have hr := numR_range x 255 (by omega)
      have hbad' := @byteNum_bad x
      have hok := @byteNum_ok x
      generalize numR x 255 10 = r at *
      obtain ⟨n, er⟩ := r
      dsimp only at HD hr hbad' hok
      by_cases he : er = 0
      · have hee : (er != 0) = false := by simp [he]
        have HI := Lib.hid (fun w hg => Digits_any n w (by omega) (by omega) hg)
        have hok := hok he
        have hgr := hg1.beyond hbr
        cases hq : ((itoaT n).toList == x.toList)
        · have hq' : ((itoaT n).toList != x.toList) = true := by rw [bne, hq]; rfl
          rw [hq] at hok
          have HB := Lib.hid (hbad.out _ _ hx hok)
          clear hok hbad' he hx hN hr
          go_wp2_with fail
          refine (HD.out _).mono ?_
          rintro e w2 ⟨rfl, b2⟩
          have hg2 := hgr.beyond b2
          go_wp2_with fail
          refine (HI.out _ hg2).mono ?_
          rintro e w3 ⟨rfl, b3⟩
          go_wp2
          go_ret
          exact ⟨ret_bool HB.out.symm, hb1.trans ((hbr.trans ((b2.trans (b3.mono b2.size)).mono hbr.size)).mono hb1.size)⟩
        · have hq' : ((itoaT n).toList != x.toList) = false := by rw [bne, hq]; rfl
          rw [hq] at hok
          have HN := Lib.hid (hN.succ hx hok)
          clear hok hbad' he hx hN hr
          go_wp2_with fail
          refine (HD.out _).mono ?_
          rintro e w2 ⟨rfl, b2⟩
          have hg2 := hgr.beyond b2
          go_wp2_with fail
          refine (HI.out _ hg2).mono ?_
          rintro e w3 ⟨rfl, b3⟩
          go_wp2
          go_roundw
          case rel => exact ⟨k + 1, by omega, by go_num, HN.out, hbr.trans ((b2.trans (b3.mono b2.size)).mono hbr.size)⟩
          case measure => simp [RowKit.intOf]; omega
      · have hee : (er != 0) = true := by simpa using he
        have HB := Lib.hid (hbad.out _ _ hx (hbad' he))
        clear hok hbad' he hx hN hr
        go_wp2_with fail
        refine (HD.out _).mono ?_
        rintro e w2 ⟨rfl, b2⟩
        go_wp2
        go_ret
        exact ⟨ret_bool HB.out.symm, hb1.trans ((hbr.trans (b2.mono hbr.size)).mono hb1.size)⟩
    · obtain rfl : k = l.length := by omega
      have HB := Lib.hid (hend.out hN)
      clear hN
      go_wp2
      go_ret
      exact ⟨ret_bool HB.out.symm, hb1.trans (hbr.mono hb1.size)⟩
end Go.Proofs.YtjlnbjlhlglneaaGreatDoor
