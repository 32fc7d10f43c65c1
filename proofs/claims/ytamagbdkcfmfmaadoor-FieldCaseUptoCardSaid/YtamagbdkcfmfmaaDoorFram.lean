/-
  Framing: the walks, of the program and of the reference.
-/
import Derived.Test.YtamagbdkcfmfmaaDoorLens
namespace Go.Proofs.YtamagbdkcfmfmaaDoor
open Go.RowKit Go.Shelf Go.Lib

def framVal (r : Int × Int × Int) : Value := .tuple #[.agg #[.int .i64 r.1, .int .i64 r.2.1], .int .i64 r.2.2]
def framVal3 (r : Int × Int × Int) : Value := .tuple #[.int .i64 r.1, .int .i64 r.2.1, .int .i64 r.2.2]
theorem chu_list : ([99, 104, 117, 110, 107, 101, 100] : List UInt8) = chunked.toList := by decide +kernel
theorem box2_trans {w w1 w2 : World} {B : Nat} (h : Below B w w1) (h2 : Below w1.heap.size w1 w2) (hB : B ≤ w.heap.size) : Below B w w2 := h.trans (h2.mono (Nat.le_trans hB h.size))
section
variable {cl : List ByteArray} {cb : Bool} {ce m me : Int} {mb old : Bool} {t : ByteArray}
theorem framR_err (h : ¬ ce = 0) : framR (cl, cb, ce) (m, mb, me) old = (0, 0, 67) := by unfold framR; rw [if_pos (.inl h)]
theorem framR_old : framR (cl, true, 0) (m, mb, me) true = (0, 0, 67) := by unfold framR; rw [if_pos (.inr ⟨rfl, .inl rfl⟩)]
theorem framR_many (h : cl.length ≠ 1) : framR (cl, true, 0) (m, mb, me) old = (0, 0, 67) := by
  unfold framR; rw [if_pos (.inr ⟨rfl, .inr (fun e => h (by simp only at e; rw [e]; rfl))⟩)]
theorem framR_other (h : t ≠ chunked) : framR ([t], true, 0) (m, mb, me) old = (0, 0, 67) := by
  unfold framR; rw [if_pos (.inr ⟨rfl, .inr (fun e => h (by simp only at e; injection e))⟩)]
theorem framR_chu (hm : ¬ me = 0) : framR ([chunked], true, 0) (m, mb, me) false = (0, 0, me) := by
  unfold framR; rw [if_neg (by simp), if_pos hm]
theorem framR_both : framR ([chunked], true, 0) (m, true, 0) false = (0, 0, 68) := by
  unfold framR; rw [if_neg (by simp), if_neg (by simp), if_pos ⟨rfl, rfl⟩]
theorem framR_chunked : framR ([chunked], true, 0) (m, false, 0) false = (2, 0, 0) := by
  unfold framR; rw [if_neg (by simp), if_neg (by simp), if_neg (by simp), if_pos rfl]
theorem framR_len (hm : ¬ me = 0) : framR (cl, false, 0) (m, mb, me) old = (0, 0, me) := by
  unfold framR; rw [if_neg (by simp), if_pos hm]
theorem framR_long : framR (cl, false, 0) (m, true, 0) old = (1, m, 0) := by
  unfold framR; rw [if_neg (by simp), if_neg (by simp), if_neg (by simp), if_neg (by simp), if_pos rfl]
theorem framR_none : framR (cl, false, 0) (m, false, 0) old = (0, 0, 0) := by
  unfold framR; rw [if_neg (by simp), if_neg (by simp), if_neg (by simp), if_neg (by simp), if_neg (by simp)]
end

set_option maxRecDepth 20000 in
set_option maxHeartbeats 8000000 in
theorem Framing_any (A : Option Addr) (c : Nat) (l : List Fl) (old : Bool) (w : World) (hr : Row w A (flat l)) (hk : bulkF l ≤ 1048576) (hg : Glob w) :
    Calls Tryd.prog 66 #[.slice A l.length c, .bool old] w fun e w' => e = .returned (framVal (framR (codR (allV l teName)) (lengthR (allV l clName)) old)) ∧ Below w.heap.size w w' := by
  have HC := Lib.hid (fun A c w hr hg => Codings_any A c l w hr hk hg)
  have HL := Lib.hid (fun A c w hr => Length_any A c l w hr hk)
  generalize codR (allV l teName) = cr at *
  generalize lengthR (allV l clName) = lr at *
  obtain ⟨cl, cb, ce⟩ := cr
  obtain ⟨m, mb, me⟩ := lr
  unfold GivesCod at HC
  simp only at HC HL
  by_cases hce : ce = 0
  · subst hce
    cases cb
    · by_cases hme : me = 0
      · subst hme
        cases mb
        · skip
          have HF := Lib.hid (framR_none (cl := cl) (m := m) (old := old))
          go_enter Tryd.func66, Tryd.ntmps66
          go_wp2_with fail
          refine (HC.out A c _ (hr.alloc _) (hg.alloc _)).mono ?_
          rintro e w1 ⟨A1, c1, rfl, hown1, hb1⟩
          have hb1a : Below (w.heap.size + 1) (w.alloc (.cells #[.int .i64 0, .int .i64 0] 90)) w1 := by simpa using hb1
          have hr1 := (hr.alloc (.cells #[.int .i64 0, .int .i64 0] 90)).below hb1
          clear hb1
          clear hown1
          go_wp2_with fail
          refine (HL.out A c w1 hr1).mono ?_
          rintro e w2 ⟨rfl, hb2⟩
          have hb3 := box2_trans hb1a hb2 (by simp)
          obtain ⟨⟨hc0, hc1⟩, ⟨hf0, hf1⟩, hsz⟩ := box2 hb3
          have hbw := below_box hb3
          clear hb2 hb1a hr1 hb3
          go_wp2
          exact bodyPost_ret (v := framVal (0, 0, 0)) (by simp [results, Tryd.results66, go_sem, framVal, hc0, hc1, World.cell?_alloc_lt, hsz]) rfl ⟨by rw [HF.out], by repeat (first | exact hbw | (refine Below.setCell ?_ (by simp) _) | (refine Below.alloc ?_ (by first | omega | (simp; omega)) _))⟩
        · skip
          have HF := Lib.hid (framR_long (cl := cl) (m := m) (old := old))
          go_enter Tryd.func66, Tryd.ntmps66
          go_wp2_with fail
          refine (HC.out A c _ (hr.alloc _) (hg.alloc _)).mono ?_
          rintro e w1 ⟨A1, c1, rfl, hown1, hb1⟩
          have hb1a : Below (w.heap.size + 1) (w.alloc (.cells #[.int .i64 0, .int .i64 0] 90)) w1 := by simpa using hb1
          have hr1 := (hr.alloc (.cells #[.int .i64 0, .int .i64 0] 90)).below hb1
          clear hb1
          clear hown1
          go_wp2_with fail
          refine (HL.out A c w1 hr1).mono ?_
          rintro e w2 ⟨rfl, hb2⟩
          have hb3 := box2_trans hb1a hb2 (by simp)
          obtain ⟨⟨hc0, hc1⟩, ⟨hf0, hf1⟩, hsz⟩ := box2 hb3
          have hbw := below_box hb3
          clear hb2 hb1a hr1 hb3
          go_wp2
          exact bodyPost_ret (v := framVal (1, m, 0)) (by simp [results, Tryd.results66, go_sem, framVal, hc0, hc1, World.cell?_alloc_lt, hsz]) rfl ⟨by rw [HF.out], by repeat (first | exact hbw | (refine Below.setCell ?_ (by simp) _) | (refine Below.alloc ?_ (by first | omega | (simp; omega)) _))⟩
      · have hmn : (me != 0) = true := by simpa using hme
        have HF := Lib.hid (framR_len (cl := cl) (m := m) (mb := mb) (old := old) hme)
        clear hme
        go_enter Tryd.func66, Tryd.ntmps66
        go_wp2_with fail
        refine (HC.out A c _ (hr.alloc _) (hg.alloc _)).mono ?_
        rintro e w1 ⟨A1, c1, rfl, hown1, hb1⟩
        have hb1a : Below (w.heap.size + 1) (w.alloc (.cells #[.int .i64 0, .int .i64 0] 90)) w1 := by simpa using hb1
        have hr1 := (hr.alloc (.cells #[.int .i64 0, .int .i64 0] 90)).below hb1
        clear hb1
        clear hown1
        go_wp2_with fail
        refine (HL.out A c w1 hr1).mono ?_
        rintro e w2 ⟨rfl, hb2⟩
        have hb3 := box2_trans hb1a hb2 (by simp)
        obtain ⟨⟨hc0, hc1⟩, ⟨hf0, hf1⟩, hsz⟩ := box2 hb3
        have hbw := below_box hb3
        clear hb2 hb1a hr1 hb3
        go_wp2
        exact bodyPost_ret (v := framVal (0, 0, me)) (by simp [results, Tryd.results66, go_sem, framVal, hc0, hc1, World.cell?_alloc_lt, hsz]) rfl ⟨by rw [HF.out], by repeat (first | exact hbw | (refine Below.setCell ?_ (by simp) _) | (refine Below.alloc ?_ (by first | omega | (simp; omega)) _))⟩
    · cases old
      · rcases cl with _ | ⟨t, ts⟩
        · skip
          have HF := Lib.hid (framR_many (m := m) (mb := mb) (me := me) (cl := []) (old := false) (by simp))
          go_enter Tryd.func66, Tryd.ntmps66
          go_wp2_with fail
          refine (HC.out A c _ (hr.alloc _) (hg.alloc _)).mono ?_
          rintro e w1 ⟨A1, c1, rfl, hown1, hb1⟩
          have hb1a : Below (w.heap.size + 1) (w.alloc (.cells #[.int .i64 0, .int .i64 0] 90)) w1 := by simpa using hb1
          have hr1 := (hr.alloc (.cells #[.int .i64 0, .int .i64 0] 90)).below hb1
          clear hb1
          clear hown1
          go_wp2_with fail
          refine (HL.out A c w1 hr1).mono ?_
          rintro e w2 ⟨rfl, hb2⟩
          have hb3 := box2_trans hb1a hb2 (by simp)
          obtain ⟨⟨hc0, hc1⟩, ⟨hf0, hf1⟩, hsz⟩ := box2 hb3
          have hbw := below_box hb3
          clear hb2 hb1a hr1 hb3
          go_wp2
          exact bodyPost_ret (v := framVal (0, 0, 67)) (by simp [results, Tryd.results66, go_sem, framVal, hc0, hc1, World.cell?_alloc_lt, hsz]) rfl ⟨by rw [HF.out], by repeat (first | exact hbw | (refine Below.setCell ?_ (by simp) _) | (refine Below.alloc ?_ (by first | omega | (simp; omega)) _))⟩
        · rcases ts with _ | ⟨t2, ts⟩
          · by_cases ht : t = chunked
            · subst ht
              have hch : (chunked.toList == [99, 104, 117, 110, 107, 101, 100]) = true := by rw [chu_list, eq_str]; exact decide_eq_true rfl
              by_cases hme : me = 0
              · subst hme
                cases mb
                · skip
                  have HF := Lib.hid (framR_chunked (m := m))
                  generalize chunked = t at *
                  go_enter Tryd.func66, Tryd.ntmps66
                  go_wp2_with fail
                  refine (HC.out A c _ (hr.alloc _) (hg.alloc _)).mono ?_
                  rintro e w1 ⟨A1, c1, rfl, hown1, hb1⟩
                  have hb1a : Below (w.heap.size + 1) (w.alloc (.cells #[.int .i64 0, .int .i64 0] 90)) w1 := by simpa using hb1
                  have hr1 := (hr.alloc (.cells #[.int .i64 0, .int .i64 0] 90)).below hb1
                  clear hb1
                  obtain ⟨b, off, rfl, hb, hcell⟩ := (own_row hown1).str (k := 0) (x := t) rfl
                  rw [Nat.add_zero] at hcell
                  clear hown1
                  go_wp2_with fail
                  refine (HL.out A c w1 hr1).mono ?_
                  rintro e w2 ⟨rfl, hb2⟩
                  have hcell2 := (hb2.cell (p := ⟨b, off, none⟩) hb).trans hcell
                  have hbz : b < w2.heap.size := Nat.lt_of_lt_of_le hb hb2.size
                  have hb3 := box2_trans hb1a hb2 (by simp)
                  obtain ⟨⟨hc0, hc1⟩, ⟨hf0, hf1⟩, hsz⟩ := box2 hb3
                  have hbw := below_box hb3
                  clear hb2 hb1a hr1 hb3
                  clear hcell
                  go_wp2
                  exact bodyPost_ret (v := framVal (2, 0, 0)) (by simp [results, Tryd.results66, go_sem, framVal, hc0, hc1, World.cell?_alloc_lt, hsz]) rfl ⟨by rw [HF.out], by repeat (first | exact hbw | (refine Below.setCell ?_ (by simp) _) | (refine Below.alloc ?_ (by first | omega | (simp; omega)) _))⟩
                · skip
                  have HF := Lib.hid (framR_both (m := m))
                  generalize chunked = t at *
                  go_enter Tryd.func66, Tryd.ntmps66
                  go_wp2_with fail
                  refine (HC.out A c _ (hr.alloc _) (hg.alloc _)).mono ?_
                  rintro e w1 ⟨A1, c1, rfl, hown1, hb1⟩
                  have hb1a : Below (w.heap.size + 1) (w.alloc (.cells #[.int .i64 0, .int .i64 0] 90)) w1 := by simpa using hb1
                  have hr1 := (hr.alloc (.cells #[.int .i64 0, .int .i64 0] 90)).below hb1
                  clear hb1
                  obtain ⟨b, off, rfl, hb, hcell⟩ := (own_row hown1).str (k := 0) (x := t) rfl
                  rw [Nat.add_zero] at hcell
                  clear hown1
                  go_wp2_with fail
                  refine (HL.out A c w1 hr1).mono ?_
                  rintro e w2 ⟨rfl, hb2⟩
                  have hcell2 := (hb2.cell (p := ⟨b, off, none⟩) hb).trans hcell
                  have hbz : b < w2.heap.size := Nat.lt_of_lt_of_le hb hb2.size
                  have hb3 := box2_trans hb1a hb2 (by simp)
                  obtain ⟨⟨hc0, hc1⟩, ⟨hf0, hf1⟩, hsz⟩ := box2 hb3
                  have hbw := below_box hb3
                  clear hb2 hb1a hr1 hb3
                  clear hcell
                  go_wp2
                  exact bodyPost_ret (v := framVal (0, 0, 68)) (by simp [results, Tryd.results66, go_sem, framVal, hc0, hc1, World.cell?_alloc_lt, hsz]) rfl ⟨by rw [HF.out], by repeat (first | exact hbw | (refine Below.setCell ?_ (by simp) _) | (refine Below.alloc ?_ (by first | omega | (simp; omega)) _))⟩
              · have hmn : (me != 0) = true := by simpa using hme
                have HF := Lib.hid (framR_chu (m := m) (mb := mb) hme)
                clear hme
                generalize chunked = t at *
                go_enter Tryd.func66, Tryd.ntmps66
                go_wp2_with fail
                refine (HC.out A c _ (hr.alloc _) (hg.alloc _)).mono ?_
                rintro e w1 ⟨A1, c1, rfl, hown1, hb1⟩
                have hb1a : Below (w.heap.size + 1) (w.alloc (.cells #[.int .i64 0, .int .i64 0] 90)) w1 := by simpa using hb1
                have hr1 := (hr.alloc (.cells #[.int .i64 0, .int .i64 0] 90)).below hb1
                clear hb1
                obtain ⟨b, off, rfl, hb, hcell⟩ := (own_row hown1).str (k := 0) (x := t) rfl
                rw [Nat.add_zero] at hcell
                clear hown1
                go_wp2_with fail
                refine (HL.out A c w1 hr1).mono ?_
                rintro e w2 ⟨rfl, hb2⟩
                have hcell2 := (hb2.cell (p := ⟨b, off, none⟩) hb).trans hcell
                have hbz : b < w2.heap.size := Nat.lt_of_lt_of_le hb hb2.size
                have hb3 := box2_trans hb1a hb2 (by simp)
                obtain ⟨⟨hc0, hc1⟩, ⟨hf0, hf1⟩, hsz⟩ := box2 hb3
                have hbw := below_box hb3
                clear hb2 hb1a hr1 hb3
                clear hcell
                go_wp2
                exact bodyPost_ret (v := framVal (0, 0, me)) (by simp [results, Tryd.results66, go_sem, framVal, hc0, hc1, World.cell?_alloc_lt, hsz]) rfl ⟨by rw [HF.out], by repeat (first | exact hbw | (refine Below.setCell ?_ (by simp) _) | (refine Below.alloc ?_ (by first | omega | (simp; omega)) _))⟩
            · have hch : (t.toList == [99, 104, 117, 110, 107, 101, 100]) = false := by rw [chu_list, eq_str]; exact decide_eq_false ht
              have HF := Lib.hid (framR_other (m := m) (mb := mb) (me := me) (old := false) ht)
              clear ht
              go_enter Tryd.func66, Tryd.ntmps66
              go_wp2_with fail
              refine (HC.out A c _ (hr.alloc _) (hg.alloc _)).mono ?_
              rintro e w1 ⟨A1, c1, rfl, hown1, hb1⟩
              have hb1a : Below (w.heap.size + 1) (w.alloc (.cells #[.int .i64 0, .int .i64 0] 90)) w1 := by simpa using hb1
              have hr1 := (hr.alloc (.cells #[.int .i64 0, .int .i64 0] 90)).below hb1
              clear hb1
              obtain ⟨b, off, rfl, hb, hcell⟩ := (own_row hown1).str (k := 0) (x := t) rfl
              rw [Nat.add_zero] at hcell
              clear hown1
              go_wp2_with fail
              refine (HL.out A c w1 hr1).mono ?_
              rintro e w2 ⟨rfl, hb2⟩
              have hcell2 := (hb2.cell (p := ⟨b, off, none⟩) hb).trans hcell
              have hbz : b < w2.heap.size := Nat.lt_of_lt_of_le hb hb2.size
              have hb3 := box2_trans hb1a hb2 (by simp)
              obtain ⟨⟨hc0, hc1⟩, ⟨hf0, hf1⟩, hsz⟩ := box2 hb3
              have hbw := below_box hb3
              clear hb2 hb1a hr1 hb3
              clear hcell
              go_wp2
              exact bodyPost_ret (v := framVal (0, 0, 67)) (by simp [results, Tryd.results66, go_sem, framVal, hc0, hc1, World.cell?_alloc_lt, hsz]) rfl ⟨by rw [HF.out], by repeat (first | exact hbw | (refine Below.setCell ?_ (by simp) _) | (refine Below.alloc ?_ (by first | omega | (simp; omega)) _))⟩
          · have hl1 : (((t :: t2 :: ts).length : Int) != 1) = true := by rw [bne_iff_ne]; simp only [List.length_cons]; omega
            have HF := Lib.hid (framR_many (m := m) (mb := mb) (me := me) (cl := t :: t2 :: ts) (old := false) (by simp))
            generalize t :: t2 :: ts = X at *
            go_enter Tryd.func66, Tryd.ntmps66
            go_wp2_with fail
            refine (HC.out A c _ (hr.alloc _) (hg.alloc _)).mono ?_
            rintro e w1 ⟨A1, c1, rfl, hown1, hb1⟩
            have hb1a : Below (w.heap.size + 1) (w.alloc (.cells #[.int .i64 0, .int .i64 0] 90)) w1 := by simpa using hb1
            have hr1 := (hr.alloc (.cells #[.int .i64 0, .int .i64 0] 90)).below hb1
            clear hb1
            clear hown1
            go_wp2_with fail
            refine (HL.out A c w1 hr1).mono ?_
            rintro e w2 ⟨rfl, hb2⟩
            have hb3 := box2_trans hb1a hb2 (by simp)
            obtain ⟨⟨hc0, hc1⟩, ⟨hf0, hf1⟩, hsz⟩ := box2 hb3
            have hbw := below_box hb3
            clear hb2 hb1a hr1 hb3
            go_wp2
            exact bodyPost_ret (v := framVal (0, 0, 67)) (by simp [results, Tryd.results66, go_sem, framVal, hc0, hc1, World.cell?_alloc_lt, hsz]) rfl ⟨by rw [HF.out], by repeat (first | exact hbw | (refine Below.setCell ?_ (by simp) _) | (refine Below.alloc ?_ (by first | omega | (simp; omega)) _))⟩
      · skip
        have HF := Lib.hid (framR_old (cl := cl) (m := m) (mb := mb) (me := me))
        go_enter Tryd.func66, Tryd.ntmps66
        go_wp2_with fail
        refine (HC.out A c _ (hr.alloc _) (hg.alloc _)).mono ?_
        rintro e w1 ⟨A1, c1, rfl, hown1, hb1⟩
        have hb1a : Below (w.heap.size + 1) (w.alloc (.cells #[.int .i64 0, .int .i64 0] 90)) w1 := by simpa using hb1
        have hr1 := (hr.alloc (.cells #[.int .i64 0, .int .i64 0] 90)).below hb1
        clear hb1
        clear hown1
        go_wp2_with fail
        refine (HL.out A c w1 hr1).mono ?_
        rintro e w2 ⟨rfl, hb2⟩
        have hb3 := box2_trans hb1a hb2 (by simp)
        obtain ⟨⟨hc0, hc1⟩, ⟨hf0, hf1⟩, hsz⟩ := box2 hb3
        have hbw := below_box hb3
        clear hb2 hb1a hr1 hb3
        go_wp2
        exact bodyPost_ret (v := framVal (0, 0, 67)) (by simp [results, Tryd.results66, go_sem, framVal, hc0, hc1, World.cell?_alloc_lt, hsz]) rfl ⟨by rw [HF.out], by repeat (first | exact hbw | (refine Below.setCell ?_ (by simp) _) | (refine Below.alloc ?_ (by first | omega | (simp; omega)) _))⟩
  · have hcn : (ce != 0) = true := by simpa using hce
    have HF := Lib.hid (framR_err (cl := cl) (cb := cb) (m := m) (mb := mb) (me := me) (old := old) hce)
    clear hce
    go_enter Tryd.func66, Tryd.ntmps66
    go_wp2_with fail
    refine (HC.out A c _ (hr.alloc _) (hg.alloc _)).mono ?_
    rintro e w1 ⟨A1, c1, rfl, hown1, hb1⟩
    have hb1a : Below (w.heap.size + 1) (w.alloc (.cells #[.int .i64 0, .int .i64 0] 90)) w1 := by simpa using hb1
    have hr1 := (hr.alloc (.cells #[.int .i64 0, .int .i64 0] 90)).below hb1
    clear hb1
    clear hown1
    go_wp2_with fail
    refine (HL.out A c w1 hr1).mono ?_
    rintro e w2 ⟨rfl, hb2⟩
    have hb3 := box2_trans hb1a hb2 (by simp)
    obtain ⟨⟨hc0, hc1⟩, ⟨hf0, hf1⟩, hsz⟩ := box2 hb3
    have hbw := below_box hb3
    clear hb2 hb1a hr1 hb3
    go_wp2
    exact bodyPost_ret (v := framVal (0, 0, 67)) (by simp [results, Tryd.results66, go_sem, framVal, hc0, hc1, World.cell?_alloc_lt, hsz]) rfl ⟨by rw [HF.out], by repeat (first | exact hbw | (refine Below.setCell ?_ (by simp) _) | (refine Below.alloc ?_ (by first | omega | (simp; omega)) _))⟩

set_option maxRecDepth 20000 in
set_option maxHeartbeats 8000000 in
theorem rFraming_any (A : Option Addr) (c : Nat) (l : List Fl) (old : Bool) (w : World) (hr : Row w A (flat l)) (hk : bulkF l ≤ 1048576) :
    Calls Tryd.prog 67 #[.slice A l.length c, .bool old] w fun e w' => e = .returned (framVal3 (framR (codR (allV l teName)) (lengthR (allV l clName)) old)) ∧ Below w.heap.size w w' := by
  have HC := Lib.hid (fun A c w hr => rCodings_any A c l w hr hk)
  have HL := Lib.hid (fun A c w hr => rLength_any A c l w hr hk)
  generalize codR (allV l teName) = cr at *
  generalize lengthR (allV l clName) = lr at *
  obtain ⟨cl, cb, ce⟩ := cr
  obtain ⟨m, mb, me⟩ := lr
  unfold GivesCod at HC
  simp only at HC HL
  by_cases hce : ce = 0
  · subst hce
    cases cb
    · by_cases hme : me = 0
      · subst hme
        cases mb
        · skip
          have HF := Lib.hid (framR_none (cl := cl) (m := m) (old := old))
          go_enter Tryd.func67, Tryd.ntmps67
          go_wp2_with fail
          refine (HC.out A c w hr).mono ?_
          rintro e w1 ⟨A1, c1, rfl, hown1, hb1⟩
          have hr1 := hr.below hb1
          clear hown1
          go_wp2_with fail
          refine (HL.out A c w1 hr1).mono ?_
          rintro e w2 ⟨rfl, hb2⟩
          have hbw := box2_trans hb1 hb2 (Nat.le_refl _)
          clear hb2 hb1 hr1
          go_wp2
          go_ret3
          exact ⟨by rw [HF.out]; rfl, hbw⟩
        · skip
          have HF := Lib.hid (framR_long (cl := cl) (m := m) (old := old))
          go_enter Tryd.func67, Tryd.ntmps67
          go_wp2_with fail
          refine (HC.out A c w hr).mono ?_
          rintro e w1 ⟨A1, c1, rfl, hown1, hb1⟩
          have hr1 := hr.below hb1
          clear hown1
          go_wp2_with fail
          refine (HL.out A c w1 hr1).mono ?_
          rintro e w2 ⟨rfl, hb2⟩
          have hbw := box2_trans hb1 hb2 (Nat.le_refl _)
          clear hb2 hb1 hr1
          go_wp2
          go_ret3
          exact ⟨by rw [HF.out]; rfl, hbw⟩
      · have hmn : (me != 0) = true := by simpa using hme
        have HF := Lib.hid (framR_len (cl := cl) (m := m) (mb := mb) (old := old) hme)
        clear hme
        go_enter Tryd.func67, Tryd.ntmps67
        go_wp2_with fail
        refine (HC.out A c w hr).mono ?_
        rintro e w1 ⟨A1, c1, rfl, hown1, hb1⟩
        have hr1 := hr.below hb1
        clear hown1
        go_wp2_with fail
        refine (HL.out A c w1 hr1).mono ?_
        rintro e w2 ⟨rfl, hb2⟩
        have hbw := box2_trans hb1 hb2 (Nat.le_refl _)
        clear hb2 hb1 hr1
        go_wp2
        go_ret3
        exact ⟨by rw [HF.out]; rfl, hbw⟩
    · cases old
      · rcases cl with _ | ⟨t, ts⟩
        · skip
          have HF := Lib.hid (framR_many (m := m) (mb := mb) (me := me) (cl := []) (old := false) (by simp))
          go_enter Tryd.func67, Tryd.ntmps67
          go_wp2_with fail
          refine (HC.out A c w hr).mono ?_
          rintro e w1 ⟨A1, c1, rfl, hown1, hb1⟩
          have hr1 := hr.below hb1
          clear hown1
          have hbw := hb1
          clear hb1 hr1
          go_wp2
          go_ret3
          exact ⟨by rw [HF.out]; rfl, hbw⟩
        · rcases ts with _ | ⟨t2, ts⟩
          · by_cases ht : t = chunked
            · subst ht
              have hch : (chunked.toList == [99, 104, 117, 110, 107, 101, 100]) = true := by rw [chu_list, eq_str]; exact decide_eq_true rfl
              by_cases hme : me = 0
              · subst hme
                cases mb
                · skip
                  have HF := Lib.hid (framR_chunked (m := m))
                  generalize chunked = t at *
                  go_enter Tryd.func67, Tryd.ntmps67
                  go_wp2_with fail
                  refine (HC.out A c w hr).mono ?_
                  rintro e w1 ⟨A1, c1, rfl, hown1, hb1⟩
                  have hr1 := hr.below hb1
                  obtain ⟨b, off, rfl, hb, hcell⟩ := (own_row hown1).str (k := 0) (x := t) rfl
                  rw [Nat.add_zero] at hcell
                  clear hown1
                  go_wp2_with fail
                  refine (HL.out A c w1 hr1).mono ?_
                  rintro e w2 ⟨rfl, hb2⟩
                  have hcell2 := (hb2.cell (p := ⟨b, off, none⟩) hb).trans hcell
                  have hbz : b < w2.heap.size := Nat.lt_of_lt_of_le hb hb2.size
                  have hbw := box2_trans hb1 hb2 (Nat.le_refl _)
                  clear hb2 hb1 hr1
                  clear hcell
                  go_wp2
                  go_ret3
                  exact ⟨by rw [HF.out]; rfl, hbw⟩
                · skip
                  have HF := Lib.hid (framR_both (m := m))
                  generalize chunked = t at *
                  go_enter Tryd.func67, Tryd.ntmps67
                  go_wp2_with fail
                  refine (HC.out A c w hr).mono ?_
                  rintro e w1 ⟨A1, c1, rfl, hown1, hb1⟩
                  have hr1 := hr.below hb1
                  obtain ⟨b, off, rfl, hb, hcell⟩ := (own_row hown1).str (k := 0) (x := t) rfl
                  rw [Nat.add_zero] at hcell
                  clear hown1
                  go_wp2_with fail
                  refine (HL.out A c w1 hr1).mono ?_
                  rintro e w2 ⟨rfl, hb2⟩
                  have hcell2 := (hb2.cell (p := ⟨b, off, none⟩) hb).trans hcell
                  have hbz : b < w2.heap.size := Nat.lt_of_lt_of_le hb hb2.size
                  have hbw := box2_trans hb1 hb2 (Nat.le_refl _)
                  clear hb2 hb1 hr1
                  clear hcell
                  go_wp2
                  go_ret3
                  exact ⟨by rw [HF.out]; rfl, hbw⟩
              · have hmn : (me != 0) = true := by simpa using hme
                have HF := Lib.hid (framR_chu (m := m) (mb := mb) hme)
                clear hme
                generalize chunked = t at *
                go_enter Tryd.func67, Tryd.ntmps67
                go_wp2_with fail
                refine (HC.out A c w hr).mono ?_
                rintro e w1 ⟨A1, c1, rfl, hown1, hb1⟩
                have hr1 := hr.below hb1
                obtain ⟨b, off, rfl, hb, hcell⟩ := (own_row hown1).str (k := 0) (x := t) rfl
                rw [Nat.add_zero] at hcell
                clear hown1
                go_wp2_with fail
                refine (HL.out A c w1 hr1).mono ?_
                rintro e w2 ⟨rfl, hb2⟩
                have hcell2 := (hb2.cell (p := ⟨b, off, none⟩) hb).trans hcell
                have hbz : b < w2.heap.size := Nat.lt_of_lt_of_le hb hb2.size
                have hbw := box2_trans hb1 hb2 (Nat.le_refl _)
                clear hb2 hb1 hr1
                clear hcell
                go_wp2
                go_ret3
                exact ⟨by rw [HF.out]; rfl, hbw⟩
            · have hch : (t.toList == [99, 104, 117, 110, 107, 101, 100]) = false := by rw [chu_list, eq_str]; exact decide_eq_false ht
              have HF := Lib.hid (framR_other (m := m) (mb := mb) (me := me) (old := false) ht)
              clear ht
              go_enter Tryd.func67, Tryd.ntmps67
              go_wp2_with fail
              refine (HC.out A c w hr).mono ?_
              rintro e w1 ⟨A1, c1, rfl, hown1, hb1⟩
              have hr1 := hr.below hb1
              obtain ⟨b, off, rfl, hb, hcell⟩ := (own_row hown1).str (k := 0) (x := t) rfl
              rw [Nat.add_zero] at hcell
              clear hown1
              have hbw := hb1
              clear hb1 hr1
              go_wp2
              go_ret3
              exact ⟨by rw [HF.out]; rfl, hbw⟩
          · have hl1 : (((t :: t2 :: ts).length : Int) != 1) = true := by rw [bne_iff_ne]; simp only [List.length_cons]; omega
            have HF := Lib.hid (framR_many (m := m) (mb := mb) (me := me) (cl := t :: t2 :: ts) (old := false) (by simp))
            generalize t :: t2 :: ts = X at *
            go_enter Tryd.func67, Tryd.ntmps67
            go_wp2_with fail
            refine (HC.out A c w hr).mono ?_
            rintro e w1 ⟨A1, c1, rfl, hown1, hb1⟩
            have hr1 := hr.below hb1
            clear hown1
            have hbw := hb1
            clear hb1 hr1
            go_wp2
            go_ret3
            exact ⟨by rw [HF.out]; rfl, hbw⟩
      · skip
        have HF := Lib.hid (framR_old (cl := cl) (m := m) (mb := mb) (me := me))
        go_enter Tryd.func67, Tryd.ntmps67
        go_wp2_with fail
        refine (HC.out A c w hr).mono ?_
        rintro e w1 ⟨A1, c1, rfl, hown1, hb1⟩
        have hr1 := hr.below hb1
        clear hown1
        have hbw := hb1
        clear hb1 hr1
        go_wp2
        go_ret3
        exact ⟨by rw [HF.out]; rfl, hbw⟩
  · have hcn : (ce != 0) = true := by simpa using hce
    have HF := Lib.hid (framR_err (cl := cl) (cb := cb) (m := m) (mb := mb) (me := me) (old := old) hce)
    clear hce
    go_enter Tryd.func67, Tryd.ntmps67
    go_wp2_with fail
    refine (HC.out A c w hr).mono ?_
    rintro e w1 ⟨A1, c1, rfl, hown1, hb1⟩
    have hr1 := hr.below hb1
    clear hown1
    have hbw := hb1
    clear hb1 hr1
    go_wp2
    go_ret3
    exact ⟨by rw [HF.out]; rfl, hbw⟩
end Go.Proofs.YtamagbdkcfmfmaaDoor
