/-
  Lengths, codings, framing: the walks, of the program and of the reference.
-/
import Derived.Test.YtamagbdkcfmfmaaDoorToks
import Derived.Test.YtamagbdkcfmfmaaDoorNumW
import Derived.Deep.QuietTactic
import Derived.BigQuiet
namespace Go.Proofs.YtamagbdkcfmfmaaDoor
open Go.RowKit Go.Shelf Go.Lib

def clName : ByteArray := ⟨#[67, 111, 110, 116, 101, 110, 116, 45, 76, 101, 110, 103, 116, 104]⟩
def teName : ByteArray := ⟨#[84, 114, 97, 110, 115, 102, 101, 114, 45, 69, 110, 99, 111, 100, 105, 110, 103]⟩
theorem pos_of_ne {α : Type} {l : List α} (h : l ≠ []) : 0 < l.length := by
  rcases Nat.eq_zero_or_pos l.length with h1 | h1
  · exact absurd (List.eq_nil_of_length_eq_zero h1) h
  · exact h1
/-- Three plain results. -/
theorem gives3 {a a' : Int} {b b' : Bool} {c c' : Int} {r : Int × Bool × Int} (h : r = (a, b, c)) (ha : a' = a) (hb : b' = b) (hc : c' = c) : Ending.returned (.tuple #[.int .i64 a', .bool b', .int .i64 c']) = .returned (.tuple #[.int .i64 r.1, .bool r.2.1, .int .i64 r.2.2]) := by
  subst h ha hb hc
  rfl

set_option maxRecDepth 20000 in
set_option maxHeartbeats 2000000 in
theorem Length_any (A : Option Addr) (c : Nat) (l : List Fl) (w : World) (hr : Row w A (flat l)) (hk : bulkF l ≤ 1048576) :
    Calls Tryd.prog 62 #[.slice A l.length c] w fun e w' => e = .returned (.tuple #[.int .i64 (lengthR (allV l clName)).1, .bool (lengthR (allV l clName)).2.1, .int .i64 (lengthR (allV l clName)).2.2]) ∧ Below w.heap.size w w' := by
  have hbl := bulk_len l
  have hba := bulk_all l clName
  have hcl : clName.size ≤ maxLen := by decide
  have HA := Lib.hid (fun A c w hr => All_any A c l clName w hr (by omega) (bulk_wide hk) hcl)
  have HL := Lib.hid (fun A c w hr => fList_any A c l clName w hr hk hcl)
  clear hcl
  have hlb := listR_bound (allV l clName)
  generalize allV l clName = vs at *
  unfold clName at HA HL
  by_cases hv : vs = []
  · subst hv
    go_enter Tryd.func62, Tryd.ntmps62
    go_wp2_with fail
    refine (HA.out A c w hr).mono ?_
    rintro e w1 ⟨A1, c1, rfl, _, hb1⟩
    go_wp2
    go_ret3
    exact ⟨gives3 lengthR_nil rfl rfl rfl, hb1⟩
  · have hvp := pos_of_ne hv
    have hv0 : ((vs.length : Int) == 0) = false := beq_eq_false_iff_ne.2 (by omega)
    have HE := Lib.hid (lengthR_err hv)
    have HO := Lib.hid (lengthR_ok hv)
    clear hv
    generalize listR vs = r at *
    obtain ⟨x, ec⟩ := r
    obtain ⟨hx1, _, hx2⟩ := hlb
    simp only at hx1 hx2
    by_cases hec : ec = 0
    · subst hec
      have HR := Lib.hid (HO.out rfl)
      clear HE HO
      cases x with
      | nil =>
        go_enter Tryd.func62, Tryd.ntmps62
        go_wp2_with fail
        refine (HA.out A c w hr).mono ?_
        rintro e w1 ⟨A1, c1, rfl, _, hb1⟩
        have hr1 := hr.below hb1
        go_wp2_with fail
        refine (HL.out A c w1 hr1).mono ?_
        rintro e w2 ⟨A2, c2, rfl, _, hb2⟩
        go_wp2
        go_ret3
        exact ⟨gives3 HR.out rfl rfl rfl, hb1.trans (hb2.mono hb1.size)⟩
      | cons x0 xs =>
        have hx0 : (((x0 :: xs).length : Int) == 0) = false := beq_eq_false_iff_ne.2 (by simp only [List.length_cons]; omega)
        have HD0 := Lib.hid (decV_range x0)
        have HB := Lib.hid (fun k y hy => lenR_bad (x := x0) (xs := xs) (k := k) (y := y) hy)
        have HK := Lib.hid (lenR_ok (x := x0) (xs := xs))
        have HX0 := Lib.hid (show (x0 :: xs)[0]? = some x0 from rfl)
        have HX00 := Lib.hid (show ∀ y, (x0 :: xs)[0]? = some y → y = x0 from fun y h => by simpa using h.symm)
        generalize hX : x0 :: xs = X at *
        clear hX
        go_enter Tryd.func62, Tryd.ntmps62
        go_wp2_with fail
        refine (HA.out A c w hr).mono ?_
        rintro e w1 ⟨A1, c1, rfl, _, hb1⟩
        have hr1 := hr.below hb1
        go_wp2_with fail
        refine (HL.out A c w1 hr1).mono ?_
        rintro e w2 ⟨A2, c2, rfl, hown, hb2⟩
        have hrow := own_row hown
        have hbw := hb1.trans (hb2.mono hb1.size)
        simp only at hrow
        clear hown hb2 hb1 hr1 HA HL
        go_wp2
        go_loopw [7, 30] (fun v i wr => ∃ (k : Nat) (n : Int), k ≤ X.length ∧ i = .int .i64 k ∧ v = .int .i64 n ∧ Below w2.heap.size w2 wr ∧ ((k = 0 → n = 0) ∧ (0 < k → n = decV x0)) ∧ ∀ (j : Nat) y, j < k → X[j]? = some y → 0 ≤ decV y ∧ decV y = decV x0) (fun _ i _ => X.length - (RowKit.intOf i).toNat)
        case atStart => exact ⟨0, 0, by omega, rfl, rfl, Below.refl _ _, ⟨fun _ => rfl, fun h => by omega⟩, fun j y h _ => by omega⟩
        case round =>
          obtain ⟨k, n, hkk, rfl, rfl, hbr, ⟨hn0, hn1⟩, hall⟩ := hrel
          have HALL := Lib.hid hall
          have HN0 := Lib.hid hn0
          have HN1 := Lib.hid hn1
          clear hall hn0 hn1
          by_cases hlt : k < X.length
          · obtain ⟨s, hs⟩ := some_of_lt hlt
            obtain ⟨b, off, rfl, hb, h0⟩ := (hrow.below hbr).str hs
            have hss : s.size ≤ (X.map (·.size)).sum := size_le_sum (List.mem_of_getElem? hs)
            have HDC := Lib.hid (fun w => Decimal_any s 1099511627776 w (by omega) (by omega) (by omega))
            have HS := Lib.hid hs
            have HOK := Lib.hid (decV_ok (s := s))
            have HNO := Lib.hid (decV_no (s := s))
            clear hs
            generalize numR s 1099511627776 10 = q at HDC HOK HNO
            obtain ⟨m, em⟩ := q
            by_cases hem : em = 0
            · subst hem
              have hm := Lib.hid (HOK.out rfl)
              clear HOK HNO
              rcases Nat.eq_zero_or_pos k with hk0 | hk0
              · subst hk0
                have hnz : n = 0 := HN0.out rfl
                subst hnz
                rw [Nat.add_zero] at h0
                have hsx : s = x0 := HX00.out s HS.out
                have HSX := Lib.hid hsx
                clear hsx
                go_wp2_with fail
                refine (HDC.out _).mono ?_
                rintro e w3 ⟨rfl, hb3⟩
                go_wp2
                go_roundw
                case rel => exact ⟨1, m, by omega, by go_num, rfl, hbr.trans (hb3.mono hbr.size), ⟨fun h => by omega, fun _ => by rw [← HSX.out]; exact hm.out.1.symm⟩, fun j y h hy => by
                  obtain rfl : j = 0 := by omega
                  have := HX00.out y hy
                  subst this
                  rw [← HSX.out]
                  exact ⟨hm.out.2, rfl⟩⟩
                case measure => simp [RowKit.intOf]; omega
              · have hd0 : decide ((0 : Int) < (k : Int)) = true := decide_eq_true (by omega)
                have hnx := HN1.out hk0
                by_cases hmn : m = n
                · have hne : (m != n) = false := by simp [hmn]
                  have HMN := Lib.hid hmn
                  have HNX := Lib.hid hnx
                  clear hmn hnx
                  go_wp2_with fail
                  refine (HDC.out _).mono ?_
                  rintro e w3 ⟨rfl, hb3⟩
                  go_wp2
                  go_roundw
                  case rel => exact ⟨k + 1, m, by omega, by go_num, rfl, hbr.trans (hb3.mono hbr.size), ⟨fun h => by omega, fun _ => by rw [HMN.out, HNX.out]⟩, fun j y h hy => by
                    by_cases e : j = k
                    · subst e
                      have := HS.out.symm.trans hy
                      injection this with this
                      subst this
                      exact ⟨hm.out.2, by rw [hm.out.1]; show m = _; rw [HMN.out, HNX.out]⟩
                    · exact HALL.out j y (by omega) hy⟩
                  case measure => simp [RowKit.intOf]; omega
                · have hne : (m != n) = true := by simpa using hmn
                  have HBB := Lib.hid (HB.out k s HS.out (.inr (by rw [hm.out.1, ← hnx]; exact hmn)))
                  clear hmn hnx
                  go_wp2_with fail
                  refine (HDC.out _).mono ?_
                  rintro e w3 ⟨rfl, hb3⟩
                  go_wp2
                  go_ret3
                  exact ⟨gives3 (HR.out.trans HBB.out) rfl rfl rfl, hbw.trans ((hbr.trans (hb3.mono hbr.size)).mono hbw.size)⟩
            · have hne : (em != 0) = true := by simpa using hem
              have HBB := Lib.hid (HB.out k s HS.out (.inl (by rw [HNO.out hem]; omega)))
              clear hem HOK HNO
              go_wp2_with fail
              refine (HDC.out _).mono ?_
              rintro e w3 ⟨rfl, hb3⟩
              go_wp2
              go_ret3
              exact ⟨gives3 (HR.out.trans HBB.out) rfl rfl rfl, hbw.trans ((hbr.trans (hb3.mono hbr.size)).mono hbw.size)⟩
          · obtain rfl : k = X.length := by omega
            have hxp : 0 < X.length := (List.getElem?_eq_some_iff.1 HX0.out).1
            have HBB := Lib.hid (HK.out (fun j y hy => HALL.out j y (lt_of_some hy) hy))
            have HNN := Lib.hid (HN1.out hxp)
            go_wp2
            go_ret3
            exact ⟨gives3 (HR.out.trans HBB.out) HNN.out rfl rfl, hbw.trans (hbr.mono hbw.size)⟩
    · have hne : (ec != 0) = true := by simpa using hec
      have HR := Lib.hid (HE.out hec)
      clear HE HO hec
      go_enter Tryd.func62, Tryd.ntmps62
      go_wp2_with fail
      refine (HA.out A c w hr).mono ?_
      rintro e w1 ⟨A1, c1, rfl, _, hb1⟩
      have hr1 := hr.below hb1
      go_wp2_with fail
      refine (HL.out A c w1 hr1).mono ?_
      rintro e w2 ⟨A2, c2, rfl, _, hb2⟩
      go_wp2
      go_ret3
      exact ⟨gives3 HR.out rfl rfl rfl, hb1.trans (hb2.mono hb1.size)⟩

theorem rdecimal_q (s : ByteArray) (w : World) (hs : s.size ≤ 1099511627776) :
    Calls Tryd.prog 100 #[.string s] w fun e w' => e = .returned (.int .i64 (decV s)) ∧ w' = w := (rdecimal_any s w hs).mono fun _ _ ⟨h1, h2⟩ => ⟨h1, h2.symm⟩
set_option maxRecDepth 20000 in
set_option maxHeartbeats 4000000 in
theorem rLength_any (A : Option Addr) (c : Nat) (l : List Fl) (w : World) (hr : Row w A (flat l)) (hk : bulkF l ≤ 1048576) :
    Calls Tryd.prog 63 #[.slice A l.length c] w fun e w' => e = .returned (.tuple #[.int .i64 (lengthR (allV l clName)).1, .bool (lengthR (allV l clName)).2.1, .int .i64 (lengthR (allV l clName)).2.2]) ∧ Below w.heap.size w w' := by
  have hbl := bulk_len l
  have hba := bulk_all l clName
  have hcl : clName.size ≤ maxLen := by decide
  have HA := Lib.hid (fun A c w hr => rAll_any A c l clName w hr (by omega) (bulk_wide hk) hcl)
  have HL := Lib.hid (fun A c w hr => rList_any A c l clName w hr hk hcl)
  clear hcl
  have hlb := listR_bound (allV l clName)
  generalize allV l clName = vs at *
  unfold clName at HA HL
  by_cases hv : vs = []
  · subst hv
    go_enter Tryd.func63, Tryd.ntmps63
    go_wp2_with fail
    refine (HA.out A c w hr).mono ?_
    rintro e w1 ⟨A1, c1, rfl, _, hb1⟩
    go_wp2
    go_ret3
    exact ⟨gives3 lengthR_nil rfl rfl rfl, hb1⟩
  · have hvp := pos_of_ne hv
    have hv0 : ((vs.length : Int) == 0) = false := beq_eq_false_iff_ne.2 (by omega)
    have HE := Lib.hid (lengthR_err hv)
    have HO := Lib.hid (lengthR_ok hv)
    clear hv
    generalize listR vs = r at *
    obtain ⟨x, ec⟩ := r
    obtain ⟨hx1, _, hx2⟩ := hlb
    simp only at hx1 hx2
    by_cases hec : ec = 0
    · subst hec
      have HR := Lib.hid (HO.out rfl)
      clear HE HO
      cases x with
      | nil =>
        go_enter Tryd.func63, Tryd.ntmps63
        go_wp2_with fail
        refine (HA.out A c w hr).mono ?_
        rintro e w1 ⟨A1, c1, rfl, _, hb1⟩
        have hr1 := hr.below hb1
        go_wp2_with fail
        refine (HL.out A c w1 hr1).mono ?_
        rintro e w2 ⟨A2, c2, rfl, _, hb2⟩
        go_wp2
        go_ret3
        exact ⟨gives3 HR.out rfl rfl rfl, hb1.trans (hb2.mono hb1.size)⟩
      | cons x0 xs =>
        have hx0 : (((x0 :: xs).length : Int) == 0) = false := beq_eq_false_iff_ne.2 (by simp only [List.length_cons]; omega)
        have HB := Lib.hid (fun k y hy => lenR_bad (x := x0) (xs := xs) (k := k) (y := y) hy)
        have HK := Lib.hid (lenR_ok (x := x0) (xs := xs))
        have HX0 := Lib.hid (show (x0 :: xs)[0]? = some x0 from rfl)
        have HDX := Lib.hid (fun w => rdecimal_q x0 w (by
          have : x0.size ≤ ((x0 :: xs).map (·.size)).sum := size_le_sum (by simp)
          omega))
        have HDY := Lib.hid (fun w => rdecimal_any x0 w (by
          have : x0.size ≤ ((x0 :: xs).map (·.size)).sum := size_le_sum (by simp)
          omega))
        generalize hX : x0 :: xs = X at *
        clear hX
        have hxp : 0 < X.length := (List.getElem?_eq_some_iff.1 HX0.out).1
        have hxpi : (0 : Int) < (X.length : Int) := by omega
        generalize hm0 : decV x0 = m0 at *
        go_enter Tryd.func63, Tryd.ntmps63
        go_wp2_with fail
        refine (HA.out A c w hr).mono ?_
        rintro e w1 ⟨A1, c1, rfl, _, hb1⟩
        have hr1 := hr.below hb1
        go_wp2_with fail
        refine (HL.out A c w1 hr1).mono ?_
        rintro e w2 ⟨A2, c2, rfl, hown, hb2⟩
        have hrow := own_row hown
        have hbw := hb1.trans (hb2.mono hb1.size)
        simp only at hrow
        clear hown hb2 hb1 hr1 HA HL hm0
        go_wp2
        go_loopw [27] (fun i wr => ∃ (k : Nat), k ≤ X.length ∧ i = .int .i64 k ∧ Below w2.heap.size w2 wr ∧ ∀ (j : Nat) y, j < k → X[j]? = some y → 0 ≤ decV y ∧ decV y = m0) (fun i _ => X.length - (RowKit.intOf i).toNat)
        case atStart => exact ⟨0, by omega, rfl, Below.refl _ _, fun j y h _ => by omega⟩
        case round =>
          obtain ⟨k, hkk, rfl, hbr, hall⟩ := hrel
          have HALL := Lib.hid hall
          clear hall
          by_cases hlt : k < X.length
          · obtain ⟨s, hs⟩ := some_of_lt hlt
            obtain ⟨b, off, hA2, hb, h00⟩ := (hrow.below hbr).str HX0.out
            subst hA2
            rw [Nat.add_zero] at h00
            obtain ⟨b', off', hbe, hb', h0⟩ := (hrow.below hbr).str hs
            injection hbe with hbe
            injection hbe with hbe1 hbe2
            subst hbe1 hbe2
            have hss : s.size ≤ (X.map (·.size)).sum := size_le_sum (List.mem_of_getElem? hs)
            have HDC := Lib.hid (fun w => rdecimal_q s w (by omega))
            have HS := Lib.hid hs
            have HBS := Lib.hid (HB.out k s hs)
            have HMS := Lib.hid (show decV s = decV s from rfl)
            generalize hms : decV s = m at HDC HBS
            have HM := Lib.hid hms
            clear hs hms HMS
            by_cases hneg : m < 0
            · have hd : decide (m < 0) = true := decide_eq_true hneg
              have HBB := Lib.hid (HBS.out (.inl hneg))
              clear hneg HBS
              go_wp2_with fail
              go_quiet (first | (go_at_call 100; with_reducible exact Calls.quiet_of_same (HDC.out _)) | (go_at_call 100; with_reducible exact Calls.quiet_of_same (HDX.out _)))
              go_wp2
              go_ret3
              exact ⟨gives3 (HR.out.trans HBB.out) rfl rfl rfl, hbw.trans ((below_drewN hbr _).mono hbw.size)⟩
            · have hd : decide (m < 0) = false := decide_eq_false hneg
              by_cases hmm : m = m0
              · have hne : (m != m0) = false := by simp [hmm]
                have HMM := Lib.hid hmm
                have HNG := Lib.hid hneg
                clear hmm hneg HBS
                go_wp2_with fail
                go_quiet (first | (go_at_call 100; with_reducible exact Calls.quiet_of_same (HDC.out _)) | (go_at_call 100; with_reducible exact Calls.quiet_of_same (HDX.out _)))
                go_wp2
                go_roundw
                case rel => exact ⟨k + 1, by omega, by go_num, below_drewN hbr _, fun j y h hy => by
                  by_cases e : j = k
                  · subst e
                    have := HS.out.symm.trans hy
                    injection this with this
                    subst this
                    have h1 := HNG.out
                    rw [HM.out]
                    exact ⟨by omega, HMM.out⟩
                  · exact HALL.out j y (by omega) hy⟩
                case measure => simp [RowKit.intOf]; omega
              · have hne : (m != m0) = true := by simpa using hmm
                have HBB := Lib.hid (HBS.out (.inr hmm))
                clear hmm hneg HBS
                go_wp2_with fail
                go_quiet (first | (go_at_call 100; with_reducible exact Calls.quiet_of_same (HDC.out _)) | (go_at_call 100; with_reducible exact Calls.quiet_of_same (HDX.out _)))
                go_wp2
                go_ret3
                exact ⟨gives3 (HR.out.trans HBB.out) rfl rfl rfl, hbw.trans ((below_drewN hbr _).mono hbw.size)⟩
          · obtain rfl : k = X.length := by omega
            have HBB := Lib.hid (HK.out (fun j y hy => HALL.out j y (lt_of_some hy) hy))
            obtain ⟨b, off, hA2, hb, h00⟩ := (hrow.below hbr).str HX0.out
            subst hA2
            rw [Nat.add_zero] at h00
            go_wp2_with fail
            refine (HDY.out _).mono ?_
            rintro e w3 ⟨rfl, rfl⟩
            go_wp2
            go_ret3
            exact ⟨gives3 (HR.out.trans HBB.out) rfl rfl rfl, hbw.trans (hbr.mono hbw.size)⟩
    · have hne : (ec != 0) = true := by simpa using hec
      have HR := Lib.hid (HE.out hec)
      clear HE HO hec
      go_enter Tryd.func63, Tryd.ntmps63
      go_wp2_with fail
      refine (HA.out A c w hr).mono ?_
      rintro e w1 ⟨A1, c1, rfl, _, hb1⟩
      have hr1 := hr.below hb1
      go_wp2_with fail
      refine (HL.out A c w1 hr1).mono ?_
      rintro e w2 ⟨A2, c2, rfl, _, hb2⟩
      go_wp2
      go_ret3
      exact ⟨gives3 HR.out rfl rfl rfl, hb1.trans (hb2.mono hb1.size)⟩

/-- What Codings hands back: texts, whether there are some, the error. -/
def GivesCod (w : World) (r : List ByteArray × Bool × Int) (e : Ending) (w' : World) : Prop :=
  ∃ A c, e = .returned (.tuple #[.slice A r.1.length c, .bool r.2.1, .int .i64 r.2.2]) ∧ w'.ownsRow w.heap.size 9 1 (.slice A r.1.length c) r.1.length (r.1.map .string) ∧ Below w.heap.size w w'
theorem gives_cod {w w' : World} {A : Option Addr} {c : Nat} {x : List ByteArray} {b : Bool} {n : Int} {r : List ByteArray × Bool × Int} (h : r = (x, b, n)) (ho : w'.ownsRow w.heap.size 9 1 (.slice A x.length c) x.length (x.map .string)) (hb : Below w.heap.size w w') :
    GivesCod w r (.returned (.tuple #[.slice A x.length c, .bool b, .int .i64 n])) w' := by
  subst h
  exact ⟨A, c, rfl, ho, hb⟩
theorem gives_cod0 {w w' : World} {b : Bool} {n : Int} {r : List ByteArray × Bool × Int} (h : r = ([], b, n)) (hb : Below w.heap.size w w') : GivesCod w r (.returned (.tuple #[.slice none 0 0, .bool b, .int .i64 n])) w' := by
  subst h
  exact ⟨none, 0, rfl, World.ownsRow_nil _ _ _ _, hb⟩

set_option maxRecDepth 20000 in
set_option maxHeartbeats 1000000 in
theorem Codings_any (A : Option Addr) (c : Nat) (l : List Fl) (w : World) (hr : Row w A (flat l)) (hk : bulkF l ≤ 1048576) (hg : Glob w) :
    Calls Tryd.prog 64 #[.slice A l.length c] w (GivesCod w (codR (allV l teName))) := by
  have hbl := bulk_len l
  have hba := bulk_all l teName
  have hcl : teName.size ≤ maxLen := by decide
  have HA := Lib.hid (fun A c w hr => All_any A c l teName w hr (by omega) (bulk_wide hk) hcl)
  have HL := Lib.hid (fun A c w hr hg => Tokens_any A c l teName w hr hk hcl hg)
  clear hcl
  generalize allV l teName = vs at *
  unfold teName at HA HL
  by_cases hv : vs = []
  · subst hv
    go_enter Tryd.func64, Tryd.ntmps64
    go_wp2_with fail
    refine (HA.out A c w hr).mono ?_
    rintro e w1 ⟨A1, c1, rfl, _, hb1⟩
    go_wp2
    go_ret3
    exact gives_cod0 codR_nil hb1
  · have hvp := pos_of_ne hv
    have hv0 : ((vs.length : Int) == 0) = false := beq_eq_false_iff_ne.2 (by omega)
    have HE := Lib.hid (codR_err hv)
    have HO := Lib.hid (codR_ok hv)
    clear hv
    generalize tokR (listR vs) = r at *
    obtain ⟨x, ec⟩ := r
    by_cases hec : ec = 0
    · subst hec
      have HR := Lib.hid (HO.out rfl)
      clear HE HO
      go_enter Tryd.func64, Tryd.ntmps64
      go_wp2_with fail
      refine (HA.out A c w hr).mono ?_
      rintro e w1 ⟨A1, c1, rfl, _, hb1⟩
      have hr1 := hr.below hb1
      have hg1 := hg.beyond hb1
      go_wp2_with fail
      refine (HL.out A c w1 hr1 hg1).mono ?_
      rintro e w2 ⟨A2, c2, rfl, hown, hb2⟩
      go_wp2
      go_ret3
      exact gives_cod HR.out (hown.mono hb1.size) (hb1.trans (hb2.mono hb1.size))
    · have hne : (ec != 0) = true := by simpa using hec
      have HR := Lib.hid (HE.out hec)
      clear HE HO hec
      go_enter Tryd.func64, Tryd.ntmps64
      go_wp2_with fail
      refine (HA.out A c w hr).mono ?_
      rintro e w1 ⟨A1, c1, rfl, _, hb1⟩
      have hr1 := hr.below hb1
      have hg1 := hg.beyond hb1
      go_wp2_with fail
      refine (HL.out A c w1 hr1 hg1).mono ?_
      rintro e w2 ⟨A2, c2, rfl, _, hb2⟩
      go_wp2
      go_ret3
      exact gives_cod0 HR.out (hb1.trans (hb2.mono hb1.size))

set_option maxRecDepth 20000 in
set_option maxHeartbeats 1000000 in
theorem rCodings_any (A : Option Addr) (c : Nat) (l : List Fl) (w : World) (hr : Row w A (flat l)) (hk : bulkF l ≤ 1048576) :
    Calls Tryd.prog 65 #[.slice A l.length c] w (GivesCod w (codR (allV l teName))) := by
  have hbl := bulk_len l
  have hba := bulk_all l teName
  have hcl : teName.size ≤ maxLen := by decide
  have HA := Lib.hid (fun A c w hr => rAll_any A c l teName w hr (by omega) (bulk_wide hk) hcl)
  have HL := Lib.hid (fun A c w hr => rTokens_any A c l teName w hr hk hcl)
  clear hcl
  generalize allV l teName = vs at *
  unfold teName at HA HL
  by_cases hv : vs = []
  · subst hv
    go_enter Tryd.func65, Tryd.ntmps65
    go_wp2_with fail
    refine (HA.out A c w hr).mono ?_
    rintro e w1 ⟨A1, c1, rfl, _, hb1⟩
    go_wp2
    go_ret3
    exact gives_cod0 codR_nil hb1
  · have hvp := pos_of_ne hv
    have hv0 : ((vs.length : Int) == 0) = false := beq_eq_false_iff_ne.2 (by omega)
    have HE := Lib.hid (codR_err hv)
    have HO := Lib.hid (codR_ok hv)
    clear hv
    generalize tokR (listR vs) = r at *
    obtain ⟨x, ec⟩ := r
    by_cases hec : ec = 0
    · subst hec
      have HR := Lib.hid (HO.out rfl)
      clear HE HO
      go_enter Tryd.func65, Tryd.ntmps65
      go_wp2_with fail
      refine (HA.out A c w hr).mono ?_
      rintro e w1 ⟨A1, c1, rfl, _, hb1⟩
      have hr1 := hr.below hb1
      skip
      go_wp2_with fail
      refine (HL.out A c w1 hr1).mono ?_
      rintro e w2 ⟨A2, c2, rfl, hown, hb2⟩
      go_wp2
      go_ret3
      exact gives_cod HR.out (hown.mono hb1.size) (hb1.trans (hb2.mono hb1.size))
    · have hne : (ec != 0) = true := by simpa using hec
      have HR := Lib.hid (HE.out hec)
      clear HE HO hec
      go_enter Tryd.func65, Tryd.ntmps65
      go_wp2_with fail
      refine (HA.out A c w hr).mono ?_
      rintro e w1 ⟨A1, c1, rfl, _, hb1⟩
      have hr1 := hr.below hb1
      skip
      go_wp2_with fail
      refine (HL.out A c w1 hr1).mono ?_
      rintro e w2 ⟨A2, c2, rfl, _, hb2⟩
      go_wp2
      go_ret3
      exact gives_cod0 HR.out (hb1.trans (hb2.mono hb1.size))
end Go.Proofs.YtamagbdkcfmfmaaDoor
