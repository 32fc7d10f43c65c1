/-
  The walk of FieldOne.
-/
import Derived.Test.YtamagbdkcfmfmaaDoorDig
import Derived.Test.YtamagbdkcfmfmaaDoorFram
import Derived.Test.YtamagbdkcfmfmaaDoorLawTurns
import Derived.Deep.RegionHeld3
namespace Go.Proofs.YtamagbdkcfmfmaaDoor
open Go.RowKit Go.Shelf Go.Lib

set_option maxRecDepth 20000 in
set_option maxHeartbeats 1000000 in
theorem digits_any (s : ByteArray) (w : World) (hs : s.size ≤ 1099511627776) :
    Calls Tryd.prog 68 #[.string s] w fun e w' => e = .returned (.string (digR s)) ∧ Below w.heap.size w w' := by
  have hcv := bytes_conv w s
  have hba := BytesAt.of_conv w 5 s
  have hbl := below_conv w 5 s
  generalize Lib.bytesWorld w 5 s = w1 at hcv hba hbl
  generalize grownCap w s.size 0 5 = cap at hcv
  go_enter Tryd.func68, Tryd.ntmps68
  go_wp2
  go_loop [8] (fun i => ∃ k : Nat, k ≤ s.size ∧ i = .int .i64 k ∧ AllTo isDig s k) (fun i => s.size - (RowKit.intOf i).toNat)
  case atStart => exact ⟨0, by omega, rfl, AllTo.zero _ _⟩
  case round =>
    obtain ⟨k, hk, rfl, hall⟩ := hrel
    by_cases hlt : k < s.size
    · have hkl : k < s.data.toList.length := by rw [size_eq]; exact hlt
      have hc := hba.cell k hkl
      change w1.cell? _ = some (.int .u8 (bt s k)) at hc
      have h0 := bt_nonneg s k
      have h1 := bt_lt s k
      by_cases hlo : bt s k < 48
      · have HR := Lib.hid (show digR s = ⟨#[]⟩ by
          unfold digR
          rw [if_neg (by rw [allB_false hlt (by unfold isDig; rw [decide_eq_false (by omega)]; rfl)]; simp)])
        go_wp2
        go_ret
        exact ⟨ret_str HR.out.symm, hbl⟩
      · by_cases hhi : 57 < bt s k
        · have HR := Lib.hid (show digR s = ⟨#[]⟩ by
            unfold digR
            rw [if_neg (by rw [allB_false hlt (by unfold isDig; rw [decide_eq_false (show ¬ bt s k ≤ 57 by omega)]; simp)]; simp)])
          go_wp2
          go_ret
          exact ⟨ret_str HR.out.symm, hbl⟩
        · have HS := Lib.hid (hall.succ (show isDig (bt s k) = true from isDig_iff.2 ⟨by omega, by omega⟩))
          clear hall
          go_wp2
          go_round
          case rel => exact ⟨k + 1, by omega, by go_num, HS.out⟩
          case measure => simp [RowKit.intOf]; omega
    · obtain rfl : k = s.size := by omega
      have HR := Lib.hid (show digR s = strip s by unfold digR; rw [if_pos (allB_true hall)])
      clear hall hba hcv
      go_wp2
      go_loop [0] (fun v => ∃ t : ByteArray, v = .string t ∧ t.size ≤ s.size ∧ strip t = strip s) (fun v => match v with | .string t => t.size | _ => 0)
      case atStart => exact ⟨s, rfl, by omega, rfl⟩
      case round =>
        obtain ⟨t, rfl, hts, ht⟩ := hrel
        have HT := Lib.hid ht
        clear ht
        by_cases h1 : 1 < t.size
        · have hb := @bt_eq t 0 (by omega)
          by_cases h48 : bt t 0 = 48
          · have hc := beq_iff_eq.2 h48
            have HS := Lib.hid (strip_step t h1 h48)
            have hsz := ext_size t (a := 1) (b := t.size) (by omega) (by omega)
            have hsz' : (t.extract 1 t.size).size < t.size := by omega
            clear h48 hsz
            go_wp2
            go_round
            case rel => exact ⟨_, rfl, by omega, by rw [HS.out, HT.out]⟩
            case measure => exact hsz'
          · have hc : (bt t 0 == 48) = false := beq_eq_false_iff_ne.2 h48
            have HS := Lib.hid (strip_stop t (fun h => h48 h.2))
            clear h48
            go_wp2
            go_ret
            exact ⟨ret_str (by rw [HR.out, ← HT.out, HS.out]), hbl⟩
        · have HS := Lib.hid (strip_stop t (fun h => h1 h.1))
          go_wp2
          go_ret
          exact ⟨ret_str (by rw [HR.out, ← HT.out, HS.out]), hbl⟩
theorem alike_low (x y : ByteArray) : alike x y = alike x (lower y) := by
  have h : ∀ s : ByteArray, lower (lower s) = lower s := fun s => bytes_ext (by
    show (s.data.toList.map lowB).map lowB = s.data.toList.map lowB
    rw [List.map_map]
    refine List.map_congr_left fun b _ => ?_
    have key : ∀ n : Fin 256, lowB (lowB (UInt8.ofNat n.val)) = lowB (UInt8.ofNat n.val) := by decide +kernel
    have := key ⟨b.toNat, b.toNat_lt⟩
    simpa using this)
  unfold alike
  rw [h]
theorem lower_cl : lower clName = ⟨#[99, 111, 110, 116, 101, 110, 116, 45, 108, 101, 110, 103, 116, 104]⟩ := by decide +kernel
theorem lower_te : lower teName = ⟨#[116, 114, 97, 110, 115, 102, 101, 114, 45, 101, 110, 99, 111, 100, 105, 110, 103]⟩ := by decide +kernel
theorem countV (l : List Fl) (k : Nat) {x y : ByteArray} (name : ByteArray) (h : l[k]? = some (x, y)) : (allV (l.take (k + 1)) name).length = (allV (l.take k) name).length + (if alike x (lower name) = true then 1 else 0) := by
  rw [allV_take h, ← alike_low]
  split <;> simp

theorem below_step {w w1 w2 : World} {B : Nat} (h : Below B w w1) (h2 : Below w1.heap.size w1 w2) (hB : B ≤ w.heap.size) : Below B w w2 := h.trans (h2.mono (Nat.le_trans hB h.size))
theorem pos_len {l : List ByteArray} (h : l ≠ []) : 0 < l.length := List.length_pos_iff.2 h
set_option maxRecDepth 100000 in
set_option maxHeartbeats 8000000 in
theorem FieldOne_walk (A : Option Addr) (c : Nat) (l : List Fl) (old : Bool) (w : World) (hr : Row w A (flat l)) (_hl : l.length ≤ 4398046511102) (hw : Wide l) (hk : bulkF l + 0 ≤ 1048576) (hg : Glob w) :
    Calls Tryd.prog 14 #[.slice A l.length c, .bool old] w fun e w' => e = .returned (.bool true) ∧ Below w.heap.size w w' := by
  have hkb : bulkF l ≤ 1048576 := by omega
  have hbl := bulk_len l
  have hbc := bulk_all l clName
  have hbt := bulk_all l teName
  have HF := Lib.hid (fun A c w hr hg => Framing_any A c l old w hr hkb hg)
  have HLI := Lib.hid (fun A c w hr => fList_any A c l clName w hr hkb (by decide))
  have HERR := Lib.hid (fun k n e h he => fram_err (vt := allV l teName) (vc := allV l clName) (old := old) (k := k) (n := n) (e := e) h he)
  have HOK := Lib.hid (fun k n h => fram_ok (vt := allV l teName) (vc := allV l clName) (old := old) (k := k) (n := n) h)
  have hfr : ∃ r, r = framR (codR (allV l teName)) (lengthR (allV l clName)) old := ⟨_, rfl⟩
  obtain ⟨⟨kd, n, ec⟩, hfr⟩ := hfr
  rw [← hfr] at HF
  have HFR := Lib.hid hfr.symm
  clear hfr
  unfold framVal at HF
  go_enter Tryd.func14, Tryd.ntmps14
  go_wp2_with fail
  refine (awake_any w hg).mono ?_
  rintro e w1 ⟨rfl, hb1⟩
  have hr1 := hr.below hb1
  have hg1 := hg.beyond hb1
  go_wp2_with fail
  refine (wide_any A c l w1 hr1 (by omega)).mono ?_
  rintro e w2 ⟨B, b, rfl, hown2, hb2⟩
  have hx2 := own_row hown2
  have hr2 := hr1.below hb2
  have hg2 := hg1.beyond hb2
  have hbw2 := hb1.trans (hb2.mono hb1.size)
  clear hown2 hr1 hg1 hb1 hb2
  go_wp2_with fail
  refine (HF.out B b w2 hx2 hg2).mono ?_
  rintro e w3 ⟨rfl, hb3⟩
  have hr3 := hr2.below hb3
  have hg3 := hg2.beyond hb3
  have hbw3 := hbw2.trans (hb3.mono hbw2.size)
  clear hx2 hr2 hg2 hbw2 hb3 HF
  have hr4 := hr3.alloc (.cells #[.int .i64 kd, .int .i64 n] 90)
  have hg4 := hg3.alloc (.cells #[.int .i64 kd, .int .i64 n] 90)
  clear hg3
  go_wp2
  go_loopw [7, 8, 29] (fun u v i wr => ∃ k : Nat, k ≤ l.length ∧ i = .int .i64 k ∧ u = .int .i64 (((allV (l.take k) clName).length : Nat) : Int) ∧ v = .int .i64 (((allV (l.take k) teName).length : Nat) : Int) ∧ Below (w3.heap.size + 1) (w3.alloc (.cells #[.int .i64 kd, .int .i64 n] 90)) wr) (fun _ _ i _ => l.length - (RowKit.intOf i).toNat)
  case atStart => exact ⟨0, by omega, rfl, rfl, rfl, Below.refl _ _⟩
  case round =>
    obtain ⟨k, hkk, rfl, rfl, rfl, hbw⟩ := hrel
    by_cases hlt : k < l.length
    · obtain ⟨⟨x, y⟩, hxy⟩ := some_of_lt hlt
      have hbs := hbw.size
      simp at hbs
      obtain ⟨b', off', rfl, hb', h0, h1⟩ := ((hr3.alloc (.cells #[.int .i64 kd, .int .i64 n] 90)).keep (w' := wr) hbw.size (fun p hp => hbw.cell (by simpa using hp))).pair hxy
      have hwx := (hw.at_ hxy).1
      have HC := Lib.hid (countV l k clName hxy)
      have HT := Lib.hid (countV l k teName hxy)
      rw [lower_cl] at HC
      rw [lower_te] at HT
      have HAC := Lib.hid (fun w => rAlike_any x ⟨#[99, 111, 110, 116, 101, 110, 116, 45, 108, 101, 110, 103, 116, 104]⟩ w hwx (by decide))
      have HAT := Lib.hid (fun w => rAlike_any x ⟨#[116, 114, 97, 110, 115, 102, 101, 114, 45, 101, 110, 99, 111, 100, 105, 110, 103]⟩ w hwx (by decide))
      have hcl := allV_length (l.take k) clName
      have htl := allV_length (l.take k) teName
      have hlk : (l.take k).length ≤ k := List.length_take_le _ _
      generalize alike x ⟨#[99, 111, 110, 116, 101, 110, 116, 45, 108, 101, 110, 103, 116, 104]⟩ = ac at *
      generalize alike x ⟨#[116, 114, 97, 110, 115, 102, 101, 114, 45, 101, 110, 99, 111, 100, 105, 110, 103]⟩ = at' at *
      generalize (allV (l.take k) clName).length = nc at *
      generalize (allV (l.take k) teName).length = nt at *
      clear hxy hwx
      cases ac <;> cases at'
      all_goals
        go_wp2_with fail
        refine (HAC.out _).mono ?_
        rintro e w5 ⟨rfl, hb5⟩
        have hb5' : Below (wr.heap.size + 1) (wr.alloc (.cells #[.string x, .string y] 24)) w5 := by simpa using hb5
        obtain ⟨⟨hc0, hc1⟩, _, _⟩ := box2 hb5'
        have hbw5 := hbw.trans ((below_box hb5').mono hbs)
        have hs5 := hb5'.size
        simp at hs5
        clear hb5 hb5' h0 h1
        go_wp2_with fail
        refine (HAT.out _).mono ?_
        rintro e w6 ⟨rfl, hb6⟩
        have hbw6 := hbw5.trans (hb6.mono (by omega))
        clear hb6 hbw5 hc0 hc1
        go_wp2
        go_roundw
        case rel => exact ⟨k + 1, by omega, by go_num, by rw [HC.out]; simp, by rw [HT.out]; simp, hbw6⟩
        case measure => simp [RowKit.intOf]; omega
    · obtain rfl : k = l.length := by omega
      rw [List.take_length]
      have hbs := hbw.size
      simp at hbs
      obtain ⟨⟨hc0, hc1⟩, _, _⟩ := box2 hbw
      have hrw := (hr3.alloc (.cells #[.int .i64 kd, .int .i64 n] 90)).keep (w' := wr) hbw.size (fun p hp => hbw.cell (by simpa using hp))
      have hbw4 := hbw3.trans ((below_box hbw).mono hbw3.size)
      have hgw := hg4.below hbw (by have := hg4.size; simpa using this)
      clear hr3 hr4 hg4 hbw3
      generalize allV l clName = vc at *
      generalize allV l teName = vt at *
      by_cases hec : ec = 0
      · subst hec
        rcases HOK.out _ _ HFR.out with ⟨rfl, rfl, rfl, rfl⟩ | ⟨rfl, rfl, rfl, hvt, rfl⟩ | ⟨rfl, rfl, hvc, hlen⟩
        · go_wp2
          go_ret
          exact ⟨rfl, hbw4⟩
        · have hpl := pos_len hvt
          have hd : decide ((0 : Int) < (vt.length : Int)) = true := decide_eq_true (by omega)
          clear hvt
          go_wp2
          go_ret
          exact ⟨rfl, hbw4⟩
        · obtain ⟨_, hle, x0, xs, hX, hn, hall⟩ := lengthR_some hlen
          have hsz := (listR_bound vc).1
          have hlr : listR vc = (x0 :: xs, 0) := by rw [← hX, ← hle]
          rw [hlr] at HLI hsz
          simp only at hsz
          have hx0 := hall x0 (by simp)
          have hf0 := digR_facts hx0.1
          have hxs0 : x0.size ≤ ((x0 :: xs).map (·.size)).sum := size_le_sum (by simp)
          have hxs1 : x0.size ≤ 1048576 := by omega
          have HD0 := Lib.hid (fun w => digits_any x0 w (by omega))
          have HDS := Lib.hid (show ∀ s ∈ x0 :: xs, ∀ w : World, Calls Tryd.prog 68 #[.string s] w fun e w' => e = .returned (.string (digR x0)) ∧ Below w.heap.size w w' from fun s hs w => by
            have h1 := hall s hs
            have h2 : s.size ≤ ((x0 :: xs).map (·.size)).sum := size_le_sum hs
            rw [← digR_same h1.1 hx0.1 h1.2]
            exact digits_any s w (by omega))
          have HX0 := Lib.hid (show (x0 :: xs)[0]? = some x0 from rfl)
          have hXl : (((x0 :: xs).length : Int) == 0) = false := beq_eq_false_iff_ne.2 (by simp only [List.length_cons]; omega)
          have hXp : (0 : Int) < ((x0 :: xs).length : Int) := by simp only [List.length_cons]; omega
          have hXpn : 0 < (x0 :: xs).length := by simp only [List.length_cons]; omega
          have hxl : (x0 :: xs).length ≤ 1048576 := by have := (listR_bound vc).2.2; rw [hlr] at this; simp only at this; omega
          clear hlen hle hX hlr hsz
          generalize hXX : x0 :: xs = X at *
          obtain ⟨hd1, hd2, hd3, hd4⟩ := hf0
          rw [← hn] at hd4
          have HDV := Lib.hid hd4
          have HDD := Lib.hid hd3
          have hdn : n ≤ 1099511627776 := by rw [hn]; exact (decV_range x0).2
          have hne := not_empty (x := digR x0) (by omega)
          have hds : (digR x0).size ≤ 1048576 := by omega
          clear hXX hd3 hd4 hall hx0 hn hd2 hxs0
          generalize digR x0 = ds at *
          go_wp2_with fail
          refine (wide_any A c l wr hrw (by omega)).mono ?_
          rintro e w5 ⟨B5, b5, rfl, hown5, hb5⟩
          have hx5 := own_row hown5
          have hbw5 := hbw4.trans (hb5.mono hbw4.size)
          have hcc0 := (hb5.cell (p := ⟨w3.heap.size, 0, none⟩) (by show w3.heap.size < wr.heap.size; omega)).trans hc0
          have hcc1 := (hb5.cell (p := ⟨w3.heap.size, 1, none⟩) (by show w3.heap.size < wr.heap.size; omega)).trans hc1
          have hs5 := hb5.size
          clear hown5 hb5 hbw4 hc0 hc1 hrw hgw hbw
          unfold clName at HLI
          go_wp2_with fail
          refine (HLI.out B5 b5 w5 hx5).mono ?_
          rintro e w6 ⟨AX, cX, rfl, hown6, hb6⟩
          have hxr := own_row hown6
          have hbw6 := hbw5.trans (hb6.mono hbw5.size)
          have hcd0 := (hb6.cell (p := ⟨w3.heap.size, 0, none⟩) (by show w3.heap.size < w5.heap.size; omega)).trans hcc0
          have hcd1 := (hb6.cell (p := ⟨w3.heap.size, 1, none⟩) (by show w3.heap.size < w5.heap.size; omega)).trans hcc1
          have hs6 := hb6.size
          simp only at hxr
          clear hown6 hb6 hbw5 hcc0 hcc1 hx5
          go_wp2
          go_loopw [108] (fun i wr => ∃ k : Nat, k ≤ X.length ∧ i = .int .i64 k ∧ Below w6.heap.size w6 wr) (fun i _ => X.length - (RowKit.intOf i).toNat)
          case atStart => exact ⟨0, by omega, rfl, Below.refl _ _⟩
          case round =>
            obtain ⟨k, hkk, rfl, hbq⟩ := hrel
            by_cases hlt : k < X.length
            · obtain ⟨s, hs⟩ := some_of_lt hlt
              obtain ⟨bx, ox, hA, hbx, h00⟩ := (hxr.below hbq).str HX0.out
              subst hA
              rw [Nat.add_zero] at h00
              obtain ⟨bx', ox', hA', _, hk0⟩ := (hxr.below hbq).str hs
              injection hA' with hA'
              injection hA' with hA1 hA2
              subst hA1 hA2
              have HD := Lib.hid (HDS.out s (List.mem_of_getElem? hs))
              clear hs
              have HS := Lib.hid (show ∀ w', Below wr.heap.size wr w' → Below wr.heap.size wr w' ∧ w'.cell? ⟨bx, ox, none⟩ = some (.string x0) from fun w' hb => ⟨hb, (hb.cell (p := ⟨bx, ox, none⟩) hbx).trans h00⟩)
              go_wp2_with fail
              go_region_held3 (fun w' => Below wr.heap.size wr w' ∧ w'.cell? ⟨bx, ox, none⟩ = some (.string x0))
                (first | exact HS.out _ (Below.refl _ _) | exact HS.out _ (Below.drew (Below.refl _ _)) | exact HS.out _ (below_step (Below.drew (Below.refl _ _)) hb (by simp)) | (go_split_ands; exact HS.out _ (below_step (by assumption) hb (by simp))))
                (first | (go_at_call 68; ((with_reducible refine (HD.out _).mono ?_); rintro e w' ⟨rfl, hb⟩)) | (go_at_call 68; ((with_reducible refine (HD0.out _).mono ?_); rintro e w' ⟨rfl, hb⟩)))
              go_wp2
              go_roundw
              case rel => exact ⟨k + 1, by omega, by go_num, below_step hbq (by go_split_ands; assumption) (Nat.le_refl _)⟩
              case measure => simp [RowKit.intOf]; omega
            · obtain rfl : k = X.length := by omega
              obtain ⟨bx, ox, hA, hbx, h00⟩ := (hxr.below hbq).str HX0.out
              subst hA
              rw [Nat.add_zero] at h00
              have hbwr := hbw6.trans (hbq.mono hbw6.size)
              have hce0 := (hbq.cell (p := ⟨w3.heap.size, 0, none⟩) (by show w3.heap.size < w6.heap.size; omega)).trans hcd0
              have hce1 := (hbq.cell (p := ⟨w3.heap.size, 1, none⟩) (by show w3.heap.size < w6.heap.size; omega)).trans hcd1
              have hsr := hbq.size
              clear hcd0 hcd1 hbw6 hbq hxr HDS HLI
              go_wp2_with fail
              refine (HD0.out _).mono ?_
              rintro e w8 ⟨rfl, hb8⟩
              have hcf0 := (hb8.cell (p := ⟨w3.heap.size, 0, none⟩) (by show w3.heap.size < wr.heap.size; omega)).trans hce0
              have hcf1 := (hb8.cell (p := ⟨w3.heap.size, 1, none⟩) (by show w3.heap.size < wr.heap.size; omega)).trans hce1
              have hbw8 := hbwr.trans (hb8.mono hbwr.size)
              have hs8 := hb8.size
              clear hce0 hce1 hbwr hb8 h00 hbx
              have hcv := bytes_conv w8 ds
              have hba := BytesAt.of_conv w8 5 ds
              have hbl := below_conv w8 5 ds
              generalize Lib.bytesWorld w8 5 ds = w9 at hcv hba hbl
              generalize grownCap w8 ds.size 0 5 = cap at hcv
              have hcg1 := (hbl.cell (p := ⟨w3.heap.size, 1, none⟩) (by show w3.heap.size < w8.heap.size; omega)).trans hcf1
              have hbw9 := hbw8.trans (hbl.mono hbw8.size)
              clear hcf0 hcf1 hbw8 hbl
              go_wp2
              go_loop [15, 131] (fun v i => ∃ k : Nat, k ≤ ds.size ∧ i = .int .i64 k ∧ v = .int .i64 (numV 10 (ds.data.toList.take k))) (fun _ i => ds.size - (RowKit.intOf i).toNat)
              case atStart => exact ⟨0, by omega, rfl, rfl⟩
              case round =>
                obtain ⟨k, hkk, rfl, rfl⟩ := hrel
                have hvn := numV_take HDD.out k
                rw [HDV.out] at hvn
                have hv0 := (numV_bounds (l := ds.data.toList.take k) (fun x hx => HDD.out x (List.mem_of_mem_take hx))).1
                by_cases hlt : k < ds.size
                · have hkl : k < ds.data.toList.length := by rw [size_eq]; exact hlt
                  have hc := hba.cell k hkl
                  change w9.cell? _ = some (.int .u8 (bt ds k)) at hc
                  have hdg := HDD.out _ (List.getElem_mem hkl)
                  have hbk : ((ds.data.toList[k].toNat : Nat) : Int) = bt ds k := by
                    unfold bt
                    rw [List.getD_eq_getElem?_getD, List.getElem?_eq_getElem hkl]
                    rfl
                  rw [hbk] at hdg
                  obtain ⟨hd0, hd9⟩ := hdg
                  have HN := Lib.hid (show numV 10 (ds.data.toList.take (k + 1)) = 10 * numV 10 (ds.data.toList.take k) + (bt ds k - 48) by
                    rw [numV_at hlt, digV_val ⟨hd0, hd9⟩]
                    omega)
                  clear hbk
                  generalize numV 10 (ds.data.toList.take k) = nv at *
                  go_wp2
                  go_round
                  case rel => exact ⟨k + 1, by omega, by go_num, by rw [HN.out]⟩
                  case measure => simp [RowKit.intOf]; omega
                · obtain rfl : k = ds.size := by omega
                  have HZ := Lib.hid (show numV 10 (ds.data.toList.take ds.size) = n by rw [take_full, HDV.out])
                  rw [HZ.out]
                  go_wp2
                  go_ret
                  exact ⟨rfl, hbw9⟩
      · obtain ⟨rfl, rfl, hvv⟩ := HERR.out _ _ _ HFR.out hec
        have hne : (ec != 0) = true := by simpa using hec
        have hpl : 0 < vc.length + vt.length := by
          rcases hvv with h | h
          · have := pos_len h; omega
          · have := pos_len h; omega
        have hd : decide ((0 : Int) < (vc.length : Int) + (vt.length : Int)) = true := decide_eq_true (by omega)
        clear hec hvv
        go_wp2
        go_ret
        exact ⟨rfl, hbw4⟩
end Go.Proofs.YtamagbdkcfmfmaaDoor
