/-
  The walk of RadixBegins.
-/
import Derived.Test.YtkhgnfofinpofaaRxFd
import Derived.Test.YtkhgnfofinpofaaRxBg
namespace Go.Proofs.Ytkhgnfofinpofaa
open Go.RowKit Go.Shelf Go.Lib

set_option maxRecDepth 20000 in
set_option maxHeartbeats 4000000 in
theorem Begins_good (s : ByteArray) (w : World) (hk : s.size ≤ 1048576) (hg : Glob w) (h : checkP s = (0, 0)) :
    Calls Try.prog 4 #[.string s] w fun e w' => e = .returned (.bool true) ∧ Below w.heap.size w w' := by
  have HC := Lib.hid (fun w => Check_any s w (by omega))
  rw [h] at HC
  unfold chkVal at HC
  dsimp only at HC
  have HG := Lib.hid hg
  clear hg h
  go_enter Try.func4, Try.ntmps4
  go_wp2_with fail
  refine (HC.out _).mono ?_
  rintro e w1 ⟨rfl, b1⟩
  go_wp2_with fail
  refine (awake_any _ (HG.out.beyond b1)).mono ?_
  rintro e w2 ⟨rfl, b2⟩
  have B2 := b1.trans (b2.mono b1.size)
  clear b1 b2
  go_wp2
  go_ret
  exact ⟨rfl, B2⟩
set_option maxRecDepth 20000 in
set_option maxHeartbeats 4000000 in
theorem Begins_long (s : ByteArray) (w : World) (hk : s.size ≤ 1048576) (hg : Glob w) (m : Int) (h : checkP s = (m, 130)) (hl : 400 < s.size) :
    Calls Try.prog 4 #[.string s] w fun e w' => e = .returned (.bool true) ∧ Below w.heap.size w w' := by
  have HC := Lib.hid (fun w => Check_any s w (by omega))
  rw [h] at HC
  unfold chkVal at HC
  dsimp only at HC
  have HG := Lib.hid hg
  have hlI : (400 : Int) < (s.size : Int) := by omega
  clear hg h
  go_enter Try.func4, Try.ntmps4
  go_wp2_with fail
  refine (HC.out _).mono ?_
  rintro e w1 ⟨rfl, b1⟩
  go_wp2_with fail
  refine (awake_any _ (HG.out.beyond b1)).mono ?_
  rintro e w2 ⟨rfl, b2⟩
  have B2 := b1.trans (b2.mono b1.size)
  clear b1 b2
  go_wp2
  go_ret
  exact ⟨rfl, B2⟩
theorem chkb_no {s : ByteArray} (h : (splitP s).2.2 = false) : (checkP s).2 = 130 := by
  unfold checkP
  generalize splitP s = r at *
  obtain ⟨l, p, g⟩ := r
  dsimp only at h
  subst h
  rfl
theorem chkb_yes {s : ByteArray} (h : (splitP s).2.2 = true) : checkP s = (0, 0) := by
  unfold checkP
  generalize splitP s = r at *
  obtain ⟨l, p, g⟩ := r
  dsimp only at h
  subst h
  rfl
def sevenL (ql : ByteArray) : List ByteArray := [⟨#[]⟩, ⟨#[47]⟩, ⟨#[49]⟩, ⟨#[49, 49]⟩, ql, ⟨#[49]⟩ ++ ql, ⟨#[49, 49]⟩ ++ ql]
theorem seven_L (n : Nat) : sevenP n = sevenL (qs n) := rfl
/-- One of so many ends makes the text a right one. -/
def goodTo (x : ByteArray) (L : List ByteArray) (k : Nat) : Bool := (L.take k).any fun e => (splitP (x ++ e)).2.2
set_option maxRecDepth 20000 in
set_option maxHeartbeats 4000000 in
theorem Begins_wrong (s : ByteArray) (w : World) (hk : s.size ≤ 400) (hg : Glob w) (m : Nat) (h : checkP s = ((m : Int), 130)) (hm : m ≤ s.size)
    (hsome : ∃ (i : Nat) (e : ByteArray), (sevenP (s.size + 1))[i]? = some e ∧ (splitP (s.extract 0 m ++ e)).2.2 = true)
    (hnone : m < s.size → ∀ e : ByteArray, e.size ≤ 500 → (splitP (s.extract 0 (m + 1) ++ e)).2.2 = false) :
    Calls Try.prog 4 #[.string s] w fun e w' => e = .returned (.bool true) ∧ Below w.heap.size w w' := by
  have HC := Lib.hid (fun w => Check_any s w (by omega))
  rw [h] at HC
  unfold chkVal at HC
  dsimp only at HC
  have HG := Lib.hid hg
  have HS := Lib.hid hsome
  have HN := Lib.hid hnone
  have hlI : ¬ (400 : Int) < (s.size : Int) := by omega
  have hmI : ¬ (m : Int) < 0 := by omega
  have hmS : ¬ (s.size : Int) < (m : Int) := by omega
  clear hg h hsome hnone
  go_enter Try.func4, Try.ntmps4
  go_wp2_with fail
  refine (HC.out _).mono ?_
  rintro e w1 ⟨rfl, b1⟩
  go_wp2
  go_loopw [5, 6] (fun v i wr => ∃ k : Nat, i = .int .i64 (k : Int) ∧ v = .string (qs k) ∧ k ≤ s.size + 1 ∧ wr = w1) (fun _ i _ => s.size + 1 - (RowKit.intOf i).toNat)
  case atStart => exact ⟨0, rfl, rfl, by omega, rfl⟩
  case round =>
    obtain ⟨k, rfl, rfl, hk1, rfl⟩ := hrel
    by_cases hlt : k ≤ s.size
    · have hkI : (k : Int) ≤ (s.size : Int) := by omega
      have hqz := qs_size k
      have HQ := Lib.hid (qs_succ k)
      go_wp2
      go_roundw
      case rel => exact ⟨k + 1, by go_num, by rw [← HQ.out], by omega, by first | rfl | trivial⟩
      case measure => simp [RowKit.intOf]; omega
    · obtain rfl : k = s.size + 1 := by omega
      obtain ⟨w1, rfl⟩ : ∃ w1 : World, w1 = wr := ⟨_, rfl⟩
      have hkI : ¬ ((s.size + 1 : Nat) : Int) ≤ (s.size : Int) := by omega
      have hqz : (qs (s.size + 1)).size ≤ 402 := by rw [qs_size]; omega
      have hso := HS.out
      rw [seven_L] at hso
      have HS7 := Lib.hid hso
      clear HS hso
      generalize qs (s.size + 1) = ql at *
      go_wp2
      have hrow : Row (w1.alloc (.cells #[.string ⟨#[]⟩, .string ⟨#[47]⟩, .string ⟨#[49]⟩, .string ⟨#[49, 49]⟩, .string ql, .string (⟨#[49]⟩ ++ ql), .string (⟨#[49, 49]⟩ ++ ql)] 9)) (some ⟨w1.heap.size, 0, none⟩) ((sevenL ql).map .string) := row_newc w1 _ 9 rfl
      have hb2 := b1.alloc b1.size (.cells #[.string ⟨#[]⟩, .string ⟨#[47]⟩, .string ⟨#[49]⟩, .string ⟨#[49, 49]⟩, .string ql, .string (⟨#[49]⟩ ++ ql), .string (⟨#[49, 49]⟩ ++ ql)] 9)
      have hsz : w1.heap.size < (w1.alloc (.cells #[.string ⟨#[]⟩, .string ⟨#[47]⟩, .string ⟨#[49]⟩, .string ⟨#[49, 49]⟩, .string ql, .string (⟨#[49]⟩ ++ ql), .string (⟨#[49, 49]⟩ ++ ql)] 9)).heap.size := by simp
      generalize w1.alloc (.cells #[.string ⟨#[]⟩, .string ⟨#[47]⟩, .string ⟨#[49]⟩, .string ⟨#[49, 49]⟩, .string ql, .string (⟨#[49]⟩ ++ ql), .string (⟨#[49, 49]⟩ ++ ql)] 9) = w2 at *
      have HROW := Lib.hid hrow
      have hlen : (sevenL ql).length = 7 := rfl
      have HLZ : Hid (∀ e ∈ sevenL ql, e.size ≤ 404) := Lib.hid (fun e he => by
        unfold sevenL at he
        simp at he
        rcases he with rfl | rfl | rfl | rfl | rfl | rfl | rfl
        · decide
        · decide
        · decide
        · decide
        · omega
        · rw [ByteArray.size_append]; show 1 + ql.size ≤ 404; omega
        · rw [ByteArray.size_append]; show 2 + ql.size ≤ 404; omega)
      have HL7 := Lib.hid hlen
      clear hrow hlen hqz hkI hlt hk1
      generalize sevenL ql = L7 at *
      go_loopw [8, 9] (fun g i wr => ∃ j : Nat, j ≤ 7 ∧ i = .int .i64 (j : Int) ∧ g = .bool (goodTo (s.extract 0 m) L7 j) ∧ Below w2.heap.size w2 wr) (fun _ i _ => 7 - (RowKit.intOf i).toNat)
      case atStart => exact ⟨0, by omega, rfl, rfl, Below.refl _ _⟩
      case round =>
        obtain ⟨j, hj, rfl, rfl, hbw⟩ := hrel
        have hbe := hb2.trans (hbw.mono hb2.size)
        by_cases hjl : j < 7
        · obtain ⟨e, he⟩ : ∃ e, L7[j]? = some e := ⟨_, List.getElem?_eq_getElem (by have := HL7.out; omega)⟩
          have hez := HLZ.out e (List.mem_of_getElem? he)
          obtain ⟨b, off, hA, hb, hc⟩ := (HROW.out.below hbw).at_ (show (L7.map Value.string)[j]? = some (.string e) by rw [List.getElem?_map, he]; rfl)
          cases hA
          have hc0 := hc j _ (show (L7.map Value.string)[j]? = some (.string e) by rw [List.getElem?_map, he]; rfl)
          have hjI : (j : Int) < 7 := by omega
          have hgs := Lib.hid (show goodTo (s.extract 0 m) L7 (j + 1) = (goodTo (s.extract 0 m) L7 j || (splitP (s.extract 0 m ++ e)).2.2) by
            unfold goodTo
            rw [take_snoc he, List.any_append]
            simp)
          have hxz := ext_size s (a := 0) (b := m) (by omega) hm
          simp only [Nat.zero_add] at hc0
          have HCK := Lib.hid (fun W => Check_any (s.extract 0 m ++ e) W (by rw [ByteArray.size_append]; omega))
          have hno := @chkb_no (s.extract 0 m ++ e)
          have hyes := @chkb_yes (s.extract 0 m ++ e)
          unfold chkVal at HCK
          obtain ⟨g, hg⟩ : ∃ g, g = (splitP (s.extract 0 m ++ e)).2.2 := ⟨_, rfl⟩
          rw [← hg] at hgs hno hyes
          clear hg
          obtain ⟨⟨p, er⟩, hck⟩ : ∃ r, r = checkP (s.extract 0 m ++ e) := ⟨_, rfl⟩
          rw [← hck] at HCK hno hyes
          dsimp only at HCK hno
          clear hck
          have her : (er == 0) = g := by
            cases g
            · rw [hno rfl]; rfl
            · have := hyes rfl
              rw [show er = 0 from congrArg Prod.snd this]; rfl
          have q1 : ¬ 9223372036854775807 < m + e.size := by omega
          have HSB := Lib.hid (fun (W : World) (h : Below wr.heap.size wr W) => (h.cell (p := ⟨w1.heap.size, j, none⟩) hb).trans hc0)
          have hms := hmI
          clear hno hyes he hc hxz
          by_cases hmore : m < s.size
          · have hnv := HN.out hmore e (by omega)
            have hno2 := @chkb_no (s.extract 0 (m + 1) ++ e) hnv
            have hxz2 := ext_size s (a := 0) (b := m + 1) (by omega) (by omega)
            have HCN := Lib.hid (fun W => Check_any (s.extract 0 (m + 1) ++ e) W (by rw [ByteArray.size_append]; omega))
            unfold chkVal at HCN
            obtain ⟨⟨p2, er2⟩, hck⟩ : ∃ r, r = checkP (s.extract 0 (m + 1) ++ e) := ⟨_, rfl⟩
            rw [← hck] at HCN hno2
            dsimp only at HCN hno2
            obtain rfl : er2 = 130 := hno2
            clear hck hnv hxz2
            have hmI2 : (m : Int) < (s.size : Int) := by omega
            have hw1 : IntKind.i64.wrap ((m : Int) + 1) = (m : Int) + 1 := by rw [IntKind.wrap_i64]; omega
            have hw2 : (0 : Int) ≤ (m : Int) + 1 := by omega
            have hw3 : ((m : Int) + 1).toNat = m + 1 := by omega
            have hw4 : (m : Int) + 1 ≤ (s.size : Int) := by omega
            have q2 : ¬ 9223372036854775807 < (m + 1) + e.size := by omega
            have q3 : ¬ 9223372036854775807 < min (m + 1) s.size + e.size := by omega
            clear hmore
            cases g
            · go_wp2_with fail
              go_region_held3 (fun w' => w'.cell? ⟨w1.heap.size, j, none⟩ = some (.string e)) (first | assumption | go_keep | exact HSB.out _ ((below_drew (Below.refl _ _)).trans b3)) ((go_at_call 19; (with_reducible refine (HCK.out _).mono ?_); rintro e' w3 ⟨rfl, b3⟩))
              have b4 : Below wr.heap.size wr w3 := (below_drew (Below.refl _ _)).trans b3
              have HC4 := Lib.hid (HSB.out w3 b4)
              clear b3 hc0 HCK
              have hc4 := HC4.out
              go_wp2_with fail
              go_region_held3 (fun w' => w'.cell? ⟨w1.heap.size, j, none⟩ = some (.string e)) (first | assumption | go_keep | exact HSB.out _ (b4.trans (b5.mono b4.size)) | exact HSB.out _ ((below_drew b4).trans (b5.mono b4.size))) ((go_at_call 19; (with_reducible refine (HCN.out _).mono ?_); rintro e' w5 ⟨rfl, b5⟩))
              have b6 : Below wr.heap.size wr w5 := b4.trans ((below_drew (Below.refl _ _)).trans b5 |>.mono b4.size)
              have hbF := hbw.trans (b6.mono hbw.size)
              go_wp2
              go_roundw
              case rel => exact ⟨j + 1, by omega, by go_num, by rw [hgs.out]; simp, hbF⟩
              case measure => simp [RowKit.intOf]; omega
            · go_wp2_with fail
              go_region_held3 (fun w' => w'.cell? ⟨w1.heap.size, j, none⟩ = some (.string e)) (first | assumption | go_keep | exact HSB.out _ ((below_drew (Below.refl _ _)).trans b3)) ((go_at_call 19; (with_reducible refine (HCK.out _).mono ?_); rintro e' w3 ⟨rfl, b3⟩))
              have b4 : Below wr.heap.size wr w3 := (below_drew (Below.refl _ _)).trans b3
              have HC4 := Lib.hid (HSB.out w3 b4)
              clear b3 hc0 HCK
              have hc4 := HC4.out
              go_wp2_with fail
              go_region_held3 (fun w' => w'.cell? ⟨w1.heap.size, j, none⟩ = some (.string e)) (first | assumption | go_keep | exact HSB.out _ (b4.trans (b5.mono b4.size)) | exact HSB.out _ ((below_drew b4).trans (b5.mono b4.size))) ((go_at_call 19; (with_reducible refine (HCN.out _).mono ?_); rintro e' w5 ⟨rfl, b5⟩))
              have b6 : Below wr.heap.size wr w5 := b4.trans ((below_drew (Below.refl _ _)).trans b5 |>.mono b4.size)
              have hbF := hbw.trans (b6.mono hbw.size)
              go_wp2
              go_roundw
              case rel => exact ⟨j + 1, by omega, by go_num, by rw [hgs.out]; simp, hbF⟩
              case measure => simp [RowKit.intOf]; omega
          · have hmI2 : ¬ (m : Int) < (s.size : Int) := by omega
            clear hmore
            cases g
            · go_wp2_with fail
              go_region_held3 (fun w' => w'.cell? ⟨w1.heap.size, j, none⟩ = some (.string e)) (first | assumption | go_keep | exact HSB.out _ ((below_drew (Below.refl _ _)).trans b3)) ((go_at_call 19; (with_reducible refine (HCK.out _).mono ?_); rintro e' w3 ⟨rfl, b3⟩))
              have b4 : Below wr.heap.size wr w3 := (below_drew (Below.refl _ _)).trans b3
              clear b3 hc0 HCK
              have hbF := hbw.trans (b4.mono hbw.size)
              go_wp2
              go_roundw
              case rel => exact ⟨j + 1, by omega, by go_num, by rw [hgs.out]; simp, hbF⟩
              case measure => simp [RowKit.intOf]; omega
            · go_wp2_with fail
              go_region_held3 (fun w' => w'.cell? ⟨w1.heap.size, j, none⟩ = some (.string e)) (first | assumption | go_keep | exact HSB.out _ ((below_drew (Below.refl _ _)).trans b3)) ((go_at_call 19; (with_reducible refine (HCK.out _).mono ?_); rintro e' w3 ⟨rfl, b3⟩))
              have b4 : Below wr.heap.size wr w3 := (below_drew (Below.refl _ _)).trans b3
              clear b3 hc0 HCK
              have hbF := hbw.trans (b4.mono hbw.size)
              go_wp2
              go_roundw
              case rel => exact ⟨j + 1, by omega, by go_num, by rw [hgs.out]; simp, hbF⟩
              case measure => simp [RowKit.intOf]; omega
        · obtain rfl : j = 7 := by omega
          have HV := Lib.hid (show goodTo (s.extract 0 m) L7 7 = true by
            obtain ⟨i, e, he, hg⟩ := HS7.out
            unfold goodTo
            rw [List.take_of_length_le (by have := HL7.out; omega)]
            exact List.any_eq_true.2 ⟨e, List.mem_of_getElem? he, hg⟩)
          rw [HV.out]
          go_wp2_with fail
          refine (awake_any _ (HG.out.beyond hbe)).mono ?_
          rintro e w4 ⟨rfl, b4⟩
          go_wp2
          go_ret
          exact ⟨rfl, hbe.trans (b4.mono hbe.size)⟩
theorem RadixBegins_walk (s : ByteArray) (w : World) (_hs : s.size ≤ maxLen) (hk : s.size ≤ 1048576) (hg : Glob w) :
    Calls Try.prog 4 #[.string s] w fun e w' => e = .returned (.bool true) ∧ Below w.heap.size w w' := by
  cases hgd : (splitP s).2.2
  · have hc : checkP s = (((splitP s).2.1 : Int), 130) := by
      unfold checkP chkR
      rw [if_neg (by rw [hgd]; simp)]
    by_cases hl : 400 < s.size
    · exact Begins_long s w hk hg _ hc hl
    · have hr : (splitP s).2 = ((splitP s).2.1, false) := Prod.ext rfl hgd
      have hm : (splitP s).2.1 ≤ s.size := by
        have h1 := (readP_spec s).1 (by rw [← split_short (by omega)]; exact hgd)
        rw [split_short (by omega)]
        exact h1.1
      exact Begins_wrong s w (by omega) hg _ hc hm (begins_some (by omega) hr) (fun h e he => begins_none (by omega) hr h e he)
  · exact Begins_good s w hk hg (chkb_yes hgd)
end Go.Proofs.Ytkhgnfofinpofaa
