/-
  ParseLine, of the program: the walk.
-/
import Derived.Test.YtamagbdkcfmfmaaDoorOct
import Derived.Deep.DeepFit
namespace Go.Proofs.YtamagbdkcfmfmaaDoor
open Go.RowKit Go.Shelf Go.Lib

theorem Glob.alloc {w : World} (h : Glob w) (o : Obj) : Glob (w.alloc o) := h.beyond ((Below.refl w.heap.size w).alloc (Nat.le_refl _) o)
theorem Glob.setCell {w : World} (h : Glob w) {p : Addr} (hp : 2 ≤ p.block) (u : Value) : Glob (w.setCell p u) :=
  h.below (B := 2) ((Below.refl _ w).setCell hp u) (Nat.le_refl _)

theorem idx_blank {c : Int} (h0 : 0 ≤ c) (h1 : c < 256) : (blank c = true → 0 ≤ findB ⟨#[32, 9]⟩ c) ∧ (blank c = false → findB ⟨#[32, 9]⟩ c < 0) := by
  obtain ⟨n, rfl⟩ := Int.eq_ofNat_of_zero_le h0
  have key : ∀ n : Nat, n < 256 → (blank n = true → 0 ≤ findB ⟨#[32, 9]⟩ n) ∧ (blank n = false → findB ⟨#[32, 9]⟩ n < 0) := by decide +kernel
  exact key n (by omega)

def plVal (r : ByteArray × ByteArray × Int × Int) : Value := .tuple #[.agg #[.string r.1, .string r.2.1], .int .i64 r.2.2.1, .int .i64 r.2.2.2]

theorem IsToken_one (s : ByteArray) {i : Nat} (w : World) (hi : i < s.size) (_hs : s.size ≤ maxLen) (hg : Glob w) :
    Calls Tryd.prog 71 #[.string (s.extract i (i + 1))] w fun e w' => e = .returned (.bool (sign (bt s i))) ∧ w = w' := by
  rw [← isTok_one s hi]
  exact IsToken_any _ w (by unfold maxLen at *; rw [ext_size s (by omega) (by omega)]; omega) hg
theorem IsField_one (s : ByteArray) {i : Nat} (w : World) (hi : i < s.size) (_hs : s.size ≤ maxLen) :
    Calls Tryd.prog 72 #[.string (s.extract i (i + 1))] w fun e w' => e = .returned (.bool (inside (bt s i))) ∧ w = w' := by
  rw [← isFld_one s hi]
  exact IsField_any _ w (by unfold maxLen at *; rw [ext_size s (by omega) (by omega)]; omega)

/-- A box of two cells that the call laid, seen behind a callee that leaves old blocks alone. -/
theorem box2 {w w1 : World} {x y : Value} {t : TypeId} (h : Below (w.heap.size + 1) (w.alloc (.cells #[x, y] t)) w1) :
    (w1.cell? ⟨w.heap.size, 0, none⟩ = some x ∧ w1.cell? ⟨w.heap.size, 1, none⟩ = some y) ∧ (w1.frozen? ⟨w.heap.size, 0, none⟩ = false ∧ w1.frozen? ⟨w.heap.size, 1, none⟩ = false) ∧ w.heap.size < w1.heap.size := by
  refine ⟨⟨?_, ?_⟩, ⟨?_, ?_⟩, ?_⟩
  · rw [h.cell (p := ⟨w.heap.size, 0, none⟩) (by simp)]; simp
  · rw [h.cell (p := ⟨w.heap.size, 1, none⟩) (by simp)]; simp
  · rw [h.frozen (p := ⟨w.heap.size, 0, none⟩) (by simp)]; simp
  · rw [h.frozen (p := ⟨w.heap.size, 1, none⟩) (by simp)]; simp
  · have := h.size; simp at this; omega
theorem below_box {w w1 : World} {o : Obj} (h : Below (w.heap.size + 1) (w.alloc o) w1) : Below w.heap.size w w1 :=
  ((Below.refl w.heap.size w).alloc (Nat.le_refl _) o).trans (h.mono (by omega))

set_option maxRecDepth 20000 in
set_option maxHeartbeats 1000000 in
theorem ParseLine_any (s : ByteArray) (w : World) (hs : s.size ≤ maxLen) (hg : Glob w) :
    Calls Tryd.prog 18 #[.string s] w fun e w' => e = .returned (plVal (parseLine s)) ∧ Below w.heap.size w w' := by
  have HS := hs
  unfold maxLen at hs
  have hg1 : ∀ o, Glob (w.alloc o) := fun o => hg.alloc o
  by_cases hz : s.size = 0
  · have hp := pl_nocolon (s := s) (by omega) (by have := place_le s 58; omega)
    have hf : findB s 58 = -1 := by unfold findB; rw [if_pos (by have := place_le s 58; omega)]
    have HP := Lib.hid hp
    have HF := Lib.hid hf
    have he : s.toList.isEmpty = true := by rw [empty_eq]; simpa using hz
    clear hp hf hz
    go_enter Tryd.func18, Tryd.ntmps18
    go_wp2_with fail
    refine (IndexByte_any _ _ _ (by omega) (by omega)).mono ?_
    rintro e w' ⟨rfl, rfl⟩
    rw [HF.out]
    go_wp2
    exact bodyPost_ret (v := plVal ((⟨#[]⟩ : ByteArray), (⟨#[]⟩ : ByteArray), s.size, 62)) (by simp [results, Tryd.results18, go_sem, plVal]) rfl ⟨by rw [HP.out], by repeat (first | exact Below.refl _ _ | (refine Below.setCell ?_ (by simp) _) | (refine Below.alloc ?_ (by simp) _))⟩
  · have he : s.toList.isEmpty = false := by rw [empty_eq]; simpa using hz
    have h0 : 0 < s.size := by omega
    have hb0 := @bt_eq s 0 h0
    have hbl := idx_blank (bt_nonneg s 0) (bt_lt s 0)
    clear hz
    go_enter Tryd.func18, Tryd.ntmps18
    go_wp2_with fail
    refine (IndexByte_any _ _ _ (bt_nonneg s 0) (bt_lt s 0)).mono ?_
    rintro e w' ⟨rfl, rfl⟩
    cases hb : blank (bt s 0)
    · have hneg := hbl.2 hb
      have hnot : ¬ (0 < s.size ∧ blank (bt s 0) = true) := by rw [hb]; simp
      have HN := Lib.hid hnot
      clear hb hbl hnot
      go_wp2_with fail
      refine (IndexByte_any _ _ _ (by omega) (by omega)).mono ?_
      rintro e w' ⟨rfl, rfl⟩
      rcases findB_cases s 58 with ⟨hf, hp, _⟩ | ⟨k, hk, hf, hp, _, _⟩
      · rw [hf]
        have HP := Lib.hid (pl_nocolon HN.out hp)
        clear hf hp
        go_wp2
        exact bodyPost_ret (v := plVal ((⟨#[]⟩ : ByteArray), (⟨#[]⟩ : ByteArray), s.size, 62)) (by simp [results, Tryd.results18, go_sem, plVal]) rfl ⟨by rw [HP.out], by repeat (first | exact Below.refl _ _ | (refine Below.setCell ?_ (by simp) _) | (refine Below.alloc ?_ (by simp) _))⟩
      · rw [hf]
        have HP := Lib.hid hp
        clear hf hp
        by_cases hk0 : k = 0
        · subst hk0
          have HP' := Lib.hid (pl_zero HN.out h0 HP.out)
          go_wp2
          exact bodyPost_ret (v := plVal ((⟨#[]⟩ : ByteArray), (⟨#[]⟩ : ByteArray), 0, 60)) (by simp [results, Tryd.results18, go_sem, plVal]) rfl ⟨by rw [HP'.out], by repeat (first | exact Below.refl _ _ | (refine Below.setCell ?_ (by simp) _) | (refine Below.alloc ?_ (by simp) _))⟩
        · have hk1 : 0 < k := by omega
          have hkk : ((k : Int) == 0) = false := by simp; omega
          clear hk0
          go_wp2
          go_loop [33] (fun v => ∃ i : Nat, i ≤ k ∧ v = .int .i64 i ∧ Good (fun j => decide (j < 128) && sign (bt s j)) 0 i) (fun i => k - (RowKit.intOf i).toNat)
          case atStart => exact ⟨0, by omega, rfl, Good.zero _ _⟩
          case round =>
            obtain ⟨i, hi, rfl, hgood⟩ := hrel
            by_cases hik : i < k
            · by_cases hi128 : i < 128
              · cases hsg : sign (bt s i)
                · have HP' := Lib.hid (pl_name HN.out hk HP.out hik hgood (by rw [hsg]; simp))
                  go_wp2_with (go_at_call 71; refine (IsToken_one s _ (by omega) HS (hg1 _)).mono ?_; rw [hsg]; rintro e w' ⟨rfl, rfl⟩)
                  exact bodyPost_ret (v := plVal ((⟨#[]⟩ : ByteArray), (⟨#[]⟩ : ByteArray), (i : Int), 60)) (by simp [results, Tryd.results18, go_sem, plVal]) rfl ⟨by rw [HP'.out], by repeat (first | exact Below.refl _ _ | (refine Below.setCell ?_ (by simp) _) | (refine Below.alloc ?_ (by simp) _))⟩
                · go_wp2_with (go_at_call 71; refine (IsToken_one s _ (by omega) HS (hg1 _)).mono ?_; rw [hsg]; rintro e w' ⟨rfl, rfl⟩)
                  go_round
                  case rel => exact ⟨i + 1, by omega, by go_num, hgood.succ (by rw [hsg]; simpa using hi128)⟩
                  case measure => simp [RowKit.intOf]; omega
              · have HP' := Lib.hid (pl_name HN.out hk HP.out hik hgood (by rw [decide_eq_false hi128]; rfl))
                go_wp2
                exact bodyPost_ret (v := plVal ((⟨#[]⟩ : ByteArray), (⟨#[]⟩ : ByteArray), (i : Int), 60)) (by simp [results, Tryd.results18, go_sem, plVal]) rfl ⟨by rw [HP'.out], by repeat (first | exact Below.refl _ _ | (refine Below.setCell ?_ (by simp) _) | (refine Below.alloc ?_ (by simp) _))⟩
            · obtain rfl : k = i := by omega
              clear hik hi hkk
              go_wp2
              go_loop [7] (fun v => ∃ i : Nat, k + 1 ≤ i ∧ i ≤ s.size ∧ v = .int .i64 i ∧ Good (fun j => inside (bt s j)) (k + 1) i) (fun i => s.size - (RowKit.intOf i).toNat)
              case atStart => exact ⟨k + 1, by omega, by omega, by go_num, Good.zero _ _⟩
              case round =>
                obtain ⟨i, hki, hi, rfl, hin⟩ := hrel
                by_cases his : i < s.size
                · cases hsg : inside (bt s i)
                  · have HP' := Lib.hid (pl_value HN.out hk hk1 HP.out hgood hki his hin hsg)
                    go_wp2_with (go_at_call 72; refine (IsField_one s _ (by omega) HS).mono ?_; rw [hsg]; rintro e w' ⟨rfl, rfl⟩)
                    exact bodyPost_ret (v := plVal ((⟨#[]⟩ : ByteArray), (⟨#[]⟩ : ByteArray), (i : Int), 61)) (by simp [results, Tryd.results18, go_sem, plVal]) rfl ⟨by rw [HP'.out], by repeat (first | exact Below.refl _ _ | (refine Below.setCell ?_ (by simp) _) | (refine Below.alloc ?_ (by simp) _))⟩
                  · go_wp2_with (go_at_call 72; refine (IsField_one s _ (by omega) HS).mono ?_; rw [hsg]; rintro e w' ⟨rfl, rfl⟩)
                    go_round
                    case rel => exact ⟨i + 1, by omega, by omega, by go_num, hin.succ hsg⟩
                    case measure => simp [RowKit.intOf]; omega
                · obtain rfl : i = s.size := by omega
                  have hrs := ext_size s (a := k + 1) (b := s.size) (by omega) (by omega)
                  have hts := trim_size (s.extract (k + 1) s.size)
                  have htl := trimL_size (s.extract (k + 1) s.size)
                  have htu := trim_le_trimL (s.extract (k + 1) s.size)
                  have HL := Lib.hid (pl_long HN.out hk hk1 HP.out hgood hin)
                  have HO := Lib.hid (pl_ok HN.out hk hk1 HP.out hgood hin)
                  have hr1 : (s.extract (k + 1) s.size).size ≤ s.size := by omega
                  have hTrim := fun w => Trim_any (s.extract (k + 1) s.size) w (by unfold maxLen; omega)
                  have hTrimL := fun w => TrimLeft_blanks (s.extract (k + 1) s.size) w
                  rw [hrs] at hts htl
                  have HRS := Lib.hid hrs
                  clear hrs his hki hi hgood hin
                  generalize trim (s.extract (k + 1) s.size) = v at *
                  generalize trimL (s.extract (k + 1) s.size) = u at *
                  have HTrim := Lib.hid hTrim
                  have HTrimL := Lib.hid hTrimL
                  clear hTrim hTrimL
                  go_wp2_with fail
                  refine (HTrim.out _).mono ?_
                  rintro e w1 ⟨rfl, hb1⟩
                  obtain ⟨⟨hc0, hc1⟩, ⟨hf0, hf1⟩, hsz⟩ := box2 (by simpa using hb1)
                  have hbw : Below w.heap.size w w1 := below_box (by simpa using hb1)
                  clear hb1
                  rcases Nat.lt_or_ge 8192 v.size with hlong | hlong
                  · have HP' := Lib.hid (HL.out hlong)
                    clear HL HO HTrim
                    go_wp2_with fail
                    refine (HTrimL.out _).mono ?_
                    rintro e w2 ⟨rfl, hb2⟩
                    have hd0 := hb2.cell (p := ⟨w.heap.size, 0, none⟩) hsz
                    have hd1 := hb2.cell (p := ⟨w.heap.size, 1, none⟩) hsz
                    have he0 := hb2.frozen (p := ⟨w.heap.size, 0, none⟩) hsz
                    have he1 := hb2.frozen (p := ⟨w.heap.size, 1, none⟩) hsz
                    rw [hc0] at hd0
                    rw [hc1] at hd1
                    rw [hf0] at he0
                    rw [hf1] at he1
                    have hbw2 : Below w.heap.size w w2 := hbw.trans (hb2.mono hbw.size)
                    have hsz2 : w.heap.size < w2.heap.size := Nat.lt_of_lt_of_le hsz hb2.size
                    clear hc0 hc1 hf0 hf1 hsz hb2 hbw
                    go_wp2
                    exact bodyPost_ret (v := plVal ((⟨#[]⟩ : ByteArray), (⟨#[]⟩ : ByteArray), (k : Int) + 1 + (((s.size - (k + 1) : Nat) : Int) - (u.size : Int)) + 8192, 61)) (by simp [results, Tryd.results18, go_sem, plVal, hd0, hd1]) rfl ⟨by rw [HP'.out, HRS.out], (hbw2.setCell (Nat.le_refl _) _).setCell (Nat.le_refl _) _⟩
                  · have HP' := Lib.hid (HO.out (by omega))
                    clear HL HO HTrim HTrimL
                    go_wp2
                    exact bodyPost_ret (v := plVal (s.extract 0 k, v, 0, 0)) (by simp [results, Tryd.results18, go_sem, plVal, hc0, hc1]) rfl ⟨by rw [HP'.out], by repeat (first | exact hbw | (refine Below.setCell ?_ (by simp) _) | (refine Below.alloc ?_ (by simp) _))⟩
    · have hpos := hbl.1 hb
      have HP := Lib.hid (pl_blank h0 hb)
      clear hb hbl
      go_wp2
      exact bodyPost_ret (v := plVal ((⟨#[]⟩ : ByteArray), (⟨#[]⟩ : ByteArray), 0, 63)) (by simp [results, Tryd.results18, go_sem, plVal]) rfl ⟨by rw [HP.out], by repeat (first | exact Below.refl _ _ | (refine Below.setCell ?_ (by simp) _) | (refine Below.alloc ?_ (by simp) _))⟩
end Go.Proofs.YtamagbdkcfmfmaaDoor
