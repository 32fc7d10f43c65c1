/-
  Numbers written in digits: the walks of the program's and the references' functions.
-/
import Derived.Test.YtdipogmlpmkgcaaGreatDoorAppend
import Derived.Lib.ItoaNum
import Derived.Lib.ItoaLen
import Derived.Lib.LaidTab
import Derived.Lib.AppendIntMem
namespace Go.Proofs.YtdipogmlpmkgcaaGreatDoor
open Go.RowKit Go.Shelf Go.Lib

theorem gPow : Tryz.prog.globalNamed "internal/strconv.uint64pow10" = some 1 := by kernel_rfl
theorem tab_below {P : Program} {w w' : World} {name : String} {k : IntKind} {zs : List Int} {g B : Nat} (h : Lib.TabIs P w name k zs) (hg : P.globalNamed name = some g) (hb : Below B w w') (hB : g < B) : Lib.TabIs P w' name k zs := by
  unfold Lib.TabIs World.var? at *
  rw [hg] at h ⊢
  simp only [Option.bind_some] at h ⊢
  rw [hb.block g hB]
  exact h
/-- The package-level variables, the table of powers too. -/
structure GlobC (w : World) : Prop where
  g : Glob w
  pow : Lib.TabIs Tryz.prog w "internal/strconv.uint64pow10" .u64 Lib.pow10Tab
theorem GlobC.beyond {w w' : World} (h : GlobC w) (hb : Below w.heap.size w w') : GlobC w' := ⟨h.g.beyond hb, tab_below h.pow gPow hb (Nat.lt_of_lt_of_le (by decide) h.g.size)⟩
def byteV (b : UInt8) : Value := .int .u8 (b.toNat : Int)
theorem byteV_cells (l : List UInt8) : l.map byteV = Lib.byteCells l := rfl
theorem bytes_oneCell (l : List UInt8) : ∀ u ∈ l.map byteV, u.oneCell' = true := by
  intro u hu
  obtain ⟨b, _, rfl⟩ := List.mem_map.1 hu
  rfl
theorem info_byte : (Tryz.prog.info? 5).map (fun i => (i.zero, i.size, i.bytes)) = some (some (.int .u8 0), 1, 1) := by kernel_rfl
/-- A row of bytes that a call owns. -/
def OwnB (w : World) (base : Nat) (v : Value) (l : List UInt8) : Prop := w.ownsRow base 5 1 v l.length (l.map byteV)
theorem OwnB.conv {w : World} {base : Nat} {v : Value} {l : List UInt8} (h : OwnB w base v l) : (convert 56 9 v).run Tryz.prog w = .ok (.string ⟨l.toArray⟩) w := by
  obtain ⟨A, c, rfl⟩ := own_slice h
  rcases h.2 with ⟨h1, h2⟩ | ⟨g, cap, cur, h1, _⟩
  · simp only [Value.slice.injEq] at h1
    obtain ⟨h1, h3, h4⟩ := h1
    have hl : l = [] := List.eq_nil_of_length_eq_zero h3
    subst hl
    rw [h1]
    have := run_convert_bytes_nil (P := Tryz.prog) w 56 5 Tryz.underlying56 Tryz.underlying5 0 c 9 Tryz.underlying9
    exact this
  · simp only [Value.slice.injEq] at h1
    obtain ⟨h1, h3, h4⟩ := h1
    subst h1
    have hc := h.cells (g := g) rfl
    have hB : BytesAt w g l := ⟨fun i hi => by
      have h6 := hc i (byteV l[i]) (by rw [List.getElem?_map, List.getElem?_eq_getElem hi]; rfl)
      have e : (⟨g, 0, none⟩ : Addr).add i = ⟨g, i, none⟩ := by
        unfold Addr.add
        split
        · rename_i h0; rw [h0]
        · simp
      rw [e] at h6
      rw [h6, List.getD_eq_getElem?_getD, List.getElem?_eq_getElem hi]
      rfl, fun i _ => h.frozenAt i⟩
    exact hB.conv Tryz.underlying56 Tryz.underlying5 Tryz.underlying9 c
def itoaT (n : Int) : ByteArray := ⟨(Lib.itoa n).toArray⟩
theorem Digits_any (n : Int) (w : World) (h0 : -9223372036854775808 ≤ n) (h1 : n ≤ 9223372036854775807) (hg : GlobC w) :
    Calls Tryz.prog 13 #[.int .i64 n] w fun e w' => e = .returned (.string (itoaT n)) ∧ Below w.heap.size w w' := by
  have HI : Calls Tryz.prog 21 #[.int .i64 n] w fun e w' => e = .returned (.string (itoaT n)) ∧ Below w.heap.size w w' := (Tryz.strconv_Itoa n h0 h1 w hg.pow).mono fun e w' ⟨he, k, os, hw⟩ => ⟨he, by rw [hw]; exact Lib.below_grow _ _ (Nat.le_refl _) k os⟩
  have HI := Lib.hid HI
  go_enter Tryz.func13, Tryz.ntmps13
  go_wp2_with fail
  refine HI.out.mono ?_
  rintro e w' ⟨rfl, hb⟩
  go_wp2
  go_ret
  exact ⟨rfl, hb⟩
def digsOf (m : Nat) : List UInt8 := if m = 0 then [] else Lib.decDigits m
theorem digsOf_step {m : Nat} (h : m ≠ 0) : digsOf m = digsOf (m / 10) ++ [UInt8.ofNat (48 + m % 10)] := by
  unfold digsOf
  rw [if_neg h]
  by_cases h10 : m < 10
  · rw [if_pos (by omega), Lib.decDigits_one h10, Nat.mod_eq_of_lt h10]
    rfl
  · rw [if_neg (by omega), Lib.decDigits, dif_neg h10]
theorem cat_data (b : UInt8) (l : List UInt8) : ((⟨#[b]⟩ : ByteArray) ++ (⟨l.toArray⟩ : ByteArray)).data.toList = b :: l := by
  rw [ByteArray.data_append]
  simp
theorem conv_one (w : World) (v : Int) (h0 : 0 ≤ v) (h1 : v < 256) : (convert 56 9 (.slice (some ⟨w.heap.size, 0, none⟩) 1 1)).run Tryz.prog (w.alloc (.cells #[.int .u8 v] 5)) = .ok (.string ⟨#[UInt8.ofNat v.toNat]⟩) (w.alloc (.cells #[.int .u8 v] 5)) := by
  have e : (Value.int .u8 v) = byteV (UInt8.ofNat v.toNat) := by
    unfold byteV
    rw [UInt8.toNat_ofNat']
    congr 1
    omega
  rw [e]
  have h : OwnB (w.alloc (.cells #[byteV (UInt8.ofNat v.toNat)] 5)) w.heap.size (.slice (some ⟨w.heap.size, 0, none⟩) 1 1) [UInt8.ofNat v.toNat] := World.ownsRow_lit w #[byteV (UInt8.ofNat v.toNat)] 1 (Nat.le_refl _) (by unfold maxLen; omega) rfl
  exact h.conv
set_option maxRecDepth 20000 in
set_option maxHeartbeats 2000000 in
theorem rDigits_pos (n : Nat) (w : World) (h1 : (n : Int) ≤ 9223372036854775807) :
    Calls Tryz.prog 15 #[.int .i64 (n : Int)] w fun e w' => e = .returned (.string (itoaT n)) ∧ Below w.heap.size w w' := by
  have hI : itoaT (n : Int) = ⟨(Lib.decDigits n).toArray⟩ := by unfold itoaT Lib.itoa; rw [if_neg (by omega)]; rfl
  have HI := Lib.hid hI
  clear hI
  by_cases hz : n = 0
  · subst hz
    have hZ := Lib.hid (show itoaT ((0 : Nat) : Int) = ⟨#[48]⟩ by rw [HI.out, Lib.decDigits_one (by omega)]; rfl)
    rw [show ((0 : Nat) : Int) = 0 from rfl] at *
    go_enter Tryz.func15, Tryz.ntmps15
    go_wp2
    go_ret
    exact ⟨ret_str hZ.out.symm, Below.refl _ _⟩
  · have hne : ((n : Int) == 0) = false := by simpa using hz
    have hneg : decide ((n : Int) < 0) = false := decide_eq_false (by omega)
    have HD := Lib.hid (show digsOf n = Lib.decDigits n by unfold digsOf; rw [if_neg hz])
    clear hz
    go_enter Tryz.func15, Tryz.ntmps15
    go_wp2
    go_loopw [0, 4] (fun v o wr => ∃ (m : Nat) (out : List UInt8), m ≤ n ∧ v = .int .i64 (m : Int) ∧ o = .string ⟨out.toArray⟩ ∧ digsOf m ++ out = Lib.decDigits n ∧ Below w.heap.size w wr) (fun v _ _ => (RowKit.intOf v).toNat)
    case atStart => exact ⟨n, [], Nat.le_refl _, rfl, rfl, by rw [List.append_nil]; exact HD.out, Below.refl _ _⟩
    case round =>
      obtain ⟨m, out, hmn, rfl, rfl, hout, hbw⟩ := hrel
      have hol : out.length ≤ 20 := by
        have h2 := congrArg List.length hout
        rw [List.length_append, Lib.decDigits_length] at h2
        have := Lib.nDigits_le20 n (by omega)
        omega
      have HO := Lib.hid hout
      clear hout
      by_cases hm : m = 0
      · have hne2 : ((m : Int) != 0) = false := by simpa using hm
        have HZ := Lib.hid (show out = Lib.decDigits n by have h := HO.out; rw [hm] at h; exact h)
        clear hm
        go_wp2
        go_ret
        exact ⟨ret_str (by rw [HI.out, HZ.out]), hbw⟩
      · have hne2 : ((m : Int) != 0) = true := by simpa using hm
        have hm0 : 0 ≤ (m : Int) := by omega
        have hr0 : 0 ≤ (m : Int) % 10 := by omega
        have hr1 : (m : Int) % 10 < 10 := by omega
        have hcv := conv_one wr (48 + (m : Int) % 10) (by omega) (by omega)
        have hw8 : IntKind.u8.wrap (48 + (m : Int) % 10) = 48 + (m : Int) % 10 := IntWalk.u8_in _ (by omega)
        have hb48 : UInt8.ofNat (48 + (m : Int) % 10).toNat = UInt8.ofNat (48 + m % 10) := by rw [show (48 + (m : Int) % 10).toNat = 48 + m % 10 by omega]
        have HS := Lib.hid (show digsOf (m / 10) ++ ((UInt8.ofNat (48 + (m : Int) % 10).toNat) :: out) = Lib.decDigits n by rw [hb48, ← HO.out, digsOf_step hm]; simp)
        have hmd : m / 10 < m := by omega
        clear hm hb48
        generalize UInt8.ofNat (48 + (m : Int) % 10).toNat = b at *
        go_wp2
        go_roundw
        case rel => exact ⟨m / 10, b :: out, by omega, by rw [Int.natCast_ediv]; rfl, congrArg Value.string (bytes_ext (cat_data b out)), HS.out, hbw.alloc hbw.size _⟩
        case measure => simp [RowKit.intOf]; omega
set_option maxRecDepth 20000 in
set_option maxHeartbeats 2000000 in
theorem rDigits_neg (n : Nat) (w : World) (h0 : 0 < n) (h1 : (n : Int) ≤ 9223372036854775808) :
    Calls Tryz.prog 15 #[.int .i64 (-(n : Int))] w fun e w' => e = .returned (.string (itoaT (-(n : Int)))) ∧ Below w.heap.size w w' := by
  have hI : itoaT (-(n : Int)) = (⟨#[45]⟩ : ByteArray) ++ ⟨(Lib.decDigits n).toArray⟩ := by
    apply bytes_ext
    rw [cat_data]
    unfold itoaT Lib.itoa
    rw [if_pos (by omega), show (-(n : Int)).natAbs = n by omega]
  have HI := Lib.hid hI
  clear hI
  have hne : ((-(n : Int)) == 0) = false := by rw [beq_eq_false_iff_ne]; omega
  have hneg : decide ((-(n : Int)) < 0) = true := decide_eq_true (by omega)
  have HD := Lib.hid (show digsOf n = Lib.decDigits n by unfold digsOf; rw [if_neg (by omega)])
  generalize hN : -(n : Int) = N at *
  go_enter Tryz.func15, Tryz.ntmps15
  go_wp2
  go_loopw [0, 4] (fun v o wr => ∃ (m : Nat) (out : List UInt8), m ≤ n ∧ v = .int .i64 (-(m : Int)) ∧ o = .string ⟨out.toArray⟩ ∧ digsOf m ++ out = Lib.decDigits n ∧ Below w.heap.size w wr) (fun v _ _ => (-(RowKit.intOf v)).toNat)
  case atStart => exact ⟨n, [], Nat.le_refl _, by rw [hN], rfl, by rw [List.append_nil]; exact HD.out, Below.refl _ _⟩
  case round =>
    obtain ⟨m, out, hmn, rfl, rfl, hout, hbw⟩ := hrel
    have hol : out.length ≤ 20 := by
      have h2 := congrArg List.length hout
      rw [List.length_append, Lib.decDigits_length] at h2
      have := Lib.nDigits_le20 n (by omega)
      omega
    have HO := Lib.hid hout
    clear hout
    by_cases hm : m = 0
    · have hne2 : ((-(m : Int)) != 0) = false := by rw [hm]; rfl
      have HZ := Lib.hid (show out = Lib.decDigits n by have h := HO.out; rw [hm] at h; exact h)
      generalize -(m : Int) = M at *
      clear hm
      go_wp2
      go_ret
      exact ⟨ret_str (by rw [HI.out, HZ.out]), hbw⟩
    · have hne2 : ((-(m : Int)) != 0) = true := by rw [bne_iff_ne]; omega
      have hr : (-(m : Int)).tmod 10 = -((m : Int) % 10) := by rw [Int.neg_tmod, Int.tmod_eq_emod_of_nonneg (by omega)]
      have hq : (-(m : Int)).tdiv 10 = -((m / 10 : Nat) : Int) := by rw [Int.neg_tdiv, Int.tdiv_eq_ediv_of_nonneg (by omega)]; omega
      have hqw : IntKind.i64.wrap (-((m / 10 : Nat) : Int)) = -((m / 10 : Nat) : Int) := IntWalk.i64_in _ (by omega)
      have hcv := conv_one wr (48 + (m : Int) % 10) (by omega) (by omega)
      have hw8 : IntKind.u8.wrap (48 + (m : Int) % 10) = 48 + (m : Int) % 10 := IntWalk.u8_in _ (by omega)
      have hb48 : UInt8.ofNat (48 + (m : Int) % 10).toNat = UInt8.ofNat (48 + m % 10) := by rw [show (48 + (m : Int) % 10).toNat = 48 + m % 10 by omega]
      have HS := Lib.hid (show digsOf (m / 10) ++ ((UInt8.ofNat (48 + (m : Int) % 10).toNat) :: out) = Lib.decDigits n by rw [hb48, ← HO.out, digsOf_step hm]; simp)
      have hmd : m / 10 < m := by omega
      have hd0 : 0 ≤ (m : Int) % 10 := by omega
      have hd1 : (m : Int) % 10 < 10 := by omega
      clear hm hb48
      generalize UInt8.ofNat (48 + (m : Int) % 10).toNat = b at *
      generalize (m : Int) % 10 = d at *
      rcases Int.lt_or_le 0 d with hd | hd
      · have hlt : decide (-d < 0) = true := decide_eq_true (by omega)
        go_wp2
        go_roundw
        case rel => exact ⟨m / 10, b :: out, by omega, rfl, congrArg Value.string (bytes_ext (cat_data b out)), HS.out, hbw.alloc hbw.size _⟩
        case measure => simp [RowKit.intOf]; omega
      · obtain rfl : d = 0 := by omega
        simp only [Int.add_zero] at hcv hw8
        go_wp2
        go_roundw
        case rel => exact ⟨m / 10, b :: out, by omega, rfl, congrArg Value.string (bytes_ext (cat_data b out)), HS.out, hbw.alloc hbw.size _⟩
        case measure => simp [RowKit.intOf]; omega
theorem rDigits_any (n : Int) (w : World) (h0 : -9223372036854775808 ≤ n) (h1 : n ≤ 9223372036854775807) :
    Calls Tryz.prog 15 #[.int .i64 n] w fun e w' => e = .returned (.string (itoaT n)) ∧ Below w.heap.size w w' := by
  rcases Int.lt_or_le n 0 with h | h
  · have e : n = -((n.natAbs : Nat) : Int) := by omega
    rw [e]
    exact rDigits_neg n.natAbs w (by omega) (by omega)
  · obtain ⟨k, rfl⟩ := Int.eq_ofNat_of_zero_le h
    exact rDigits_pos k w (by omega)
/-- What the document's second Digits tells. -/
def dig12 (n : Int) : ByteArray := if n < 0 then ⟨#[45]⟩ else itoaT n
theorem dec_step {m : Nat} (h : 10 ≤ m) : Lib.decDigits m = Lib.decDigits (m / 10) ++ [UInt8.ofNat (48 + m % 10)] := by
  rw [Lib.decDigits, dif_neg (by omega)]
theorem dec_small {m : Nat} (h : m < 10) : Lib.decDigits m = [UInt8.ofNat (48 + m % 10)] := by rw [Lib.decDigits_one h, Nat.mod_eq_of_lt h]
set_option maxRecDepth 20000 in
set_option maxHeartbeats 2000000 in
theorem dig12_pos (n : Nat) (w : World) (h1 : (n : Int) ≤ 9223372036854775807) :
    Calls Tryz.prog 22 #[.int .i64 (n : Int)] w fun e w' => e = .returned (.string (itoaT n)) ∧ Below w.heap.size w w' := by
  have hI : itoaT (n : Int) = ⟨(Lib.decDigits n).toArray⟩ := by unfold itoaT Lib.itoa; rw [if_neg (by omega)]; rfl
  have HI := Lib.hid hI
  clear hI
  have hneg : decide ((n : Int) < 0) = false := decide_eq_false (by omega)
  go_enter Tryz.func22, Tryz.ntmps22
  go_wp2
  go_loopw [0, 3] (fun v o wr => ∃ (m : Nat) (out : List UInt8), m ≤ n ∧ v = .int .i64 (m : Int) ∧ o = .string ⟨out.toArray⟩ ∧ Lib.decDigits m ++ out = Lib.decDigits n ∧ Below w.heap.size w wr) (fun v _ _ => (RowKit.intOf v).toNat)
  case atStart => exact ⟨n, [], Nat.le_refl _, rfl, rfl, by rw [List.append_nil], Below.refl _ _⟩
  case round =>
    obtain ⟨m, out, hmn, rfl, rfl, hout, hbw⟩ := hrel
    have hol : out.length ≤ 20 := by
      have h2 := congrArg List.length hout
      rw [List.length_append, Lib.decDigits_length (u := n)] at h2
      have := Lib.nDigits_le20 n (by omega)
      omega
    have HO := Lib.hid hout
    clear hout
    have hm0 : 0 ≤ (m : Int) := by omega
    have hr0 : 0 ≤ (m : Int) % 10 := by omega
    have hr1 : (m : Int) % 10 < 10 := by omega
    have hcv := conv_one wr (48 + (m : Int) % 10) (by omega) (by omega)
    have hw8 : IntKind.u8.wrap (48 + (m : Int) % 10) = 48 + (m : Int) % 10 := IntWalk.u8_in _ (by omega)
    have hb48 : UInt8.ofNat (48 + (m : Int) % 10).toNat = UInt8.ofNat (48 + m % 10) := by rw [show (48 + (m : Int) % 10).toNat = 48 + m % 10 by omega]
    by_cases hz : m < 10
    · have HS := Lib.hid (show (UInt8.ofNat (48 + (m : Int) % 10).toNat) :: out = Lib.decDigits n by rw [hb48, ← HO.out, dec_small hz]; rfl)
      have hq0 : (m : Int) / 10 = 0 := by omega
      have hq1 : ((m : Int) / 10 == 0) = true := by rw [hq0]; rfl
      clear hb48 hz
      generalize UInt8.ofNat (48 + (m : Int) % 10).toNat = b at *
      go_wp2
      go_ret
      exact ⟨ret_str (by rw [HI.out, ← HS.out]; exact bytes_ext (cat_data b out)), hbw.alloc hbw.size _⟩
    · have HS := Lib.hid (show Lib.decDigits (m / 10) ++ ((UInt8.ofNat (48 + (m : Int) % 10).toNat) :: out) = Lib.decDigits n by rw [hb48, ← HO.out, dec_step (m := m) (by omega), List.append_assoc]; rfl)
      have hq1 : ((m : Int) / 10 == 0) = false := by rw [beq_eq_false_iff_ne]; omega
      have hmd : m / 10 < m := by omega
      clear hb48 hz
      generalize UInt8.ofNat (48 + (m : Int) % 10).toNat = b at *
      go_wp2
      go_roundw
      case rel => exact ⟨m / 10, b :: out, by omega, by rw [Int.natCast_ediv]; rfl, congrArg Value.string (bytes_ext (cat_data b out)), HS.out, hbw.alloc hbw.size _⟩
      case measure => simp [RowKit.intOf]; omega
set_option maxRecDepth 20000 in
theorem dig12_any (n : Int) (w : World) (h1 : n ≤ 9223372036854775807) :
    Calls Tryz.prog 22 #[.int .i64 n] w fun e w' => e = .returned (.string (dig12 n)) ∧ Below w.heap.size w w' := by
  unfold dig12
  by_cases h : n < 0
  · rw [if_pos h]
    have hd : decide (n < 0) = true := decide_eq_true h
    go_enter Tryz.func22, Tryz.ntmps22
    go_wp2
    go_ret
    exact ⟨rfl, Below.refl _ _⟩
  · rw [if_neg h]
    obtain ⟨k, rfl⟩ := Int.eq_ofNat_of_zero_le (show 0 ≤ n by omega)
    exact dig12_pos k w h1
end Go.Proofs.YtdipogmlpmkgcaaGreatDoor
