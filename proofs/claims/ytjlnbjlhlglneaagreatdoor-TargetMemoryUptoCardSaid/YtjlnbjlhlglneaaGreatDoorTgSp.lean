/-
  The reference's split and digits: the walks.
-/
import Derived.Test.YtjlnbjlhlglneaaGreatDoorTgLib
import Derived.Lib.ItoaLen
namespace Go.Proofs.YtjlnbjlhlglneaaGreatDoor
open Go.RowKit Go.Shelf Go.Lib

theorem info_string : (Tryz.prog.info? 9).map (fun i => (i.zero, i.size, i.bytes)) = some (some (.string ⟨#[]⟩), 1, 16) := by kernel_rfl
/-- What a call hands back that makes a list of texts. -/
def GivesStrs (w : World) (ss : List ByteArray) (e : Ending) (w' : World) : Prop :=
  ∃ A c, e = .returned (.slice A ss.length c) ∧ w'.ownsRow w.heap.size 9 1 (.slice A ss.length c) ss.length (ss.map .string) ∧ Below w.heap.size w w'
theorem gives_strs {w w' : World} {ss : List ByteArray} {v : Value} (ho : w'.ownsRow w.heap.size 9 1 v ss.length (ss.map .string)) (hb : Below w.heap.size w w') : GivesStrs w ss (.returned v) w' := by
  obtain ⟨A, c, rfl⟩ := own_slice ho
  exact ⟨A, c, rfl, ho, hb⟩
theorem string_inj {a b : ByteArray} (h : Value.string a = .string b) : a = b := by injection h
set_option maxRecDepth 20000 in
set_option maxHeartbeats 2000000 in
theorem rsplit_any (s : ByteArray) (c : Int) (w : World) (hs : s.size ≤ 4194304) :
    Calls Tryz.prog 42 #[.string s, .int .u8 c] w (GivesStrs w (splitC s c)) := by
  obtain ⟨i0, hi0, hz0, hz1, hz2⟩ := info_parts info_string
  go_enter Tryz.func42, Tryz.ntmps42
  go_wp2
  go_loopw [0, 5] (fun v r wr => ∃ (t : ByteArray) (acc : List ByteArray), v = .string t ∧ t.size ≤ s.size ∧ acc ++ splitC t c = splitC s c ∧ wr.ownsRow w.heap.size 9 1 r acc.length (acc.map .string) ∧ Below w.heap.size w wr) (fun v _ _ => match v with | .string t => t.size | _ => 0)
  case atStart => exact ⟨s, [], rfl, Nat.le_refl _, rfl, World.ownsRow_lit w #[] 0 (Nat.le_refl _) (by unfold maxLen; omega) rfl, (Below.refl _ w).alloc (Nat.le_refl _) _⟩
  case round =>
    obtain ⟨t, acc, rfl, hts, hacc, hown, hbw⟩ := hrel
    have HC := Lib.hid (fun w => rcut_any t c w (by omega))
    unfold cutVal at HC
    have hlen : acc.length ≤ 4194305 := by
      have h1 := congrArg List.length hacc
      have h2 := splitC_len s c
      rw [List.length_append] at h1
      omega
    have HA := Lib.hid hacc
    clear hacc
    rcases place_spec t c with ⟨hp, _⟩ | ⟨k, hp, hk, _⟩
    · rw [cutW_miss hp] at HC
      dsimp only at HC
      have HS := Lib.hid (show acc ++ [t] = splitC s c by rw [← HA.out, splitC_miss hp])
      clear hp
      go_wp2_with fail
      refine (HC.out _).mono ?_
      rintro e w1 ⟨rfl, q, rfl⟩
      have hown1 := own_below hown (below_drewN (Below.refl _ _) q)
      go_wp2_with (at_builtin; refine wpList_append_own _ rfl _ _ 41 rfl w.heap.size 9 i0 (.string ⟨#[]⟩) 1 16 Tryz.underlying41 hi0 hz0 hz1 hz2 rfl (by decide) _ _ _ rfl (hown1.alloc _) ⟨wr.heap.size, 0, none⟩ 1 1 [.string t] rfl rfl (cell_one_new _ _ _) ?c1 ?c2 ?c3 ?c4 ?c5)
      case c1 => exact strs_oneCell [t]
      case c2 => unfold maxLen; omega
      case c3 => omega
      case c4 => simp; have := hbw.size; omega
      case c5 =>
        intro v' w2 hown2 hg2 _
        have hb2 : Below w.heap.size w w2 := ((below_drewN hbw q).alloc (below_drewN hbw q).size _).grown hg2 (by simp; have := hbw.size; omega) (own_lt hown1)
        have ho2 : w2.ownsRow w.heap.size 9 1 v' (splitC s c).length ((splitC s c).map .string) := by
          rw [← HS.out, List.length_append, List.map_append]
          exact hown2
        clear hown2 hg2 hown hown1
        go_wp2
        go_ret
        exact gives_strs ho2 hb2
    · rw [cutW_hit hk hp] at HC
      dsimp only at HC
      have HS := Lib.hid (show (acc ++ [t.extract 0 k]) ++ splitC (t.extract (k + 1) t.size) c = splitC s c by rw [← HA.out, splitC_hit hk hp]; simp)
      have hz := ext_size t (a := k + 1) (b := t.size) (by omega) (Nat.le_refl _)
      have hz1' : (t.extract (k + 1) t.size).size < t.size := by omega
      clear hp hz
      go_wp2_with fail
      refine (HC.out _).mono ?_
      rintro e w1 ⟨rfl, q, rfl⟩
      have hown1 := own_below hown (below_drewN (Below.refl _ _) q)
      go_wp2_with (at_builtin; refine wpList_append_own _ rfl _ _ 41 rfl w.heap.size 9 i0 (.string ⟨#[]⟩) 1 16 Tryz.underlying41 hi0 hz0 hz1 hz2 rfl (by decide) _ _ _ rfl (hown1.alloc _) ⟨wr.heap.size, 0, none⟩ 1 1 [.string (t.extract 0 k)] rfl rfl (cell_one_new _ _ _) ?d1 ?d2 ?d3 ?d4 ?d5)
      case d1 => exact strs_oneCell [_]
      case d2 => unfold maxLen; omega
      case d3 => omega
      case d4 => simp; have := hbw.size; omega
      case d5 =>
        intro v' w2 hown2 hg2 _
        have hb2 : Below w.heap.size w w2 := ((below_drewN hbw q).alloc (below_drewN hbw q).size _).grown hg2 (by simp; have := hbw.size; omega) (own_lt hown1)
        have ho2 : w2.ownsRow w.heap.size 9 1 v' (acc ++ [t.extract 0 k]).length ((acc ++ [t.extract 0 k]).map .string) := by
          rw [List.length_append, List.map_append]
          exact hown2
        clear hown2 hg2 hown hown1
        go_wp2
        go_roundw
        case rel => exact ⟨_, _, rfl, by omega, HS.out, ho2, hb2⟩
        case measure => exact hz1'

/-! Digits. -/
def digsOf (m : Nat) : List UInt8 := if m = 0 then [] else Lib.decDigits m
theorem digsOf_step {m : Nat} (h : m ≠ 0) : digsOf m = digsOf (m / 10) ++ [UInt8.ofNat (48 + m % 10)] := by
  unfold digsOf
  rw [if_neg h]
  by_cases h10 : m < 10
  · rw [if_pos (by omega), Lib.decDigits_one h10, Nat.mod_eq_of_lt h10]
    rfl
  · rw [if_neg (by omega), Lib.decDigits, dif_neg h10]
theorem cat_data (b : UInt8) (l : List UInt8) : ((⟨#[b]⟩ : ByteArray) ++ (⟨l.toArray⟩ : ByteArray)).data.toList = b :: l := by
  rw [ByteArray.data_append]
  simp
theorem conv_one (w : World) (v : Int) (h0 : 0 ≤ v) (h1 : v < 256) : (convert 82 9 (.slice (some ⟨w.heap.size, 0, none⟩) 1 1)).run Tryz.prog (w.alloc (.cells #[.int .u8 v] 5)) = .ok (.string ⟨#[UInt8.ofNat v.toNat]⟩) (w.alloc (.cells #[.int .u8 v] 5)) := by
  have e : (Value.int .u8 v) = byteV (UInt8.ofNat v.toNat) := by
    unfold byteV
    rw [UInt8.toNat_ofNat']
    congr 1
    omega
  rw [e]
  have h : OwnB (w.alloc (.cells #[byteV (UInt8.ofNat v.toNat)] 5)) w.heap.size (.slice (some ⟨w.heap.size, 0, none⟩) 1 1) [UInt8.ofNat v.toNat] := World.ownsRow_lit w #[byteV (UInt8.ofNat v.toNat)] 1 (Nat.le_refl _) (by unfold maxLen; omega) rfl
  exact h.conv
set_option maxRecDepth 20000 in
set_option maxHeartbeats 2000000 in
theorem rDigits_pos (n : Nat) (w : World) (h1 : (n : Int) ≤ 9223372036854775807) :
    Calls Tryz.prog 20 #[.int .i64 (n : Int)] w fun e w' => e = .returned (.string (itoaT n)) ∧ Below w.heap.size w w' := by
  have hI : itoaT (n : Int) = ⟨(Lib.decDigits n).toArray⟩ := by unfold itoaT Lib.itoa; rw [if_neg (by omega)]; rfl
  have HI := Lib.hid hI
  clear hI
  by_cases hz : n = 0
  · subst hz
    have hZ := Lib.hid (show itoaT ((0 : Nat) : Int) = ⟨#[48]⟩ by rw [HI.out, Lib.decDigits_one (by omega)]; rfl)
    rw [show ((0 : Nat) : Int) = 0 from rfl] at *
    go_enter Tryz.func20, Tryz.ntmps20
    go_wp2
    go_ret
    exact ⟨ret_str hZ.out.symm, Below.refl _ _⟩
  · have hne : ((n : Int) == 0) = false := by simpa using hz
    have hneg : decide ((n : Int) < 0) = false := decide_eq_false (by omega)
    have HD := Lib.hid (show digsOf n = Lib.decDigits n by unfold digsOf; rw [if_neg hz])
    clear hz
    go_enter Tryz.func20, Tryz.ntmps20
    go_wp2
    go_loopw [0, 4] (fun v o wr => ∃ (m : Nat) (out : List UInt8), m ≤ n ∧ v = .int .i64 (m : Int) ∧ o = .string ⟨out.toArray⟩ ∧ digsOf m ++ out = Lib.decDigits n ∧ Below w.heap.size w wr) (fun v _ _ => (RowKit.intOf v).toNat)
    case atStart => exact ⟨n, [], Nat.le_refl _, rfl, rfl, by rw [List.append_nil]; exact HD.out, Below.refl _ _⟩
    case round =>
      obtain ⟨m, out, hmn, rfl, rfl, hout, hbw⟩ := hrel
      have hol : out.length ≤ 20 := by
        have h2 := congrArg List.length hout
        rw [List.length_append, Lib.decDigits_length] at h2
        have := Lib.nDigits_le20 n (by omega)
        omega
      have HO := Lib.hid hout
      clear hout
      by_cases hm : m = 0
      · have hne2 : ((m : Int) != 0) = false := by simpa using hm
        have HZ := Lib.hid (show out = Lib.decDigits n by have h := HO.out; rw [hm] at h; exact h)
        clear hm
        go_wp2
        go_ret
        exact ⟨ret_str (by rw [HI.out, HZ.out]), hbw⟩
      · have hne2 : ((m : Int) != 0) = true := by simpa using hm
        have hm0 : 0 ≤ (m : Int) := by omega
        have hr0 : 0 ≤ (m : Int) % 10 := by omega
        have hr1 : (m : Int) % 10 < 10 := by omega
        have hcv := conv_one wr (48 + (m : Int) % 10) (by omega) (by omega)
        have hw8 : IntKind.u8.wrap (48 + (m : Int) % 10) = 48 + (m : Int) % 10 := IntWalk.u8_in _ (by omega)
        have hb48 : UInt8.ofNat (48 + (m : Int) % 10).toNat = UInt8.ofNat (48 + m % 10) := by rw [show (48 + (m : Int) % 10).toNat = 48 + m % 10 by omega]
        have HS := Lib.hid (show digsOf (m / 10) ++ ((UInt8.ofNat (48 + (m : Int) % 10).toNat) :: out) = Lib.decDigits n by rw [hb48, ← HO.out, digsOf_step hm]; simp)
        have hmd : m / 10 < m := by omega
        clear hm hb48
        generalize UInt8.ofNat (48 + (m : Int) % 10).toNat = b at *
        go_wp2
        go_roundw
        case rel => exact ⟨m / 10, b :: out, by omega, by rw [Int.natCast_ediv]; rfl, congrArg Value.string (bytes_ext (cat_data b out)), HS.out, hbw.alloc hbw.size _⟩
        case measure => simp [RowKit.intOf]; omega
end Go.Proofs.YtjlnbjlhlglneaaGreatDoor
