/-
  The reference's split and digits: the walks.
-/
import Derived.Test.YtkhgnfofinpofaaTgLib
import Derived.Lib.ItoaLen
namespace Go.Proofs.Ytkhgnfofinpofaa
open Go.RowKit Go.Shelf Go.Lib

theorem info_string : (Try.prog.info? 9).map (fun i => (i.zero, i.size, i.bytes)) = some (some (.string ⟨#[]⟩), 1, 16) := by kernel_rfl
/-- What a call hands back that makes a list of texts. -/
def GivesStrs (w : World) (ss : List ByteArray) (e : Ending) (w' : World) : Prop :=
  ∃ A c, e = .returned (.slice A ss.length c) ∧ w'.ownsRow w.heap.size 9 1 (.slice A ss.length c) ss.length (ss.map .string) ∧ Below w.heap.size w w'
theorem gives_strs {w w' : World} {ss : List ByteArray} {v : Value} (ho : w'.ownsRow w.heap.size 9 1 v ss.length (ss.map .string)) (hb : Below w.heap.size w w') : GivesStrs w ss (.returned v) w' := by
  obtain ⟨A, c, rfl⟩ := own_slice ho
  exact ⟨A, c, rfl, ho, hb⟩
theorem string_inj {a b : ByteArray} (h : Value.string a = .string b) : a = b := by injection h

/-! Digits. -/
def digsOf (m : Nat) : List UInt8 := if m = 0 then [] else Lib.decDigits m
theorem digsOf_step {m : Nat} (h : m ≠ 0) : digsOf m = digsOf (m / 10) ++ [UInt8.ofNat (48 + m % 10)] := by
  unfold digsOf
  rw [if_neg h]
  by_cases h10 : m < 10
  · rw [if_pos (by omega), Lib.decDigits_one h10, Nat.mod_eq_of_lt h10]
    rfl
  · rw [if_neg (by omega), Lib.decDigits, dif_neg h10]
theorem cat_data (b : UInt8) (l : List UInt8) : ((⟨#[b]⟩ : ByteArray) ++ (⟨l.toArray⟩ : ByteArray)).data.toList = b :: l := by
  rw [ByteArray.data_append]
  simp
theorem conv_one (w : World) (v : Int) (h0 : 0 ≤ v) (h1 : v < 256) : (convert 103 9 (.slice (some ⟨w.heap.size, 0, none⟩) 1 1)).run Try.prog (w.alloc (.cells #[.int .u8 v] 5)) = .ok (.string ⟨#[UInt8.ofNat v.toNat]⟩) (w.alloc (.cells #[.int .u8 v] 5)) := by
  have e : (Value.int .u8 v) = byteV (UInt8.ofNat v.toNat) := by
    unfold byteV
    rw [UInt8.toNat_ofNat']
    congr 1
    omega
  rw [e]
  have h : OwnB (w.alloc (.cells #[byteV (UInt8.ofNat v.toNat)] 5)) w.heap.size (.slice (some ⟨w.heap.size, 0, none⟩) 1 1) [UInt8.ofNat v.toNat] := World.ownsRow_lit w #[byteV (UInt8.ofNat v.toNat)] 1 (Nat.le_refl _) (by unfold maxLen; omega) rfl
  exact h.conv
set_option maxRecDepth 20000 in
set_option maxHeartbeats 2000000 in
theorem rDigits_pos (n : Nat) (w : World) (h1 : (n : Int) ≤ 9223372036854775807) :
    Calls Try.prog 18 #[.int .i64 (n : Int)] w fun e w' => e = .returned (.string (itoaT n)) ∧ Below w.heap.size w w' := by
  have hI : itoaT (n : Int) = ⟨(Lib.decDigits n).toArray⟩ := by unfold itoaT Lib.itoa; rw [if_neg (by omega)]; rfl
  have HI := Lib.hid hI
  clear hI
  by_cases hz : n = 0
  · subst hz
    have hZ := Lib.hid (show itoaT ((0 : Nat) : Int) = ⟨#[48]⟩ by rw [HI.out, Lib.decDigits_one (by omega)]; rfl)
    rw [show ((0 : Nat) : Int) = 0 from rfl] at *
    go_enter Try.func18, Try.ntmps18
    go_wp2
    go_ret
    exact ⟨ret_str hZ.out.symm, Below.refl _ _⟩
  · have hne : ((n : Int) == 0) = false := by simpa using hz
    have hneg : decide ((n : Int) < 0) = false := decide_eq_false (by omega)
    have HD := Lib.hid (show digsOf n = Lib.decDigits n by unfold digsOf; rw [if_neg hz])
    clear hz
    go_enter Try.func18, Try.ntmps18
    go_wp2
    go_loopw [0, 4] (fun v o wr => ∃ (m : Nat) (out : List UInt8), m ≤ n ∧ v = .int .i64 (m : Int) ∧ o = .string ⟨out.toArray⟩ ∧ digsOf m ++ out = Lib.decDigits n ∧ Below w.heap.size w wr) (fun v _ _ => (RowKit.intOf v).toNat)
    case atStart => exact ⟨n, [], Nat.le_refl _, rfl, rfl, by rw [List.append_nil]; exact HD.out, Below.refl _ _⟩
    case round =>
      obtain ⟨m, out, hmn, rfl, rfl, hout, hbw⟩ := hrel
      have hol : out.length ≤ 20 := by
        have h2 := congrArg List.length hout
        rw [List.length_append, Lib.decDigits_length] at h2
        have := Lib.nDigits_le20 n (by omega)
        omega
      have HO := Lib.hid hout
      clear hout
      by_cases hm : m = 0
      · have hne2 : ((m : Int) != 0) = false := by simpa using hm
        have HZ := Lib.hid (show out = Lib.decDigits n by have h := HO.out; rw [hm] at h; exact h)
        clear hm
        go_wp2
        go_ret
        exact ⟨ret_str (by rw [HI.out, HZ.out]), hbw⟩
      · have hne2 : ((m : Int) != 0) = true := by simpa using hm
        have hm0 : 0 ≤ (m : Int) := by omega
        have hr0 : 0 ≤ (m : Int) % 10 := by omega
        have hr1 : (m : Int) % 10 < 10 := by omega
        have hcv := conv_one wr (48 + (m : Int) % 10) (by omega) (by omega)
        have hw8 : IntKind.u8.wrap (48 + (m : Int) % 10) = 48 + (m : Int) % 10 := IntWalk.u8_in _ (by omega)
        have hb48 : UInt8.ofNat (48 + (m : Int) % 10).toNat = UInt8.ofNat (48 + m % 10) := by rw [show (48 + (m : Int) % 10).toNat = 48 + m % 10 by omega]
        have HS := Lib.hid (show digsOf (m / 10) ++ ((UInt8.ofNat (48 + (m : Int) % 10).toNat) :: out) = Lib.decDigits n by rw [hb48, ← HO.out, digsOf_step hm]; simp)
        have hmd : m / 10 < m := by omega
        clear hm hb48
        generalize UInt8.ofNat (48 + (m : Int) % 10).toNat = b at *
        go_wp2
        go_roundw
        case rel => exact ⟨m / 10, b :: out, by omega, by rw [Int.natCast_ediv]; rfl, congrArg Value.string (bytes_ext (cat_data b out)), HS.out, hbw.alloc hbw.size _⟩
        case measure => simp [RowKit.intOf]; omega
end Go.Proofs.Ytkhgnfofinpofaa
