/-
  The decimal digits of a number below nothing: the walk of the reference's function.
-/
import Derived.Test.YtkhgnfofinpofaaTgSp
namespace Go.Proofs.Ytkhgnfofinpofaa
open Go.RowKit Go.Shelf Go.Lib

set_option maxRecDepth 20000 in
set_option maxHeartbeats 2000000 in
theorem rDigits_neg (n : Nat) (w : World) (h0 : 0 < n) (h1 : (n : Int) ≤ 9223372036854775808) :
    Calls Try.prog 18 #[.int .i64 (-(n : Int))] w fun e w' => e = .returned (.string (itoaT (-(n : Int)))) ∧ Below w.heap.size w w' := by
  have hI : itoaT (-(n : Int)) = (⟨#[45]⟩ : ByteArray) ++ ⟨(Lib.decDigits n).toArray⟩ := by
    apply bytes_ext
    rw [cat_data]
    unfold itoaT Lib.itoa
    rw [if_pos (by omega), show (-(n : Int)).natAbs = n by omega]
  have HI := Lib.hid hI
  clear hI
  have hne : ((-(n : Int)) == 0) = false := by rw [beq_eq_false_iff_ne]; omega
  have hneg : decide ((-(n : Int)) < 0) = true := decide_eq_true (by omega)
  have HD := Lib.hid (show digsOf n = Lib.decDigits n by unfold digsOf; rw [if_neg (by omega)])
  generalize hN : -(n : Int) = N at *
  go_enter Try.func18, Try.ntmps18
  go_wp2
  go_loopw [0, 4] (fun v o wr => ∃ (m : Nat) (out : List UInt8), m ≤ n ∧ v = .int .i64 (-(m : Int)) ∧ o = .string ⟨out.toArray⟩ ∧ digsOf m ++ out = Lib.decDigits n ∧ Below w.heap.size w wr) (fun v _ _ => (-(RowKit.intOf v)).toNat)
  case atStart => exact ⟨n, [], Nat.le_refl _, by rw [hN], rfl, by rw [List.append_nil]; exact HD.out, Below.refl _ _⟩
  case round =>
    obtain ⟨m, out, hmn, rfl, rfl, hout, hbw⟩ := hrel
    have hol : out.length ≤ 20 := by
      have h2 := congrArg List.length hout
      rw [List.length_append, Lib.decDigits_length] at h2
      have := Lib.nDigits_le20 n (by omega)
      omega
    have HO := Lib.hid hout
    clear hout
    by_cases hm : m = 0
    · have hne2 : ((-(m : Int)) != 0) = false := by rw [hm]; rfl
      have HZ := Lib.hid (show out = Lib.decDigits n by have h := HO.out; rw [hm] at h; exact h)
      generalize -(m : Int) = M at *
      clear hm
      go_wp2
      go_ret
      exact ⟨ret_str (by rw [HI.out, HZ.out]), hbw⟩
    · have hne2 : ((-(m : Int)) != 0) = true := by rw [bne_iff_ne]; omega
      have hr : (-(m : Int)).tmod 10 = -((m : Int) % 10) := by rw [Int.neg_tmod, Int.tmod_eq_emod_of_nonneg (by omega)]
      have hq : (-(m : Int)).tdiv 10 = -((m / 10 : Nat) : Int) := by rw [Int.neg_tdiv, Int.tdiv_eq_ediv_of_nonneg (by omega)]; omega
      have hqw : IntKind.i64.wrap (-((m / 10 : Nat) : Int)) = -((m / 10 : Nat) : Int) := IntWalk.i64_in _ (by omega)
      have hcv := conv_one wr (48 + (m : Int) % 10) (by omega) (by omega)
      have hw8 : IntKind.u8.wrap (48 + (m : Int) % 10) = 48 + (m : Int) % 10 := IntWalk.u8_in _ (by omega)
      have hb48 : UInt8.ofNat (48 + (m : Int) % 10).toNat = UInt8.ofNat (48 + m % 10) := by rw [show (48 + (m : Int) % 10).toNat = 48 + m % 10 by omega]
      have HS := Lib.hid (show digsOf (m / 10) ++ ((UInt8.ofNat (48 + (m : Int) % 10).toNat) :: out) = Lib.decDigits n by rw [hb48, ← HO.out, digsOf_step hm]; simp)
      have hmd : m / 10 < m := by omega
      have hd0 : 0 ≤ (m : Int) % 10 := by omega
      have hd1 : (m : Int) % 10 < 10 := by omega
      clear hm hb48
      generalize UInt8.ofNat (48 + (m : Int) % 10).toNat = b at *
      generalize (m : Int) % 10 = d at *
      rcases Int.lt_or_le 0 d with hd | hd
      · have hlt : decide (-d < 0) = true := decide_eq_true (by omega)
        go_wp2
        go_roundw
        case rel => exact ⟨m / 10, b :: out, by omega, rfl, congrArg Value.string (bytes_ext (cat_data b out)), HS.out, hbw.alloc hbw.size _⟩
        case measure => simp [RowKit.intOf]; omega
      · obtain rfl : d = 0 := by omega
        simp only [Int.add_zero] at hcv hw8
        go_wp2
        go_roundw
        case rel => exact ⟨m / 10, b :: out, by omega, rfl, congrArg Value.string (bytes_ext (cat_data b out)), HS.out, hbw.alloc hbw.size _⟩
        case measure => simp [RowKit.intOf]; omega
theorem rDigits_any (n : Int) (w : World) (h0 : -9223372036854775808 ≤ n) (h1 : n ≤ 9223372036854775807) :
    Calls Try.prog 18 #[.int .i64 n] w fun e w' => e = .returned (.string (itoaT n)) ∧ Below w.heap.size w w' := by
  rcases Int.lt_or_le n 0 with h | h
  · have e : n = -((n.natAbs : Nat) : Int) := by omega
    rw [e]
    exact rDigits_neg n.natAbs w (by omega) (by omega)
  · obtain ⟨k, rfl⟩ := Int.eq_ofNat_of_zero_le h
    exact rDigits_pos k w (by omega)
end Go.Proofs.Ytkhgnfofinpofaa
