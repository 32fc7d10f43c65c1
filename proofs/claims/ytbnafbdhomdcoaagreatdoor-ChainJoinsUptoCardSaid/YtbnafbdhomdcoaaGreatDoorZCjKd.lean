/-
 CjKd, without what this claim does not reach.
-/
import Derived.Test.YtbnafbdhomdcoaaGreatDoorZm29
namespace Go.Proofs.YtbnafbdhomdcoaaGreatDoor
open Go.RowKit Go.Shelf Go.Lib
def GivesDec (o : Option (List UInt8)) (w : World) (e : Ending) (w' : World) : Prop := ∃ (t : ByteArray) (i x : Int), e = .returned (.tuple #[.string t, .int .i64 i, .int .i64 x]) ∧ (match o with
 | some l => x = 0 ∧ t = ⟨l.toArray⟩
 | none => x = 30) ∧ Below w.heap.size w w'
theorem gives_no {l : List UInt8} {w w' : World} {i : Int} (h : b64 l = none) (hb : Below w.heap.size w w') : GivesDec (b64 l) w (.returned (.tuple #[.string ⟨#[]⟩, .int .i64 i, .int .i64 30])) w' := ⟨_, _, _, rfl, by rw [h], hb⟩
theorem gives_yes {l o : List UInt8} {w w' : World} (h : b64 l = some o) (hb : Below w.heap.size w w') : GivesDec (b64 l) w (.returned (.tuple #[.string ⟨o.toArray⟩, .int .i64 0, .int .i64 0])) w' := ⟨_, _, _, rfl, by rw [h]; exact ⟨rfl, rfl⟩, hb⟩
theorem is_fill (s : ByteArray) {k : Nat} (h : k < s.size) : (s[k] = 61) ↔ (bt s k = 61) := by
 rw [← bt_eq h]
 constructor
 ·intro g; rw [g]; rfl
 ·intro g; apply UInt8.toNat_inj.1; have : (61 : UInt8).toNat = 61 := rfl; omega
theorem emit_len3 (n m : Nat) (h : m ≤ 24) : (emit n m).length ≤ 3 := by have := emit_len n m; omega
set_option maxRecDepth 20000 in
set_option maxHeartbeats 8000000 in
theorem Decode_any (s : ByteArray) (w : World) (hs : s.size ≤ 4194304) :
  Calls Tryz.prog 106 #[.string s] w (GivesDec (b64 s.data.toList) w) := by
 obtain ⟨i0, hi0, hz0, hz1, hz2⟩ := info_parts info_byte
 have HI := Lib.hid (fun (w : World) (k : Nat) => IndexByte_any signs64 (bt s k) w (bt_nonneg s k) (bt_lt s k))
 unfold signs64 at HI
 go_enter Tryz.func106, Tryz.ntmps106
 go_wp2
 go_loopw [5, 6, 7, 8, 15] (fun v n hv f i wr => ∃ (k : Nat) (st : B6), k ≤ s.size ∧ i = .int .i64 k ∧ n = .int .i64 st.n ∧ hv = .int .i64 st.hv ∧ f = .int .i64 st.fill ∧ OwnB wr w.heap.size v st.out ∧ st.out.length ≤ 3 * k ∧ Hid (b6run (s.data.toList.drop k) k st = b64 s.data.toList) ∧ Hid (B6ok k st ∧ st.fill ≤ 2) ∧ Below w.heap.size w wr) (fun _ _ _ _ i _ => s.size - (RowKit.intOf i).toNat)
 case atStart => exact ⟨0, ⟨0, 0, 0, []⟩, Nat.zero_le _, rfl, rfl, rfl, rfl, World.ownsRow_nil _ _ _ _, Nat.zero_le _, Lib.hid (b6_b64 _), Lib.hid ⟨B6ok.first, by decide⟩, Below.refl _ _⟩
 case round =>
  obtain ⟨k, ⟨n, hv, f, out⟩, hk, rfl, rfl, rfl, rfl, hown, hol, HB, HO, hbw⟩ := hrel
  dsimp only at *
  by_cases hlt : k < s.size
  ·have hb := @bt_eq s k hlt
   have hat := b6_at (st := ⟨n, hv, f, out⟩) (byte_list s hlt)
   rw [HB.out] at hat
   have HAT := Lib.hid hat
   obtain ⟨p, hp⟩ : ∃ p : Nat, p = k % 4 := ⟨_, rfl⟩
   have hkp : (k : Int) % 4 = (p : Int) := by omega
   have hp4 : p < 4 := by omega
   have hon := HO.out.1.n
   have hoh := HO.out.1.hv
   have hof := HO.out.2
   dsimp only at hon hoh hof
   have hvz : hv ≤ 18 := by omega
   have hnz : n < 262144 := Nat.lt_of_lt_of_le hon (Nat.le_trans (Nat.pow_le_pow_right (by omega) hvz) (by decide))
   have HST := Lib.hid (fun st' (h : b6next (k % 4) ⟨n, hv, f, out⟩ s[k] = some st') => HO.out.1.step h)
   have HNX := Lib.hid (fun st' (h : b6next (k % 4) ⟨n, hv, f, out⟩ s[k] = some st') => HO.out.1.next h)
   have hfd : of64 s[k] = findB signs64 (bt s k) := by unfold of64; rw [hb]
   have HFI := Lib.hid (is_fill s hlt)
   have HP := Lib.hid hp
   clear hat HB HO hon hoh
   have HW := way_of p ⟨n, hv, f, out⟩ s[k]
   rw [hp] at HW
   have hq0 : findB signs64 (bt s k) < 64 := by rw [← hfd]; exact (of64_range _).2
   have hVal := Lib.hid (show of64 s[k] = findB signs64 (bt s k) from hfd)
   rw [show signs64 = (⟨#[65, 66, 67, 68, 69, 70, 71, 72, 73, 74, 75, 76, 77, 78, 79, 80, 81, 82, 83, 84, 85, 86, 87, 88, 89, 90, 97, 98, 99, 100, 101, 102, 103, 104, 105, 106, 107, 108, 109, 110, 111, 112, 113, 114, 115, 116, 117, 118, 119, 120, 121, 122, 48, 49, 50, 51, 52, 53, 54, 55, 56, 57, 43, 47]⟩ : ByteArray) from rfl] at hfd hq0 hVal
   have HIK := Lib.hid (fun w => HI.out w k)
   generalize findB (⟨#[65, 66, 67, 68, 69, 70, 71, 72, 73, 74, 75, 76, 77, 78, 79, 80, 81, 82, 83, 84, 85, 86, 87, 88, 89, 90, 97, 98, 99, 100, 101, 102, 103, 104, 105, 106, 107, 108, 109, 110, 111, 112, 113, 114, 115, 116, 117, 118, 119, 120, 121, 122, 48, 49, 50, 51, 52, 53, 54, 55, 56, 57, 43, 47]⟩ : ByteArray) (bt s k) = v at *
   clear hfd hp
   rcases HW with ⟨h1, h2, h⟩ | ⟨h1, h2, h⟩ | ⟨h1, h2, h3, h4, h5, h⟩ | ⟨h1, h2, h3, h4, h5, h⟩ | ⟨h1, h2, h3, h4, h⟩ | ⟨h1, h2, h3, h⟩ | ⟨h1, h2, h3, h4, h⟩ | ⟨h1, h2, h3, h4, h5, h⟩ | ⟨h1, h0, h2, h3, h5, h⟩ | ⟨h0, h2, h3, h5, h⟩ | ⟨h0, h2, h3, h5, h⟩
   ·have HBN := Lib.hid (show b64 s.data.toList = none by rw [HAT.out, h])
    dsimp only at h1
    have hp0 : p = 0 := by rw [HP.out]; exact h2
    subst hp0
    clear h2 HAT HST HNX HFI hVal hq0 h
    have hf1 : decide ((0 : Int) < (f : Int)) = true := decide_eq_true (by omega)
    go_wp2
    go_ret3
    exact gives_no HBN.out hbw
   ·have HS := Lib.hid (HST.out _ h)
    have HN := Lib.hid (HNX.out _ h)
    have HBN := Lib.hid (show b64 s.data.toList = b6run (s.data.toList.drop (k + 1)) (k + 1) (b6flush (k % 4) ⟨n * 64 + val64 s[k], hv + 6, 0, out⟩) by rw [HAT.out, h])
    rw [← HP.out] at HS HBN
    dsimp only at h1
    subst h1
    have hvv : v = ((val64 s[k] : Nat) : Int) := by unfold val64; rw [hVal.out] at h2 ⊢; omega
    have hv64 : val64 s[k] < 64 := by omega
    generalize val64 s[k] = u at *
    subst hvv
    have hor := or_i64 n u (by omega) hv64
    have hn1 : (n : Int) ≤ 262143 := by omega
    have hv0 : decide ((0 : Int) ≤ (u : Int)) = true := decide_eq_true (by omega)
    clear h HAT HST HNX HFI hVal hq0 h2 hv64
    by_cases h3p : p = 3
    ·subst h3p
     have HSF := Lib.hid (show b6flush 3 ⟨n * 64 + u, hv + 6, 0, out⟩ = ⟨0, 0, 0, out ++ emit (n * 64 + u) (hv + 6)⟩ from rfl)
     rw [HSF.out] at HS HBN
     have hn2 := HN.out
     dsimp only at hn2
     clear HSF HN HP
     go_wp2_with fail
     refine (HIK.out _).mono ?_
     rintro e w1 ⟨rfl, rfl⟩
     go_wp2_with fail
     have hh24 : hv + 6 ≤ 24 := by omega
     clear hn2
     have HEL := Lib.hid (emit_len3 (n * 64 + u) (hv + 6) hh24)
     obtain ⟨xo, rfl⟩ : ∃ xo : World, xo = wr := ⟨_, rfl⟩
     skip
     go_loopw [5, 12] (fun v kk wx => ∃ (m : Nat) (o : List UInt8), kk = .int .i64 ((m : Int) - 8) ∧ m ≤ hv + 6 ∧ OwnB wx w.heap.size v o ∧ Hid (o ++ emit (n * 64 + u) m = out ++ emit (n * 64 + u) (hv + 6)) ∧ Below w.heap.size w wx) (fun _ kk _ => (RowKit.intOf kk + 8).toNat)
     case atStart => exact ⟨hv + 6, out, congrArg (Value.int .i64) (by omega), Nat.le_refl _, hown, Lib.hid rfl, hbw⟩
     case round =>
      obtain ⟨m, o, rfl, hm, hownx, HE, hbx⟩ := hrel
      have hol2 : o.length ≤ 3 * k + 3 := by
       have e := congrArg List.length HE.out
       rw [List.length_append, List.length_append] at e
       have := HEL.out
       omega
      by_cases hm8 : m < 8
      ·have hg0 : decide ((0 : Int) ≤ (m : Int) - 8) = false := decide_eq_false (by omega)
       have hg1 : decide ((8 : Int) ≤ (m : Int)) = false := decide_eq_false (by omega)
       have hg2 : ¬ 8 ≤ m := by omega
       have HOE := Lib.hid (show o = out ++ emit (n * 64 + u) (hv + 6) by have e := HE.out; rw [emit_end _ _ hm8, List.append_nil] at e; exact e)
       clear HE hm8
       go_wp2
       go_roundw
       case rel => exact ⟨k + 1, ⟨0, 0, 0, o⟩, by omega, by go_num, rfl, rfl, rfl, hownx, by show o.length ≤ _; omega, Lib.hid (by rw [HOE.out]; exact HBN.out.symm), Lib.hid ⟨by rw [HOE.out]; exact HS.out, by show (0 : Nat) ≤ 2; decide⟩, hbx⟩
       case measure => simp [RowKit.intOf]; omega
      ·have hg0 : decide ((0 : Int) ≤ (m : Int) - 8) = true := decide_eq_true (by omega)
       have hg1 : decide ((8 : Int) ≤ (m : Int)) = true := decide_eq_true (by omega)
       have hg2 : 8 ≤ m := by omega
       have hg3 : (0 : Int) ≤ (m : Int) - 8 := by omega
       have hg4 : (m : Int) - 8 ≤ 64 := by omega
       have hsh := shr_u8 (n * 64 + u) m
       have hst := emit_step (n * 64 + u) m hg2
       obtain ⟨by8, hby⟩ : ∃ x, x = UInt8.ofNat ((n * 64 + u) / 2 ^ (m - 8)) := ⟨_, rfl⟩
       rw [← hby] at hsh hst
       have HE2 := Lib.hid (show (o ++ [by8]) ++ emit (n * 64 + u) (m - 8) = out ++ emit (n * 64 + u) (hv + 6) by rw [← HE.out, hst, List.append_assoc]; rfl)
       rw [show ((n * 64 + u : Nat) : Int) = (n : Int) * 64 + (u : Int) by omega] at hsh
       clear hst hby HE hm8 hbw
       have ho' := hownx
       unfold OwnB at ho'
       go_wp2_with (at_builtin; refine wpList_append_own _ rfl _ _ 80 rfl w.heap.size 5 i0 (.int .u8 0) 1 1 Tryz.underlying80 hi0 hz0 hz1 hz2 rfl (by decide) _ _ _ rfl (ho'.alloc _) ⟨wr.heap.size, 0, none⟩ 1 1 [byteV by8] rfl rfl (cell_one_new _ _ _) ?c1 ?c2 ?c3 ?c4 ?c5)
       case c1 => exact bytes_oneCell [by8]
       case c2 => unfold maxLen; omega
       case c3 => omega
       case c4 => have := hbx.size; simp; omega
       case c5 =>
        intro v2 w2 hown2 hg5 _
        have hb2 : Below w.heap.size w w2 := (hbx.alloc hbx.size _).grown hg5 (by have := hbx.size; simp; omega) (own_lt ho')
        have ho2 : OwnB w2 w.heap.size v2 (o ++ [by8]) := by
         unfold OwnB
         rw [List.length_append, List.map_append]
         exact hown2
        clear hown2 hg5 ho' hownx
        go_wp2
        go_roundw
        case rel => exact ⟨m - 8, o ++ [by8], congrArg (Value.int .i64) (by omega), by omega, ho2, HE2, hb2⟩
        case measure => simp [RowKit.intOf]; omega
    ·have HSF := Lib.hid (show b6flush p ⟨n * 64 + u, hv + 6, 0, out⟩ = ⟨n * 64 + u, hv + 6, 0, out⟩ by unfold b6flush; rw [if_neg h3p])
     rw [HSF.out] at HS HBN
     have hpp : ((p : Int) == 3) = false := beq_eq_false_iff_ne.2 (by omega)
     clear HSF HN HP h3p
     go_wp2_with fail
     refine (HIK.out _).mono ?_
     rintro e w1 ⟨rfl, rfl⟩
     go_wp2
     go_roundw
     case rel => exact ⟨k + 1, ⟨n * 64 + u, hv + 6, 0, out⟩, by omega, by go_num, by go_num, by go_num, rfl, hown, by show out.length ≤ _; omega, Lib.hid HBN.out.symm, Lib.hid ⟨HS.out, by show (0 : Nat) ≤ 2; decide⟩, hbw⟩
     case measure => simp [RowKit.intOf]; omega
   ·have HS := Lib.hid (HST.out _ h)
    have HN := Lib.hid (HNX.out _ h)
    have HBN := Lib.hid (show b64 s.data.toList = b6run (s.data.toList.drop (k + 1)) (k + 1) (b6flush (k % 4) ⟨n, hv, 1, out⟩) by rw [HAT.out, h])
    rw [← HP.out] at HS HBN
    rw [hVal.out] at h2
    have hv0 : decide (0 ≤ v) = false := decide_eq_false (by omega)
    have hc : (bt s k == 61) = true := beq_iff_eq.2 (HFI.out.1 h3)
    have hmz : hv % 8 < 8 := Nat.mod_lt _ (by omega)
    obtain ⟨t, ht⟩ : ∃ t : Nat, t = hv % 8 := ⟨_, rfl⟩
    have hvt : (hv : Int) % 8 = (t : Int) := by omega
    have hand := and_i64 n t (by omega) (by omega)
    rw [← ht] at h5
    have ht8 : t < 8 := by omega
    have hpw : ((2 : Int) ^ t) ≤ 128 := by
     have h7 : ((2 ^ t : Nat) : Int) = (2 : Int) ^ t := by simp
     have : 2 ^ t ≤ 2 ^ 7 := Nat.pow_le_pow_right (by omega) (by omega)
     omega
    have hpw0 : 0 < ((2 : Int) ^ t) := by
     have h7 : ((2 ^ t : Nat) : Int) = (2 : Int) ^ t := by simp
     have : 0 < 2 ^ t := Nat.pow_pos (by omega)
     omega
    clear ht hmz
    dsimp only at h1
    subst h1
    dsimp only at h5
    have hm0 : ((n : Int) % 2 ^ t == 0) = true := by rw [show (n : Int) % 2 ^ t = ((n % 2 ^ t : Nat) : Int) by simp, h5]; rfl
    rw [← HP.out] at h4
    have hp2 : decide ((2 : Int) ≤ (p : Int)) = true := decide_eq_true (by omega)
    clear h HAT HST HNX HFI hVal hq0 h2 h3 h5
    by_cases h3p : p = 3
    ·subst h3p
     have HSF := Lib.hid (show b6flush 3 ⟨n, hv, 1, out⟩ = ⟨0, 0, 1, out ++ emit (n) (hv)⟩ from rfl)
     rw [HSF.out] at HS HBN
     have hn2 := HN.out
     dsimp only at hn2
     clear HSF HN HP
     go_wp2_with fail
     refine (HIK.out _).mono ?_
     rintro e w1 ⟨rfl, rfl⟩
     go_wp2_with fail
     have hh24 : hv ≤ 24 := by omega
     clear hn2
     have HEL := Lib.hid (emit_len3 (n) (hv) hh24)
     obtain ⟨xo, rfl⟩ : ∃ xo : World, xo = wr := ⟨_, rfl⟩
     clear hm0 hp2 hc hv0 hvt hand hpw hpw0 ht8
     go_loopw [5, 12] (fun v kk wx => ∃ (m : Nat) (o : List UInt8), kk = .int .i64 ((m : Int) - 8) ∧ m ≤ hv ∧ OwnB wx w.heap.size v o ∧ Hid (o ++ emit (n) m = out ++ emit (n) (hv)) ∧ Below w.heap.size w wx) (fun _ kk _ => (RowKit.intOf kk + 8).toNat)
     case atStart => exact ⟨hv, out, rfl, Nat.le_refl _, hown, Lib.hid rfl, hbw⟩
     case round =>
      obtain ⟨m, o, rfl, hm, hownx, HE, hbx⟩ := hrel
      have hol2 : o.length ≤ 3 * k + 3 := by
       have e := congrArg List.length HE.out
       rw [List.length_append, List.length_append] at e
       have := HEL.out
       omega
      by_cases hm8 : m < 8
      ·have hg0 : decide ((0 : Int) ≤ (m : Int) - 8) = false := decide_eq_false (by omega)
       have hg1 : decide ((8 : Int) ≤ (m : Int)) = false := decide_eq_false (by omega)
       have hg2 : ¬ 8 ≤ m := by omega
       have HOE := Lib.hid (show o = out ++ emit (n) (hv) by have e := HE.out; rw [emit_end _ _ hm8, List.append_nil] at e; exact e)
       clear HE hm8
       go_wp2
       go_roundw
       case rel => exact ⟨k + 1, ⟨0, 0, 1, o⟩, by omega, by go_num, rfl, rfl, rfl, hownx, by show o.length ≤ _; omega, Lib.hid (by rw [HOE.out]; exact HBN.out.symm), Lib.hid ⟨by rw [HOE.out]; exact HS.out, by show (1 : Nat) ≤ 2; decide⟩, hbx⟩
       case measure => simp [RowKit.intOf]; omega
      ·have hg0 : decide ((0 : Int) ≤ (m : Int) - 8) = true := decide_eq_true (by omega)
       have hg1 : decide ((8 : Int) ≤ (m : Int)) = true := decide_eq_true (by omega)
       have hg2 : 8 ≤ m := by omega
       have hg3 : (0 : Int) ≤ (m : Int) - 8 := by omega
       have hg4 : (m : Int) - 8 ≤ 64 := by omega
       have hsh := shr_u8 (n) m
       have hst := emit_step (n) m hg2
       obtain ⟨by8, hby⟩ : ∃ x, x = UInt8.ofNat ((n) / 2 ^ (m - 8)) := ⟨_, rfl⟩
       rw [← hby] at hsh hst
       have HE2 := Lib.hid (show (o ++ [by8]) ++ emit (n) (m - 8) = out ++ emit (n) (hv) by rw [← HE.out, hst, List.append_assoc]; rfl)
       skip
       clear hst hby HE hm8 hbw
       have ho' := hownx
       unfold OwnB at ho'
       go_wp2_with (at_builtin; refine wpList_append_own _ rfl _ _ 80 rfl w.heap.size 5 i0 (.int .u8 0) 1 1 Tryz.underlying80 hi0 hz0 hz1 hz2 rfl (by decide) _ _ _ rfl (ho'.alloc _) ⟨wr.heap.size, 0, none⟩ 1 1 [byteV by8] rfl rfl (cell_one_new _ _ _) ?c1x ?c2x ?c3x ?c4x ?c5x)
       case c1x => exact bytes_oneCell [by8]
       case c2x => unfold maxLen; omega
       case c3x => omega
       case c4x => have := hbx.size; simp; omega
       case c5x =>
        intro v2 w2 hown2 hg5 _
        have hb2 : Below w.heap.size w w2 := (hbx.alloc hbx.size _).grown hg5 (by have := hbx.size; simp; omega) (own_lt ho')
        have ho2 : OwnB w2 w.heap.size v2 (o ++ [by8]) := by
         unfold OwnB
         rw [List.length_append, List.map_append]
         exact hown2
        clear hown2 hg5 ho' hownx
        go_wp2
        go_roundw
        case rel => exact ⟨m - 8, o ++ [by8], congrArg (Value.int .i64) (by omega), by omega, ho2, HE2, hb2⟩
        case measure => simp [RowKit.intOf]; omega
    ·have HSF := Lib.hid (show b6flush p ⟨n, hv, 1, out⟩ = ⟨n, hv, 1, out⟩ by unfold b6flush; rw [if_neg h3p])
     rw [HSF.out] at HS HBN
     have hpp : ((p : Int) == 3) = false := beq_eq_false_iff_ne.2 (by omega)
     clear HSF HN HP h3p
     go_wp2_with fail
     refine (HIK.out _).mono ?_
     rintro e w1 ⟨rfl, rfl⟩
     go_wp2
     go_roundw
     case rel => exact ⟨k + 1, ⟨n, hv, 1, out⟩, by omega, by go_num, rfl, rfl, rfl, hown, by show out.length ≤ _; omega, Lib.hid HBN.out.symm, Lib.hid ⟨HS.out, by show (1 : Nat) ≤ 2; decide⟩, hbw⟩
     case measure => simp [RowKit.intOf]; omega
   ·have HBN := Lib.hid (show b64 s.data.toList = none by rw [HAT.out, h])
    rw [hVal.out] at h2
    have hv0 : decide (0 ≤ v) = false := decide_eq_false (by omega)
    have hc : (bt s k == 61) = true := beq_iff_eq.2 (HFI.out.1 h3)
    have hmz : hv % 8 < 8 := Nat.mod_lt _ (by omega)
    obtain ⟨t, ht⟩ : ∃ t : Nat, t = hv % 8 := ⟨_, rfl⟩
    have hvt : (hv : Int) % 8 = (t : Int) := by omega
    have hand := and_i64 n t (by omega) (by omega)
    rw [← ht] at h5
    have ht8 : t < 8 := by omega
    have hpw : ((2 : Int) ^ t) ≤ 128 := by
     have h7 : ((2 ^ t : Nat) : Int) = (2 : Int) ^ t := by simp
     have : 2 ^ t ≤ 2 ^ 7 := Nat.pow_le_pow_right (by omega) (by omega)
     omega
    have hpw0 : 0 < ((2 : Int) ^ t) := by
     have h7 : ((2 ^ t : Nat) : Int) = (2 : Int) ^ t := by simp
     have : 0 < 2 ^ t := Nat.pow_pos (by omega)
     omega
    clear ht hmz
    dsimp only at h1
    subst h1
    dsimp only at h5
    have hm0 : ((n : Int) % 2 ^ t == 0) = false := by rw [show (n : Int) % 2 ^ t = ((n % 2 ^ t : Nat) : Int) by simp]; exact beq_eq_false_iff_ne.2 (by omega)
    rw [← HP.out] at h4
    have hp2 : decide ((2 : Int) ≤ (p : Int)) = true := decide_eq_true (by omega)
    clear h HAT HST HNX HFI hVal hq0 h2 h3 h5 HP
    go_wp2_with fail
    refine (HIK.out _).mono ?_
    rintro e w1 ⟨rfl, rfl⟩
    go_wp2
    go_ret3
    exact gives_no HBN.out hbw
   ·have HBN := Lib.hid (show b64 s.data.toList = none by rw [HAT.out, h])
    rw [hVal.out] at h2
    have hv0 : decide (0 ≤ v) = false := decide_eq_false (by omega)
    have hc : (bt s k == 61) = true := beq_iff_eq.2 (HFI.out.1 h3)
    dsimp only at h1
    subst h1
    rw [← HP.out] at h4
    have hp2 : decide ((2 : Int) ≤ (p : Int)) = false := decide_eq_false (by omega)
    clear h HAT HST HNX HFI hVal hq0 h2 h3 HP
    go_wp2_with fail
    refine (HIK.out _).mono ?_
    rintro e w1 ⟨rfl, rfl⟩
    go_wp2
    go_ret3
    exact gives_no HBN.out hbw
   ·have HBN := Lib.hid (show b64 s.data.toList = none by rw [HAT.out, h])
    rw [hVal.out] at h2
    have hv0 : decide (0 ≤ v) = false := decide_eq_false (by omega)
    have hc : (bt s k == 61) = false := beq_eq_false_iff_ne.2 (fun g => h3 (HFI.out.2 g))
    dsimp only at h1
    subst h1
    clear h HAT HST HNX HFI hVal hq0 h2 h3 HP
    go_wp2_with fail
    refine (HIK.out _).mono ?_
    rintro e w1 ⟨rfl, rfl⟩
    go_wp2
    go_ret3
    exact gives_no HBN.out hbw
   ·have HS := Lib.hid (HST.out _ h)
    have HN := Lib.hid (HNX.out _ h)
    have HBN := Lib.hid (show b64 s.data.toList = b6run (s.data.toList.drop (k + 1)) (k + 1) (b6flush (k % 4) ⟨n, hv, 2, out⟩) by rw [HAT.out, h])
    rw [← HP.out] at HS HBN
    rw [hVal.out] at h2
    have hv0 : decide (0 ≤ v) = false := decide_eq_false (by omega)
    have hc : (bt s k == 61) = true := beq_iff_eq.2 (HFI.out.1 h3)
    dsimp only at h1
    subst h1
    rw [← HP.out] at h4
    clear h HAT HST HNX HFI hVal hq0 h2 h3
    subst h4
    have HSF := Lib.hid (show b6flush 3 ⟨n, hv, 2, out⟩ = ⟨0, 0, 2, out ++ emit (n) (hv)⟩ from rfl)
    rw [HSF.out] at HS HBN
    have hn2 := HN.out
    dsimp only at hn2
    clear HSF HN HP
    go_wp2_with fail
    refine (HIK.out _).mono ?_
    rintro e w1 ⟨rfl, rfl⟩
    go_wp2_with fail
    have hh24 : hv ≤ 24 := by omega
    clear hn2
    have HEL := Lib.hid (emit_len3 (n) (hv) hh24)
    obtain ⟨xo, rfl⟩ : ∃ xo : World, xo = wr := ⟨_, rfl⟩
    skip
    go_loopw [5, 12] (fun v kk wx => ∃ (m : Nat) (o : List UInt8), kk = .int .i64 ((m : Int) - 8) ∧ m ≤ hv ∧ OwnB wx w.heap.size v o ∧ Hid (o ++ emit (n) m = out ++ emit (n) (hv)) ∧ Below w.heap.size w wx) (fun _ kk _ => (RowKit.intOf kk + 8).toNat)
    case atStart => exact ⟨hv, out, rfl, Nat.le_refl _, hown, Lib.hid rfl, hbw⟩
    case round =>
     obtain ⟨m, o, rfl, hm, hownx, HE, hbx⟩ := hrel
     have hol2 : o.length ≤ 3 * k + 3 := by
      have e := congrArg List.length HE.out
      rw [List.length_append, List.length_append] at e
      have := HEL.out
      omega
     by_cases hm8 : m < 8
     ·have hg0 : decide ((0 : Int) ≤ (m : Int) - 8) = false := decide_eq_false (by omega)
      have hg1 : decide ((8 : Int) ≤ (m : Int)) = false := decide_eq_false (by omega)
      have hg2 : ¬ 8 ≤ m := by omega
      have HOE := Lib.hid (show o = out ++ emit (n) (hv) by have e := HE.out; rw [emit_end _ _ hm8, List.append_nil] at e; exact e)
      clear HE hm8
      go_wp2
      go_roundw
      case rel => exact ⟨k + 1, ⟨0, 0, 2, o⟩, by omega, by go_num, rfl, rfl, rfl, hownx, by show o.length ≤ _; omega, Lib.hid (by rw [HOE.out]; exact HBN.out.symm), Lib.hid ⟨by rw [HOE.out]; exact HS.out, by show (2 : Nat) ≤ 2; decide⟩, hbx⟩
      case measure => simp [RowKit.intOf]; omega
     ·have hg0 : decide ((0 : Int) ≤ (m : Int) - 8) = true := decide_eq_true (by omega)
      have hg1 : decide ((8 : Int) ≤ (m : Int)) = true := decide_eq_true (by omega)
      have hg2 : 8 ≤ m := by omega
      have hg3 : (0 : Int) ≤ (m : Int) - 8 := by omega
      have hg4 : (m : Int) - 8 ≤ 64 := by omega
      have hsh := shr_u8 (n) m
      have hst := emit_step (n) m hg2
      obtain ⟨by8, hby⟩ : ∃ x, x = UInt8.ofNat ((n) / 2 ^ (m - 8)) := ⟨_, rfl⟩
      rw [← hby] at hsh hst
      have HE2 := Lib.hid (show (o ++ [by8]) ++ emit (n) (m - 8) = out ++ emit (n) (hv) by rw [← HE.out, hst, List.append_assoc]; rfl)
      skip
      clear hst hby HE hm8 hbw
      have ho' := hownx
      unfold OwnB at ho'
      go_wp2_with (at_builtin; refine wpList_append_own _ rfl _ _ 80 rfl w.heap.size 5 i0 (.int .u8 0) 1 1 Tryz.underlying80 hi0 hz0 hz1 hz2 rfl (by decide) _ _ _ rfl (ho'.alloc _) ⟨wr.heap.size, 0, none⟩ 1 1 [byteV by8] rfl rfl (cell_one_new _ _ _) ?c1xx ?c2xx ?c3xx ?c4xx ?c5xx)
      case c1xx => exact bytes_oneCell [by8]
      case c2xx => unfold maxLen; omega
      case c3xx => omega
      case c4xx => have := hbx.size; simp; omega
      case c5xx =>
       intro v2 w2 hown2 hg5 _
       have hb2 : Below w.heap.size w w2 := (hbx.alloc hbx.size _).grown hg5 (by have := hbx.size; simp; omega) (own_lt ho')
       have ho2 : OwnB w2 w.heap.size v2 (o ++ [by8]) := by
        unfold OwnB
        rw [List.length_append, List.map_append]
        exact hown2
       clear hown2 hg5 ho' hownx
       go_wp2
       go_roundw
       case rel => exact ⟨m - 8, o ++ [by8], congrArg (Value.int .i64) (by omega), by omega, ho2, HE2, hb2⟩
       case measure => simp [RowKit.intOf]; omega
   ·have HBN := Lib.hid (show b64 s.data.toList = none by rw [HAT.out, h])
    rw [hVal.out] at h2
    have hv0 : decide (0 ≤ v) = false := decide_eq_false (by omega)
    have hc : (bt s k == 61) = true := beq_iff_eq.2 (HFI.out.1 h3)
    dsimp only at h1
    subst h1
    rw [← HP.out] at h5
    have hp0 : ((p : Int) == 0) = false := beq_eq_false_iff_ne.2 (by omega)
    rw [← HP.out] at h4
    have hp3 : ((p : Int) == 3) = false := beq_eq_false_iff_ne.2 (by omega)
    clear h HAT HST HNX HFI hVal hq0 h2 h3 HP h4 h5
    go_wp2_with fail
    refine (HIK.out _).mono ?_
    rintro e w1 ⟨rfl, rfl⟩
    go_wp2
    go_ret3
    exact gives_no HBN.out hbw
   ·have HBN := Lib.hid (show b64 s.data.toList = none by rw [HAT.out, h])
    rw [hVal.out] at h2
    have hv0 : decide (0 ≤ v) = false := decide_eq_false (by omega)
    have hc : (bt s k == 61) = true := beq_iff_eq.2 (HFI.out.1 h3)
    dsimp only at h1
    have hf2 : ((f : Int) == 1) = false := beq_eq_false_iff_ne.2 (by omega)
    dsimp only at h0
    have hfn : 0 < f := by omega
    have hf1 : decide ((0 : Int) < (f : Int)) = true := decide_eq_true (by omega)
    have hf0 : ((f : Int) == 0) = false := beq_eq_false_iff_ne.2 (by omega)
    rw [← HP.out] at h5
    have hp0 : ((p : Int) == 0) = false := beq_eq_false_iff_ne.2 (by omega)
    clear h HAT HST HNX HFI hVal hq0 h2 h3 HP h5 h0 h1
    go_wp2_with fail
    refine (HIK.out _).mono ?_
    rintro e w1 ⟨rfl, rfl⟩
    go_wp2
    go_ret3
    exact gives_no HBN.out hbw
   ·have HBN := Lib.hid (show b64 s.data.toList = none by rw [HAT.out, h])
    rw [hVal.out] at h2
    have hv0 : decide (0 ≤ v) = false := decide_eq_false (by omega)
    have hc : (bt s k == 61) = false := beq_eq_false_iff_ne.2 (fun g => h3 (HFI.out.2 g))
    dsimp only at h0
    have hfn : 0 < f := by omega
    have hf1 : decide ((0 : Int) < (f : Int)) = true := decide_eq_true (by omega)
    have hf0 : ((f : Int) == 0) = false := beq_eq_false_iff_ne.2 (by omega)
    rw [← HP.out] at h5
    have hp0 : ((p : Int) == 0) = false := beq_eq_false_iff_ne.2 (by omega)
    clear h HAT HST HNX HFI hVal hq0 h2 h3 HP h5 h0
    go_wp2_with fail
    refine (HIK.out _).mono ?_
    rintro e w1 ⟨rfl, rfl⟩
    go_wp2
    go_ret3
    exact gives_no HBN.out hbw
   ·have HBN := Lib.hid (show b64 s.data.toList = none by rw [HAT.out, h])
    rw [hVal.out] at h2
    have hv0 : decide (0 ≤ v) = true := decide_eq_true h2
    have hc : (bt s k == 61) = false := beq_eq_false_iff_ne.2 (fun g => h3 (HFI.out.2 g))
    dsimp only at h0
    have hfn : 0 < f := by omega
    have hf1 : decide ((0 : Int) < (f : Int)) = true := decide_eq_true (by omega)
    have hf0 : ((f : Int) == 0) = false := beq_eq_false_iff_ne.2 (by omega)
    rw [← HP.out] at h5
    have hp0 : ((p : Int) == 0) = false := beq_eq_false_iff_ne.2 (by omega)
    clear h HAT HST HNX HFI hVal hq0 h2 h3 HP h5 h0
    go_wp2_with fail
    refine (HIK.out _).mono ?_
    rintro e w1 ⟨rfl, rfl⟩
    go_wp2
    go_ret3
    exact gives_no HBN.out hbw
  ·obtain rfl : k = s.size := by omega
   have hrun := HB.out
   rw [List.drop_of_length_le (show s.data.toList.length ≤ s.size from Nat.le_refl _), b6run] at hrun
   by_cases h4 : s.size % 4 = 0
   ·have hm : (s.size : Int) % 4 = 0 := by omega
    have HY := Lib.hid (show b64 s.data.toList = some out by rw [← hrun, if_pos h4])
    have hcv := hown.conv
    clear hrun h4 HB HO
    go_wp2
    go_ret3
    exact gives_yes HY.out hbw
   ·have hm : ((s.size : Int) % 4 != 0) = true := bne_iff_ne.2 (by omega)
    have HN := Lib.hid (show b64 s.data.toList = none by rw [← hrun, if_neg h4])
    clear hrun h4 HB HO
    go_wp2
    go_ret3
    exact gives_no HN.out hbw
end Go.Proofs.YtbnafbdhomdcoaaGreatDoor
