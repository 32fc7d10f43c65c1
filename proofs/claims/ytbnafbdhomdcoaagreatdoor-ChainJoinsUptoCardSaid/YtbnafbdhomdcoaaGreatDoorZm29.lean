/-
  TgHp, TgRp, CjB2, CjK, CjW, CjMa, without what the claim does not reach.
-/
import Derived.Test.YtbnafbdhomdcoaaGreatDoorZTgAu
import Derived.Test.YtbnafbdhomdcoaaGreatDoorZm12
import Derived.Test.YtbnafbdhomdcoaaGreatDoorZTgPar
import Derived.Test.YtbnafbdhomdcoaaGreatDoorZm19
import Derived.Test.YtbnafbdhomdcoaaGreatDoorZm10
import Derived.Laws.Entries
import Derived.Test.YtbnafbdhomdcoaaGreatDoorZm20
import Derived.Test.YtbnafbdhomdcoaaGreatDoorZm18
import Derived.Test.YtbnafbdhomdcoaaGreatDoorZm5
import Derived.Test.YtbnafbdhomdcoaaGreatDoorZm16
import Derived.Test.YtbnafbdhomdcoaaGreatDoorZm15
namespace Go.Proofs.YtbnafbdhomdcoaaGreatDoor.T5
open Go.RowKit Go.Shelf Go.Lib
end Go.Proofs.YtbnafbdhomdcoaaGreatDoor.T5
namespace Go.Proofs.YtbnafbdhomdcoaaGreatDoor.T5
open Go.RowKit Go.Shelf Go.Lib
section
variable {m s : ByteArray}
end
theorem Parse_any (m s : ByteArray) (w : World) (hs : s.size ≤ 4194304) (hg : Glob w) :
  Calls Tryz.prog 99 #[.string m, .string s] w fun e w' => e = .returned (tgVal (parseT m s)) ∧ Below w.heap.size w w' := by
 by_cases h0 : s.size = 0
 ·exact Parse_empty m s w h0
 ·by_cases hm : m = connT
  ·exact Parse_conn m s w hs hg h0 hm
  ·by_cases h47 : bt s 0 = 47
   ·exact Parse_origin m s w (by omega) h0 hm h47
   ·by_cases h : s = starT ∧ m = optT
    ·exact Parse_star m s w h0 hm h47 h
    ·by_cases h7 : s.size < 7
     ·exact Parse_short m s w h0 hm h47 h h7
     ·by_cases hh : lower (s.extract 0 7) = httpT
      ·exact Parse_abs m s w hs hg h0 hm h47 h (fun g => g.elim h7 (fun g => g hh))
      ·exact Parse_scheme m s w hs h0 hm h47 h h7 hh
end Go.Proofs.YtbnafbdhomdcoaaGreatDoor.T5
namespace Go.Proofs.YtbnafbdhomdcoaaGreatDoor
theorem wrap_small {x : Int} (h0 : -9223372036854775808 ≤ x) (h1 : x ≤ 9223372036854775807) : IntKind.i64.wrap x = x := IntWalk.i64_in _ ⟨h0, h1⟩
theorem bv_nat (a : Nat) (h : a < 9223372036854775808) : (BitVec.ofInt 64 (a : Int)).toNat = a := by
 rw [BitVec.ofInt_natCast, BitVec.toNat_ofNat]
 exact Nat.mod_eq_of_lt (by omega)
theorem or_i64 (a v : Nat) (ha : a < 1073741824) (hv : v < 64) : bits .or .i64 ((a : Int) * 64) (v : Int) = ((a * 64 + v : Nat) : Int) := by
 have e : ((a : Int) * 64) = ((a * 64 : Nat) : Int) := by omega
 have h2 : (a * 64) ||| v = a * 64 + v := by
  have := Nat.two_pow_add_eq_or_of_lt (i := 6) (b := v) (by omega) a
  rw [Nat.mul_comm a 64]
  exact this.symm
 rw [e]
 show IntKind.i64.wrap (((BitVec.ofInt 64 ((a * 64 : Nat) : Int)) ||| (BitVec.ofInt 64 (v : Int))).toNat : Int) = _
 rw [BitVec.toNat_or, bv_nat _ (by omega), bv_nat _ (by omega), h2]
 exact wrap_small (by omega) (by omega)
theorem and_i64 (a t : Nat) (ha : a < 1073741824) (ht : t < 30) : bits .and .i64 (a : Int) ((2 : Int) ^ t - 1) = ((a % 2 ^ t : Nat) : Int) := by
 have h1 : 0 < 2 ^ t := Nat.pow_pos (by omega)
 have h3 : 2 ^ t ≤ 2 ^ 30 := Nat.pow_le_pow_right (by omega) (by omega)
 have e : ((2 : Int) ^ t - 1) = ((2 ^ t - 1 : Nat) : Int) := by
  have : ((2 ^ t : Nat) : Int) = (2 : Int) ^ t := by simp
  omega
 rw [e]
 show IntKind.i64.wrap (((BitVec.ofInt 64 (a : Int)) &&& (BitVec.ofInt 64 ((2 ^ t - 1 : Nat) : Int))).toNat : Int) = _
 rw [BitVec.toNat_and, bv_nat _ (by omega), bv_nat _ (by omega), Nat.and_two_pow_sub_one_eq_mod]
 have : a % 2 ^ t < 2 ^ t := Nat.mod_lt _ h1
 exact wrap_small (by omega) (by omega)
theorem shr_u8 (n m : Nat) : (n : Int) / 2 ^ (m - 8) % 256 = ((UInt8.ofNat (n / 2 ^ (m - 8))).toNat : Int) := by
 have e2 : (n : Int) / 2 ^ (m - 8) = ((n / 2 ^ (m - 8) : Nat) : Int) := by simp
 rw [e2, UInt8.toNat_ofNat']
 generalize n / 2 ^ (m - 8) = x
 omega
inductive Way (p : Nat) (st : B6) (c : UInt8) : Prop
 | stop (h1 : 0 < st.fill) (h2 : p = 0) (h : b6next p st c = none)
 | sign (h1 : st.fill = 0) (h2 : 0 ≤ of64 c) (h : b6next p st c = some ⟨st.n * 64 + val64 c, st.hv + 6, 0, st.out⟩)
 | one (h1 : st.fill = 0) (h2 : of64 c < 0) (h3 : c = 61) (h4 : 2 ≤ p) (h5 : st.n % 2 ^ (st.hv % 8) = 0) (h : b6next p st c = some ⟨st.n, st.hv, 1, st.out⟩)
 | mask (h1 : st.fill = 0) (h2 : of64 c < 0) (h3 : c = 61) (h4 : 2 ≤ p) (h5 : ¬ st.n % 2 ^ (st.hv % 8) = 0) (h : b6next p st c = none)
 | early (h1 : st.fill = 0) (h2 : of64 c < 0) (h3 : c = 61) (h4 : ¬ 2 ≤ p) (h : b6next p st c = none)
 | none0 (h1 : st.fill = 0) (h2 : of64 c < 0) (h3 : ¬ c = 61) (h : b6next p st c = none)
 | two (h1 : st.fill = 1) (h2 : of64 c < 0) (h3 : c = 61) (h4 : p = 3) (h : b6next p st c = some ⟨st.n, st.hv, 2, st.out⟩)
 | late (h1 : st.fill = 1) (h2 : of64 c < 0) (h3 : c = 61) (h4 : ¬ p = 3) (h5 : ¬ p = 0) (h : b6next p st c = none)
 | more (h1 : ¬ st.fill = 1) (h0 : ¬ st.fill = 0) (h2 : of64 c < 0) (h3 : c = 61) (h5 : ¬ p = 0) (h : b6next p st c = none)
 | none1 (h0 : ¬ st.fill = 0) (h2 : of64 c < 0) (h3 : ¬ c = 61) (h5 : ¬ p = 0) (h : b6next p st c = none)
 | sign1 (h0 : ¬ st.fill = 0) (h2 : 0 ≤ of64 c) (h3 : ¬ c = 61) (h5 : ¬ p = 0) (h : b6next p st c = none)
theorem way_of (p : Nat) (st : B6) (c : UInt8) : Way p st c := by
 have h61 := of64_fill
 by_cases hf : st.fill = 0
 ·have hp : ¬ (0 < st.fill ∧ p = 0) := by omega
  by_cases hv : 0 ≤ of64 c
  ·exact .sign hf hv (by unfold b6next; rw [if_neg hp, if_pos ⟨hv, hf⟩])
  ·have hn : ¬ (0 ≤ of64 c ∧ st.fill = 0) := fun g => hv g.1
   have h1 : ¬ st.fill = 1 := by omega
   by_cases hc : c = 61
   ·by_cases h2 : 2 ≤ p
    ·by_cases hm : st.n % 2 ^ (st.hv % 8) = 0
     ·exact .one hf (by omega) hc h2 hm (by unfold b6next; rw [if_neg hp, if_neg hn, if_pos ⟨hc, hf, h2, hm⟩])
     ·exact .mask hf (by omega) hc h2 hm (by unfold b6next; rw [if_neg hp, if_neg hn, if_neg (fun g => hm g.2.2.2), if_neg (fun g => h1 g.2.1)])
    ·exact .early hf (by omega) hc h2 (by unfold b6next; rw [if_neg hp, if_neg hn, if_neg (fun g => h2 g.2.2.1), if_neg (fun g => h1 g.2.1)])
   ·exact .none0 hf (by omega) hc (by unfold b6next; rw [if_neg hp, if_neg hn, if_neg (fun g => hc g.1), if_neg (fun g => hc g.1)])
 ·by_cases hp : p = 0
  ·exact .stop (by omega) hp (by unfold b6next; rw [if_pos ⟨by omega, hp⟩])
  ·have hp' : ¬ (0 < st.fill ∧ p = 0) := fun g => hp g.2
   have hn : ¬ (0 ≤ of64 c ∧ st.fill = 0) := fun g => hf g.2
   by_cases hc : c = 61
   ·have hv : of64 c < 0 := by rw [hc, h61]; omega
    by_cases h1 : st.fill = 1
    ·by_cases h3 : p = 3
     ·exact .two h1 hv hc h3 (by unfold b6next; rw [if_neg hp', if_neg hn, if_neg (fun g => hf g.2.1), if_pos ⟨hc, h1, h3⟩])
     ·exact .late h1 hv hc h3 hp (by unfold b6next; rw [if_neg hp', if_neg hn, if_neg (fun g => hf g.2.1), if_neg (fun g => h3 g.2.2)])
    ·exact .more h1 hf hv hc hp (by unfold b6next; rw [if_neg hp', if_neg hn, if_neg (fun g => hf g.2.1), if_neg (fun g => h1 g.2.1)])
   ·by_cases hv : 0 ≤ of64 c
    ·exact .sign1 hf hv hc hp (by unfold b6next; rw [if_neg hp', if_neg hn, if_neg (fun g => hf g.2.1), if_neg (fun g => hc g.1)])
    ·exact .none1 hf (by omega) hc hp (by unfold b6next; rw [if_neg hp', if_neg hn, if_neg (fun g => hf g.2.1), if_neg (fun g => hc g.1)])
theorem emit_step (n m : Nat) (h : 8 ≤ m) : emit n m = UInt8.ofNat (n / 2 ^ (m - 8)) :: emit n (m - 8) := by
 rw [emit, if_neg (by omega)]
theorem emit_end (n m : Nat) (h : m < 8) : emit n m = [] := by
 rw [emit, if_pos h]
theorem b6_at {l : List UInt8} {k : Nat} {c : UInt8} {st : B6} (h : l[k]? = some c) : b6run (l.drop k) k st = match b6next (k % 4) st c with
  | none => none
  | some s => b6run (l.drop (k + 1)) (k + 1) (b6flush (k % 4) s) := by
 obtain ⟨hk, rfl⟩ := List.getElem?_eq_some_iff.1 h
 rw [List.drop_eq_getElem_cons hk, b6run]
 rfl
end Go.Proofs.YtbnafbdhomdcoaaGreatDoor
namespace Go.Proofs.YtbnafbdhomdcoaaGreatDoor
open Go.RowKit Go.Shelf Go.Lib
theorem byte_list (s : ByteArray) {k : Nat} (h : k < s.size) : s.data.toList[k]? = some s[k] := by
 rw [Array.getElem?_toList]
 exact Array.getElem?_eq_getElem h
theorem quote_step (s : ByteArray) {k : Nat} (h : k < s.size) : quoteTo s (k + 1) = quoteTo s k ++ (if (bt s k = 34 ∨ bt s k = 92) then [92, s[k]] else [s[k]]) := by
 rw [quoteTo_step (byte_list s h)]
 have e : (s[k] = 34 ∨ s[k] = 92) ↔ (bt s k = 34 ∨ bt s k = 92) := by
  rw [← bt_eq h]
  constructor
  ·rintro (h | h)
   ·left; rw [h]; rfl
   ·right; rw [h]; rfl
  ·rintro (h | h)
   ·left; apply UInt8.toNat_inj.1; have : (34 : UInt8).toNat = 34 := rfl; omega
   ·right; apply UInt8.toNat_inj.1; have : (92 : UInt8).toNat = 92 := rfl; omega
 congr 1
 by_cases g : bt s k = 34 ∨ bt s k = 92
 ·rw [if_pos g, if_pos (e.2 g)]
 ·rw [if_neg g, if_neg (fun x => g (e.1 x))]
set_option maxRecDepth 20000 in
set_option maxHeartbeats 2000000 in
theorem Quote_any (s : ByteArray) (w : World) (hf : isFld s = true) (hs : s.size ≤ 1099511627776) :
  Calls Tryz.prog 108 #[.string s] w fun e w' => e = .returned (.tuple #[.string (quoteT s), .int .i64 0]) ∧ Below w.heap.size w w' := by
 have HF := Lib.hid (fun w => IsField_any s w (by unfold maxLen; omega))
 rw [hf] at HF
 have HE := Lib.hid (quoteTo_end s)
 have HZ := Lib.hid (quoteTo_zero s)
 clear hf
 go_enter Tryz.func108, Tryz.ntmps108
 go_wp2_with fail
 refine (HF.out _).mono ?_
 rintro e w1 ⟨rfl, rfl⟩
 have hI0 : Lib.IsBuilderF 145 5 w.heap.size w.heap.size (Lib.byteCells []) (w.alloc (.cells #[.pointer none, .slice none 0 0] 145)) := Lib.IsBuilderF.of (Lib.fresh_isBuilder 145 5 w)
 go_wp2_with fail
 refine (WriteByte_k w.heap.size w.heap.size _ _ _ hI0 (by rw [Lib.byteCells_length]; simp) (by simp)).mono ?_
 rintro e w2 ⟨rfl, h2, b2, _⟩
 have hI : Lib.IsBuilderF 145 5 w.heap.size w.heap.size (Lib.byteCells (quoteTo s 0)) w2 := .inr (by rw [HZ.out]; exact h2)
 have hbw : Below w.heap.size w w2 := ((Below.refl _ w).alloc (Nat.le_refl _) _).trans b2
 have hsz : w.heap.size < w2.heap.size := by have := b2.size; simp at this; omega
 clear h2 b2 hI0
 go_wp2
 go_loopw [12] (fun v wr => ∃ k : Nat, k ≤ s.size ∧ v = .int .i64 k ∧ Lib.IsBuilderF 145 5 w.heap.size w.heap.size (Lib.byteCells (quoteTo s k)) wr ∧ Below w.heap.size w wr ∧ w.heap.size < wr.heap.size) (fun v _ => s.size - (RowKit.intOf v).toNat)
 case atStart => exact ⟨0, by omega, rfl, hI, hbw, hsz⟩
 case round =>
  clear hI hbw hsz
  obtain ⟨k, hk, rfl, hI, hbw, hsz⟩ := hrel
  have hlen := quoteTo_len s k
  by_cases hlt : k < s.size
  ·have hb := @bt_eq s k hlt
   have HQ := Lib.hid (quote_step s hlt)
   have hq : ((bt s k == 34) = true ∧ (bt s k = 34 ∨ bt s k = 92)) ∨ ((bt s k == 34) = false ∧ (bt s k == 92) = true ∧ (bt s k = 34 ∨ bt s k = 92)) ∨ ((bt s k == 34) = false ∧ (bt s k == 92) = false ∧ ¬ (bt s k = 34 ∨ bt s k = 92)) := by
    by_cases h1 : bt s k = 34
    ·exact .inl ⟨by simpa using h1, .inl h1⟩
    ·by_cases h2 : bt s k = 92
     ·exact .inr (.inl ⟨by simpa using h1, by simpa using h2, .inr h2⟩)
     ·exact .inr (.inr ⟨by simpa using h1, by simpa using h2, fun g => g.elim h1 h2⟩)
   have hcc : (s[k].toNat : Int) = bt s k := hb
   rcases hq with ⟨q1, q3⟩ | ⟨q1, q2, q3⟩ | ⟨q1, q2, q3⟩
   case inr.inr =>
    have HQ2 := Lib.hid (show quoteTo s (k + 1) = quoteTo s k ++ [s[k]] by rw [HQ.out, if_neg q3])
    clear q3 HQ
    generalize quoteTo s k = acc at *
    go_wp2_with fail
    refine (WriteByte_k w.heap.size w.heap.size _ _ _ hI (by rw [Lib.byteCells_length]; omega) (by have := hbw.size; exact this)).mono ?_
    rintro e w3 ⟨rfl, h3, b3, _⟩
    have hI2 : Lib.IsBuilderF 145 5 w.heap.size w.heap.size (Lib.byteCells (quoteTo s (k + 1))) w3 := .inr (by rw [HQ2.out, ← byte_cells_snoc, hcc]; exact h3)
    have hbw2 := hbw.trans b3
    have hsz2 : w.heap.size < w3.heap.size := Nat.lt_of_lt_of_le hsz b3.size
    clear h3 hI b3
    go_wp2
    go_roundw
    case rel => exact ⟨k + 1, by omega, by go_num, hI2, hbw2, hsz2⟩
    case measure => simp [RowKit.intOf]; omega
   all_goals
    have HQ2 := Lib.hid (show quoteTo s (k + 1) = quoteTo s k ++ [92] ++ [s[k]] by rw [HQ.out, if_pos q3, List.append_assoc]; rfl)
    clear q3 HQ
    generalize quoteTo s k = acc at *
    go_wp2_with fail
    refine (WriteByte_k w.heap.size w.heap.size _ _ _ hI (by rw [Lib.byteCells_length]; omega) (by have := hbw.size; exact this)).mono ?_
    rintro e w3 ⟨rfl, h3, b3, _⟩
    have hI2 : Lib.IsBuilderF 145 5 w.heap.size w.heap.size (Lib.byteCells (acc ++ [92])) w3 := .inr (by rw [← byte_cells_snoc]; exact h3)
    have hbw2 := hbw.trans b3
    have hsz2 : w.heap.size < w3.heap.size := Nat.lt_of_lt_of_le hsz b3.size
    clear h3 hI b3
    go_wp2_with fail
    refine (WriteByte_k w.heap.size w.heap.size _ _ _ hI2 (by rw [Lib.byteCells_length, List.length_append]; simp only [List.length_cons, List.length_nil]; omega) (by have := hbw2.size; exact this)).mono ?_
    rintro e w4 ⟨rfl, h4, b4, _⟩
    have hI3 : Lib.IsBuilderF 145 5 w.heap.size w.heap.size (Lib.byteCells (quoteTo s (k + 1))) w4 := .inr (by rw [HQ2.out, ← byte_cells_snoc, hcc]; exact h4)
    have hbw3 := hbw2.trans b4
    have hsz3 : w.heap.size < w4.heap.size := Nat.lt_of_lt_of_le hsz2 b4.size
    clear h4 hI2 b4
    go_wp2
    go_roundw
    case rel => exact ⟨k + 1, by omega, by go_num, hI3, hbw3, hsz3⟩
    case measure => simp [RowKit.intOf]; omega
  ·obtain rfl : k = s.size := by omega
   generalize quoteTo s s.size = acc at *
   go_wp2_with fail
   refine (WriteByte_k w.heap.size w.heap.size _ _ _ hI (by rw [Lib.byteCells_length]; omega) (by have := hbw.size; exact this)).mono ?_
   rintro e w3 ⟨rfl, h3, b3, _⟩
   have hI2 : Lib.IsBuilderF 145 5 w.heap.size w.heap.size (Lib.byteCells (acc ++ [34])) w3 := .inr (by rw [← byte_cells_snoc]; exact h3)
   have hbw2 := hbw.trans b3
   clear h3 hI b3
   go_wp2_with fail
   refine (Tryz.Builder_String_any_k w.heap.size w.heap.size _ _ hI2 (by have := hbw2.size; exact this)).mono ?_
   rintro e w4 ⟨rfl, _, b4, _⟩
   have HR := Lib.hid HE.out
   go_wp2
   go_ret2
   exact ⟨by rw [HR.out]; rfl, hbw2.trans b4⟩
end Go.Proofs.YtbnafbdhomdcoaaGreatDoor
namespace Go.Proofs.YtbnafbdhomdcoaaGreatDoor
open Go.RowKit Go.Shelf Go.Lib
theorem Keep.low {w w1 w2 w' : World} (h : Keep (Btw w w1) w2 w') (h1 : Below w.heap.size w w1) (h2 : Below w1.heap.size w1 w2) : Below w.heap.size w2 w' :=
 ⟨h.os, h.tape, h.output, h.size, fun k hk => h.block k (Nat.lt_of_lt_of_le hk (Nat.le_trans h1.size h2.size)) (fun hd => by have := hd.1; omega)⟩
end Go.Proofs.YtbnafbdhomdcoaaGreatDoor
namespace Go.Proofs.YtbnafbdhomdcoaaGreatDoor
open Go.RowKit Go.Shelf Go.Lib
abbrev Ma := Mid × Option Addr × Nat
def maV (x : Ma) : List Value := [.int .i64 x.1.kind, .string x.1.name, .string x.1.value, .slice x.2.1 x.1.list.length x.2.2, .int .i64 x.1.n]
def flatM (l : List Ma) : List Value := l.flatMap maV
def MOne (W : World) (x : Ma) : Prop := Row W x.2.1 (x.1.list.map .string) ∧ x.1.list.length ≤ x.2.2
theorem flatM_at : ∀ {l : List Ma} {k : Nat} {x : Ma}, l[k]? = some x → ∀ j, j < 5 → (flatM l)[k * 5 + j]? = (maV x)[j]?
 | [], _, _, h, _, _ => by simp at h
 | y :: l, 0, x, h, j, hj => by
  have e : y = x := by simpa using h
  subst e
  show (maV y ++ flatM l)[0 * 5 + j]? = _
  rw [Nat.zero_mul, Nat.zero_add, List.getElem?_append_left (by show j < 5; exact hj)]
 | y :: l, k + 1, x, h, j, hj => by
  have h' : l[k]? = some x := by simpa using h
  show (maV y ++ flatM l)[(k + 1) * 5 + j]? = _
  rw [List.getElem?_append_right (by show 5 ≤ _; omega), show (k + 1) * 5 + j - (maV y).length = k * 5 + j by show (k + 1) * 5 + j - 5 = _; omega]
  exact flatM_at h' j hj
theorem flatM_length (l : List Ma) : (flatM l).length = l.length * 5 := by
 induction l with
 | nil => rfl
 | cons y l ih =>
  show (maV y ++ flatM l).length = _
  rw [List.length_append, ih, List.length_cons]
  show 5 + _ = _
  omega
theorem RowD.mid {D : Nat → Prop} {w : World} {B : Option Addr} {l : List Ma} {k : Nat} {x : Ma} (h : RowD D w B (flatM l)) (hx : l[k]? = some x) :
  ∃ b off, B = some ⟨b, off, none⟩ ∧ b < w.heap.size ∧ ¬ D b ∧ ∀ j v, (maV x)[j]? = some v → w.cell? ⟨b, off + k * 5 + j, none⟩ = some v := by
 have hl : 0 < (flatM l).length := by
  rw [flatM_length]
  have := (List.getElem?_eq_some_iff.1 hx).1
  omega
 obtain ⟨b, off, e, hb, hd, hc⟩ := h hl
 refine ⟨b, off, e, hb, hd, fun j v hv => ?_⟩
 have hj : j < 5 := (List.getElem?_eq_some_iff.1 hv).1
 rw [Nat.add_assoc]
 exact hc _ _ ((flatM_at hx j hj).trans hv)
end Go.Proofs.YtbnafbdhomdcoaaGreatDoor
