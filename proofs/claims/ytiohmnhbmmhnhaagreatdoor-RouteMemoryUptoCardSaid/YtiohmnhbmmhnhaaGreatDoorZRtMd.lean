/-
 RtMd, without what this claim does not reach.
-/
import Derived.Test.YtiohmnhbmmhnhaaGreatDoorZRtL
namespace Go.Proofs.YtiohmnhbmmhnhaaGreatDoor
open Go.RowKit Go.Shelf Go.Lib
def GivesMade (w : World) (sl : Bool) (l : List Rt) (e : Ending) (w' : World) : Prop :=
 (¬ (newP l).2 = 0 ∧ e = .returned (.tuple #[.pointer none, .bool false, .bool true]) ∧ Below w.heap.size w w') ∨
 (newP l = (0, 0) ∧ ∃ t : Nat, e = .returned (.tuple #[.pointer (some ⟨t, 0, none⟩), .bool true, .bool true]) ∧ w.heap.size ≤ t ∧ TableAt w' t sl l ∧ Below w.heap.size w w')
theorem gives_made_no {w w' : World} {sl : Bool} {l : List Rt} (h : ¬ (newP l).2 = 0) (hb : Below w.heap.size w w') : GivesMade w sl l (.returned (.tuple #[.pointer none, .bool false, .bool true])) w' := .inl ⟨h, rfl, hb⟩
theorem gives_made_yes {w w' : World} {sl : Bool} {l : List Rt} {t : Nat} (h : newP l = (0, 0)) (ht : w.heap.size ≤ t) (hT : TableAt w' t sl l) (hb : Below w.heap.size w w') : GivesMade w sl l (.returned (.tuple #[.pointer (some ⟨t, 0, none⟩), .bool true, .bool true])) w' := .inr ⟨h, t, rfl, ht, hT, hb⟩
set_option maxRecDepth 100000 in
set_option maxHeartbeats 4000000 in
theorem made_any (A : Option Addr) (c : Nat) (la : List Ra) (sl : Bool) (w : World) (hr : Row w A (flatA la)) (hm : AOk w la) (hk : bulkRt (plA la) ≤ 1048576) (hg : GlobR w) :
  Calls Tryz.prog 17 #[.slice A la.length c, .bool sl] w (GivesMade w sl (plA la)) := by
 have HR := Lib.hid (fun (W : World) (h : Below w.heap.size w W) => hr.below h)
 have HM := Lib.hid (fun (W : World) (h : Below w.heap.size w W) => hm.below h)
 have HK := Lib.hid hk
 have HG := Lib.hid (fun (W : World) (h : Below w.heap.size w W) => hg.beyond h)
 have HRO := Lib.hid (routes_any A c la w hr hm hk)
 have HS := Lib.hid (new_same (plA la))
 clear hr hm hk hg
 go_enter Tryz.func17, Tryz.ntmps17
 go_wp2_with fail
 refine HRO.out.mono ?_
 rintro e w2 ⟨IA, ic, li, rfl, hO, hpl, hb2⟩
 have HB2 := Lib.hid hb2
 have HNW := Lib.hid (by have := rtNew_any IA ic li sl w2 (own_row hO.row) hO.ok (by rw [hpl]; exact HK.out) (HG.out w2 HB2.out); rw [hpl] at this; exact this)
 clear hb2 hO hpl HRO
 go_wp2_with fail
 refine HNW.out.mono ?_
 rintro e w3 h3
 have HB3 := Lib.hid (show Below w.heap.size w w3 by
  rcases h3 with ⟨_, _, h⟩ | ⟨_, _, _, _, _, h⟩
  ·exact HB2.out.trans (h.mono HB2.out.size)
  ·exact HB2.out.trans (h.mono HB2.out.size))
 have hv : ∃ (tp : Value) (i : Nat) (cd : Int), newP (plA la) = (i, cd) ∧ e = .returned (.tuple #[tp, .int .i64 (i : Nat), .int .i64 cd]) ∧ ((tp = .pointer none ∧ ¬ cd = 0) ∨ (∃ t : Nat, tp = .pointer (some ⟨t, 0, none⟩) ∧ (i, cd) = ((0 : Nat), (0 : Int)) ∧ w.heap.size ≤ t ∧ TableAt w3 t sl (plA la))) := by
  rcases h3 with ⟨h, rfl, _⟩ | ⟨h, t, rfl, ht, hT, _⟩
  ·exact ⟨_, _, _, rfl, rfl, .inl ⟨rfl, h⟩⟩
  ·exact ⟨_, 0, 0, h, rfl, .inr ⟨t, rfl, rfl, Nat.le_trans HB2.out.size ht, hT⟩⟩
 clear h3 HNW
 obtain ⟨tp, i, cd, hr, rfl, hcase⟩ := hv
 have HCS := Lib.hid hcase
 have HNP := Lib.hid hr
 have HPN := Lib.hid (plain_any A c la w3 (HR.out w3 HB3.out) (HM.out w3 HB3.out) HK.out)
 have HNR := Lib.hid (HS.out.symm.trans hr)
 clear hr hcase HS
 go_wp2_with fail
 refine HPN.out.mono ?_
 rintro e w4 ⟨PA, pc, lp, rfl, hO4, hpl4, hb4⟩
 have HB34 := Lib.hid hb4
 have HRN := Lib.hid (by have := rtRNew_any PA pc lp w4 (own_row hO4.row) (own_cap hO4.row) hO4.ok (by rw [hpl4]; exact HK.out); rw [hpl4, HNR.out] at this; exact this)
 clear hb4 hO4 hpl4 HPN
 go_wp2_with fail
 refine HRN.out.mono ?_
 rintro e w5 ⟨rfl, hb5⟩
 have HB35 := Lib.hid (HB34.out.trans (hb5.mono HB34.out.size))
 clear hb5 HRN
 dsimp only
 have hee : (cd == cd) = true := by simp
 rcases HCS.out with ⟨rfl, hc0⟩ | ⟨t, rfl, hc0, ht, hT⟩
 ·have h1 : (cd == 0) = false := beq_eq_false_iff_ne.2 hc0
  have h2 : (cd != 0) = true := bne_iff_ne.2 hc0
  have HE := Lib.hid (gives_made_no (sl := sl) (w := w) (w' := w5) (l := plA la) (by rw [HNP.out]; exact hc0) (HB3.out.trans (HB35.out.mono HB3.out.size)))
  clear HCS hc0
  go_wp2
  refine bodyPost_ret (results_tmp3 rfl _ _ _) rfl ?_
  exact HE.out
 ·injection hc0 with e1 e2
  subst e1
  subst e2
  have HE := Lib.hid (gives_made_yes (sl := sl) (w := w) (w' := w5) (l := plA la) HNP.out ht (hT.below HB35.out) (HB3.out.trans (HB35.out.mono HB3.out.size)))
  clear HCS ht hT
  go_wp2
  refine bodyPost_ret (results_tmp3 rfl _ _ _) rfl ?_
  exact HE.out
theorem TableAt.best {w : World} {t : Nat} {sl : Bool} {l : List Rt} (hT : TableAt w t sl l) (path : ByteArray) : IsBest cmpI (fitT path) (· ∈ l.map (·.2)) (patR l path) := by
 obtain ⟨q, es, S, A, c, rs, h⟩ := hT
 rw [← find_pat h.good h.mem path]
 have h1 := find_best (c := cmpI) (fit := fitT path) (texts_sort h.good)
 have e : (fun x => x ∈ es.map (·.1)) = (fun x => x ∈ l.map (·.2)) := by
  funext x
  refine propext ?_
  rw [List.mem_map, List.mem_map]
  exact h.mem x
 rw [e] at h1
 exact h1
theorem TableAt.split {w : World} {t : Nat} {sl : Bool} {l : List Rt} (hT : TableAt w t sl l) {p : ByteArray} (hp : p ∈ l.map (·.2)) : (splitP p).2.2 = true := by
 obtain ⟨q, es, S, A, c, rs, h⟩ := hT
 obtain ⟨r, hr, rfl⟩ := List.mem_map.1 hp
 obtain ⟨x, hx, e⟩ := (h.mem r.2).2 ⟨r, hr, rfl⟩
 rw [← e, h.good.pcs x hx]
theorem fit_no {w : World} {t : Nat} {sl : Bool} {l : List Rt} (hT : TableAt w t sl l) {path q : ByteArray} (hp : patR l path = none) (hq : q ∈ l.map (·.2)) : fitT path q = false := by
 have hb := hT.best path
 rw [hp] at hb
 exact hb q hq
theorem kind_some (l : List Rt) (sl : Bool) (m path p : ByteArray) : (matchF l sl m path (some p)).kind = if 0 ≤ foundP l (plc p l) m then 1 else if m = mOpt then 3 else 2 := by
 by_cases h : 0 ≤ foundP l (plc p l) m
 ·rw [matchF_found h, if_pos h]
 ·rw [matchF_allow h, if_neg h]
theorem emp_test (p : ByteArray) : (p.toList == ([] : List UInt8)) = decide (p = ⟨#[]⟩) := by rw [← eq_str]; rw [show (⟨#[]⟩ : ByteArray).toList = [] by decide +kernel]
theorem empty_test {p : ByteArray} (h : 0 < p.size) : (p.toList == ([] : List UInt8)) = false := by
 rw [emp_test]
 refine decide_eq_false fun e => ?_
 rw [e] at h
 exact absurd h (by decide)
theorem split_pos {p : ByteArray} (h : (splitP p).2.2 = true) : 0 < p.size := by
 rcases Nat.eq_zero_or_pos p.size with h0 | h0
 ·have h1 := chk_none (s := p) (fun hc => by omega)
  rw [chk_yes' h] at h1
  cases h1
 ·exact h0
end Go.Proofs.YtiohmnhbmmhnhaaGreatDoor
namespace Go.Proofs.YtiohmnhbmmhnhaaGreatDoor
open Go.RowKit Go.Shelf Go.Lib
theorem TableAt.goodL {w : World} {t : Nat} {sl : Bool} {l : List Rt} (hT : TableAt w t sl l) : GoodL l ∧ l.length ≤ 256 := by
 obtain ⟨q, es, S, A, c, rs, h⟩ := hT
 exact ⟨h.goodl, h.few⟩
theorem put_len {α : Type} {le : α → α → Bool} {x : α} : ∀ {l : List α}, (putIn le x l).length = l.length + 1
 | [] => rfl
 | y :: l => by
  unfold putIn
  split
  ·rfl
  ·rw [List.length_cons, put_len, List.length_cons]
theorem rising_len {α : Type} [DecidableEq α] {le : α → α → Bool} : ∀ (l out : List α), (l.foldl (fun out s => if out.contains s then out else putIn le s out) out).length ≤ out.length + l.length
 | [], _ => Nat.le_refl _
 | s :: l, out => by
  rw [List.foldl_cons, List.length_cons]
  have h := rising_len (le := le) l (if out.contains s then out else putIn le s out)
  have h2 : (if out.contains s then out else putIn le s out).length ≤ out.length + 1 := by
   split
   ·omega
   ·rw [put_len]
    exact Nat.le_refl _
  omega
theorem allR_len (g : Rt → Bool) : ∀ l : List Rt, (allR l g).length ≤ bulkRt l
 | [] => Nat.le_refl _
 | r :: l => by
  have h := allR_len g l
  have h1 := sum1_len r.1
  rw [bulkRt_cons]
  unfold allR at h ⊢
  unfold bulk1
  rw [List.filter_cons]
  split
  ·rw [List.flatMap_cons, List.length_append]
   omega
  ·omega
theorem allow_len {l : List Rt} (hk : bulkRt l ≤ 1048576) (g : Rt → Bool) : (allowOf l g).length ≤ 1048578 := by
 have h1 := rising_len (le := leS) (withL (allR l g)) []
 have h2 := allR_len g l
 have h3 : (withL (allR l g)).length ≤ (allR l g).length + 2 := by
  unfold withL
  rw [List.length_append, List.length_append]
  split <;> simp
 have h4 : (allowOf l g).length ≤ ([] : List ByteArray).length + (withL (allR l g)).length := h1
 rw [List.length_nil] at h4
 omega
theorem match_len {w : World} {t : Nat} {sl : Bool} {l : List Rt} (hT : TableAt w t sl l) (method path : ByteArray) : (matchP l sl method path).allow.length ≤ 1048578 := by
 obtain ⟨_, _, _, _, _, _, h⟩ := hT
 unfold matchP
 cases patR l path with
 | none =>
  by_cases hs : (segR path).2 = 0 ∧ sl = true
  ·rw [matchF_near hs]
   cases patR l (otherP path) with
   | none => exact Nat.zero_le _
   | some q => exact Nat.zero_le _
  ·rw [matchF_no hs]
   exact Nat.zero_le _
 | some p =>
  by_cases hf : 0 ≤ foundP l (plc p l) method
  ·rw [matchF_found hf]
   exact Nat.zero_le _
  ·rw [matchF_allow hf]
   exact allow_len h.bulk _
def put6 (w : World) (n : Nat) (a b c d e f : Value) : World := (((((w.setCell ⟨n, 0, none⟩ a).setCell ⟨n, 1, none⟩ b).setCell ⟨n, 2, none⟩ c).setCell ⟨n, 3, none⟩ d).setCell ⟨n, 4, none⟩ e).setCell ⟨n, 5, none⟩ f
section
variable {w : World} {n : Nat} {T : TypeId} {u0 u1 u2 u3 u4 u5 : Value} (a b c d e f : Value)
theorem put6_blk (h : Blk w n T #[u0, u1, u2, u3, u4, u5]) : Blk (put6 w n a b c d e f) n T #[a, b, c, d, e, f] := (((((h.set_ 0 a).set_ 1 b).set_ 2 c).set_ 3 d).set_ 4 e).set_ 5 f
theorem put6_below {B : Nat} {w0 : World} (h : Below B w0 w) (hn : B ≤ n) : Below B w0 (put6 w n a b c d e f) := (((((h.setCell hn a).setCell hn b).setCell hn c).setCell hn d).setCell hn e).setCell hn f
theorem set_own {base : Nat} {E : TypeId} {sz k : Nat} {v : Value} {xs : List Value} {cs : Array Value} (h : w.ownsRow base E sz v k xs) (hN : Blk w n T cs) (hne : E ≠ T) (i : Nat) (u : Value) : (w.setCell ⟨n, i, none⟩ u).ownsRow base E sz v k xs :=
 kept_none h (grownBy_cell w ⟨n, i, none⟩ u) (own_blk_ne h hN hne)
theorem put6_own {base : Nat} {E : TypeId} {sz k : Nat} {v : Value} {xs : List Value} {cs : Array Value} (h : w.ownsRow base E sz v k xs) (hN : Blk w n T cs) (hne : E ≠ T) : (put6 w n a b c d e f).ownsRow base E sz v k xs := by
 have h1 := set_own h hN hne 0 a
 have n1 := hN.set_ 0 a
 have h2 := set_own h1 n1 hne 1 b
 have n2 := n1.set_ 1 b
 have h3 := set_own h2 n2 hne 2 c
 have n3 := n2.set_ 2 c
 have h4 := set_own h3 n3 hne 3 d
 have n4 := n3.set_ 3 d
 have h5 := set_own h4 n4 hne 4 e
 have n5 := n4.set_ 4 e
 exact set_own h5 n5 hne 5 f
end
end Go.Proofs.YtiohmnhbmmhnhaaGreatDoor
namespace Go.Proofs.YtiohmnhbmmhnhaaGreatDoor
open Go.RowKit Go.Shelf Go.Lib
theorem places_every : ∀ (l : List Rt) (i : Nat), placesOf (fun _ : Rt => true) l i = List.range' i l.length
 | [], _ => rfl
 | x :: l, i => by
  unfold placesOf
  rw [if_pos rfl, places_every l (i + 1), List.length_cons, List.range'_succ]
theorem range_snoc (k : Nat) : List.range' 0 (k + 1) = List.range' 0 k ++ [k] := by
 rw [List.range'_concat]
 simp
theorem All_nil (w : World) : Calls Tryz.prog 25 #[.pointer none] w fun e w' => e = .returned (.slice none 0 0) ∧ w = w' := by
 go_enter Tryz.func25, Tryz.ntmps25
 go_wp2
 go_ret
 exact ⟨rfl, rfl⟩
set_option maxRecDepth 100000 in
set_option maxHeartbeats 4000000 in
theorem All_any (t : Nat) (sl : Bool) (l : List Rt) (w : World) (hT : TableAt w t sl l) :
  Calls Tryz.prog 25 #[.pointer (some ⟨t, 0, none⟩)] w (GivesTx w (allowOf l (fun _ : Rt => true))) := by
 obtain ⟨i0, hi0, hz0, hz1, hz2⟩ := info_parts info_int
 have HT := Lib.hid hT
 obtain ⟨q, es, S, A, c, rs, h⟩ := hT
 have c1 := h.c1
 have hlow := h.low
 have HL := Lib.hid (show rs.length = l.length by rw [← plA_length rs, h.pl])
 have hfew : rs.length ≤ 256 := by rw [HL.out]; exact h.few
 have HB0 := Lib.hid (Below.refl w.heap.size w)
 clear h
 go_enter Tryz.func25, Tryz.ntmps25
 go_wp2
 go_loopw [3, 12] (fun v i wr => ∃ k : Nat, k ≤ rs.length ∧ i = .int .i64 k ∧ Hid (wr.ownsRow w.heap.size 3 1 v k (numsV (List.range' 0 k))) ∧ Hid (Below w.heap.size w wr)) (fun _ i _ => rs.length - (RowKit.intOf i).toNat)
 case atStart => exact ⟨0, by omega, rfl, Lib.hid (World.ownsRow_nil _ _ _ _), HB0⟩
 case round =>
  obtain ⟨k, hkl, rfl, HO, HB⟩ := hrel
  obtain ⟨NA, nc, rfl⟩ := own_slice HO.out
  by_cases hlt : k < rs.length
  ·have hki : (k : Int) < (rs.length : Int) := by omega
   have hws : w.heap.size ≤ wr.heap.size := HB.out.size
   go_wp2_with (at_builtin; refine wpList_append_any _ rfl (.tmp 15) (.tmp 17) 82 rfl w.heap.size 3 i0 (.int .i64 0) 1 8 Tryz.underlying82 hi0 hz0 hz1 hz2 rfl (by decide) (.slice NA k nc) k (numsV (List.range' 0 k)) rfl (HO.out.alloc _) _ (some ⟨wr.heap.size, 0, none⟩) 1 1 [.int .i64 (k : Int)] rfl (reads_of_row (row_newc wr _ 3 (by simp)) rfl (by decide)) (by intro u hu; simp at hu; subst hu; rfl) (by unfold maxLen; omega) (by omega) (by simp; omega) ?_; intro v5 w5 hown5 hg5 halt5)
   have HO5 := Lib.hid (show w5.ownsRow w.heap.size 3 1 v5 (k + 1) (numsV (List.range' 0 (k + 1))) from by rw [range_snoc, numsV_snoc]; exact hown5)
   have HB5 := Lib.hid ((HB.out.alloc HB.out.size (.cells #[.int .i64 (k : Int)] 3)).grown hg5 (by simp; omega) (own_lt HO.out))
   clear hown5 hg5 halt5
   go_roundw
   case rel => exact ⟨k + 1, by omega, by go_num, HO5, HB5⟩
   case measure => simp [RowKit.intOf]; omega
  ·obtain rfl : k = rs.length := by omega
   have HME := Lib.hid (show Calls Tryz.prog 48 #[.pointer (some ⟨t, 0, none⟩), .slice NA rs.length nc] wr (GivesTx wr (allowOf l (fun _ : Rt => true))) from by
    have := methods_any t sl l NA nc (fun _ : Rt => true) wr (HT.out.below HB.out) (by rw [places_every, ← HL.out]; exact own_row HO.out)
    rw [places_every, List.length_range', ← HL.out] at this
    exact this)
   clear HO
   go_wp2_with fail
   refine HME.out.mono ?_
   rintro e w6 ⟨B6, c6, rfl, ho6, hb6⟩
   have HG := Lib.hid (show GivesTx w (allowOf l (fun _ : Rt => true)) (.returned (.slice B6 (allowOf l (fun _ : Rt => true)).length c6)) w6 from ⟨B6, c6, rfl, ho6.mono HB.out.size, HB.out.trans (hb6.mono HB.out.size)⟩)
   clear ho6 hb6
   go_wp2
   go_ret
   exact HG.out
end Go.Proofs.YtiohmnhbmmhnhaaGreatDoor
