/-
  RtLawOrder, without what this claim does not reach.
-/
import Derived.Test.YtiohmnhbmmhnhaaGreatDoorZRtOr
namespace Go.Proofs.YtiohmnhbmmhnhaaGreatDoor
open Go.RowKit Go.Shelf Go.Lib
def put6 (w : World) (n : Nat) (a b c d e f : Value) : World := (((((w.setCell ⟨n, 0, none⟩ a).setCell ⟨n, 1, none⟩ b).setCell ⟨n, 2, none⟩ c).setCell ⟨n, 3, none⟩ d).setCell ⟨n, 4, none⟩ e).setCell ⟨n, 5, none⟩ f
section
variable {w : World} {n : Nat} {T : TypeId} {u0 u1 u2 u3 u4 u5 : Value} (a b c d e f : Value)
theorem put6_blk (h : Blk w n T #[u0, u1, u2, u3, u4, u5]) : Blk (put6 w n a b c d e f) n T #[a, b, c, d, e, f] := (((((h.set_ 0 a).set_ 1 b).set_ 2 c).set_ 3 d).set_ 4 e).set_ 5 f
theorem put6_far {m : Nat} {cs : Array Value} {T' : TypeId} (h : Blk w m T' cs) (hne : m ≠ n) : Blk (put6 w n a b c d e f) m T' cs := (((((h.far hne a).far hne b).far hne c).far hne d).far hne e).far hne f
theorem put6_below {B : Nat} {w0 : World} (h : Below B w0 w) (hn : B ≤ n) : Below B w0 (put6 w n a b c d e f) := (((((h.setCell hn a).setCell hn b).setCell hn c).setCell hn d).setCell hn e).setCell hn f
theorem set_own {base : Nat} {E : TypeId} {sz k : Nat} {v : Value} {xs : List Value} {cs : Array Value} (h : w.ownsRow base E sz v k xs) (hN : Blk w n T cs) (hne : E ≠ T) (i : Nat) (u : Value) : (w.setCell ⟨n, i, none⟩ u).ownsRow base E sz v k xs :=
  kept_none h (grownBy_cell w ⟨n, i, none⟩ u) (own_blk_ne h hN hne)
theorem put6_own {base : Nat} {E : TypeId} {sz k : Nat} {v : Value} {xs : List Value} {cs : Array Value} (h : w.ownsRow base E sz v k xs) (hN : Blk w n T cs) (hne : E ≠ T) : (put6 w n a b c d e f).ownsRow base E sz v k xs := by
  have h1 := set_own h hN hne 0 a
  have n1 := hN.set_ 0 a
  have h2 := set_own h1 n1 hne 1 b
  have n2 := n1.set_ 1 b
  have h3 := set_own h2 n2 hne 2 c
  have n3 := n2.set_ 2 c
  have h4 := set_own h3 n3 hne 3 d
  have n4 := n3.set_ 3 d
  have h5 := set_own h4 n4 hne 4 e
  have n5 := n4.set_ 4 e
  exact set_own h5 n5 hne 5 f
end
def TwoM (w0 : World) (ma mb : Mt) (x y : Value) (W : World) : Prop := ∃ (n1 n2 : Nat) (PA : Option Addr) (pc : Nat) (AA : Option Addr) (ac : Nat) (PB : Option Addr) (pd : Nat) (AB : Option Addr) (ad : Nat),
  x = .pointer (some ⟨n1, 0, none⟩) ∧ y = .pointer (some ⟨n2, 0, none⟩) ∧
  Blk W n1 47 #[.int .i64 ma.kind, .int .i64 ma.route, .string ma.pat, .slice PA ma.par.length pc, .slice AA ma.allow.length ac, .string ma.dest] ∧
  Blk W n2 47 #[.int .i64 mb.kind, .int .i64 mb.route, .string mb.pat, .slice PB mb.par.length pd, .slice AB mb.allow.length ad, .string mb.dest] ∧
  Row W AA (ma.allow.map .string) ∧ Row W AB (mb.allow.map .string) ∧ ma.allow.length ≤ maxLen ∧ Below w0.heap.size w0 W
theorem flatA_take (l : List Ra) (k : Nat) : flatA (l.take k) = (flatA l).take (k * 9) := by
  induction l generalizing k with
  | nil => simp [flatA]
  | cons p l ih =>
    cases k with
    | zero => simp [flatA]
    | succ k =>
      have e : flatA (p :: l) = raV p ++ flatA l := rfl
      have hl : (raV p).length = 9 := rfl
      rw [List.take_succ_cons, show flatA (p :: l.take k) = raV p ++ flatA (l.take k) from rfl, e, List.take_append, hl, ih, List.take_of_length_le (l := raV p) (by rw [hl]; omega), show (k + 1) * 9 - 9 = k * 9 by omega]
theorem flatA_drop (l : List Ra) (k : Nat) : flatA (l.drop k) = (flatA l).drop (k * 9) := by
  induction l generalizing k with
  | nil => simp [flatA]
  | cons p l ih =>
    cases k with
    | zero => simp [flatA]
    | succ k =>
      have e : flatA (p :: l) = raV p ++ flatA l := rfl
      have hl : (raV p).length = 9 := rfl
      rw [List.drop_succ_cons, e, List.drop_append, hl, ih, List.drop_eq_nil_of_le (show (raV p).length ≤ (k + 1) * 9 by rw [hl]; omega), show (k + 1) * 9 - 9 = k * 9 by omega, List.nil_append]
theorem rowA_take {w : World} {A : Option Addr} {l : List Ra} (h : Row w A (flatA l)) (k : Nat) : Row w A (flatA (l.take k)) := fun hl => by
  rw [flatA_take] at hl ⊢
  rw [List.length_take] at hl
  obtain ⟨b, off, e, hb, hc⟩ := h (by omega)
  refine ⟨b, off, e, hb, fun j v hj => hc j v ?_⟩
  rw [List.getElem?_take] at hj
  split at hj
  · exact hj
  · cases hj
theorem rowA_drop {w : World} {b off : Nat} {l : List Ra} (h : Row w (some ⟨b, off, none⟩) (flatA l)) (k : Nat) : Row w (some ⟨b, off + k * 9, none⟩) (flatA (l.drop k)) := fun hl => by
  rw [flatA_drop] at hl ⊢
  rw [List.length_drop] at hl
  obtain ⟨b', off', e, hb, hc⟩ := h (by omega)
  injection e with e
  injection e with e1 e2
  subst e1
  subst e2
  refine ⟨b, off + k * 9, rfl, hb, fun j v hj => ?_⟩
  rw [List.getElem?_drop] at hj
  have := hc _ v hj
  rwa [← Nat.add_assoc] at this
theorem tmod_pos (turn : Int) {L : Nat} (hL : 0 < L) : ∃ N : Nat, N < L ∧ Int.tmod (Int.tmod turn L + L) L = (N : Int) ∧ 0 ≤ Int.tmod turn L + L ∧ Int.tmod turn L + L < 2 * L := by
  have h1 : -(L : Int) < Int.tmod turn L := by
    rcases Int.lt_or_le turn 0 with h | h
    · have := Int.tmod_lt_of_pos (-turn) (show (0 : Int) < L by omega)
      rw [Int.neg_tmod] at this
      omega
    · have := Int.tmod_nonneg (L : Int) h
      omega
  have h2 : Int.tmod turn L < L := Int.tmod_lt_of_pos turn (by omega)
  have h3 : 0 ≤ Int.tmod turn L + L := by omega
  have h4 := Int.tmod_nonneg (L : Int) h3
  have h5 := Int.tmod_lt_of_pos (Int.tmod turn L + L) (show (0 : Int) < L by omega)
  exact ⟨(Int.tmod (Int.tmod turn L + L) L).toNat, by omega, by omega, h3, by omega⟩
set_option maxRecDepth 100000 in
set_option maxHeartbeats 4000000 in
theorem RouteOrder_walk (A : Option Addr) (c : Nat) (la : List Ra) (q : ByteArray × ByteArray) (turn : Int) (w : World) (hr : Row w A (flatA la)) (hm : AOk w la) (hc : la.length ≤ c) (_htu : -9223372036854775808 ≤ turn ∧ turn ≤ 9223372036854775807) (hk : bulkRt (plA la) + (q.1.size + q.2.size + 3) + 0 ≤ 1048576) (hg : GlobR w) :
    Calls Tryz.prog 4 #[.slice A la.length c, (.agg #[.string q.1, .string q.2] : Value), .int .i64 turn] w fun e w' => e = .returned (.bool true) ∧ Below w.heap.size w w' := by
  obtain ⟨qm, qp⟩ := q
  dsimp only at hk
  have hlen4 := bulkRt_len (plA la)
  rw [plA_length] at hlen4
  have hlen5 : la.length ≤ 262144 := by omega
  have hqp : qp.size ≤ 1048576 := by omega
  show Calls Tryz.prog 4 #[.slice A la.length c, .agg #[.string qm, .string qp], .int .i64 turn] w fun e w' => e = .returned (.bool true) ∧ Below w.heap.size w w'
  have HB0 : Hid (Below w.heap.size w (w.alloc (.cells #[.string qm, .string qp] 42))) := Lib.hid ((Below.refl _ w).alloc (Nat.le_refl _) _)
  have HR := Lib.hid (fun (W : World) (h : Below (w.alloc (.cells #[.string qm, .string qp] 42)).heap.size (w.alloc (.cells #[.string qm, .string qp] 42)) W) => (hr.below HB0.out).below h)
  have HM := Lib.hid (fun (W : World) (h : Below (w.alloc (.cells #[.string qm, .string qp] 42)).heap.size (w.alloc (.cells #[.string qm, .string qp] 42)) W) => (hm.below HB0.out).below h)
  have HG := Lib.hid (fun (W : World) (h : Below (w.alloc (.cells #[.string qm, .string qp] 42)).heap.size (w.alloc (.cells #[.string qm, .string qp] 42)) W) => (hg.beyond HB0.out).beyond h)
  have HK := Lib.hid (show bulkRt (plA la) ≤ 1048576 by omega)
  have HQ := Lib.hid (fun (W : World) (h : Below (w.alloc (.cells #[.string qm, .string qp] 42)).heap.size (w.alloc (.cells #[.string qm, .string qp] 42)) W) => (show W.cell? ⟨w.heap.size, 0, none⟩ = some (.string qm) ∧ W.cell? ⟨w.heap.size, 1, none⟩ = some (.string qp) ∧ w.heap.size < W.heap.size from
    have hN : Blk (w.alloc (.cells #[.string qm, .string qp] 42)) w.heap.size 42 #[.string qm, .string qp] := Blk.new w _ _
    ⟨by rw [h.cell (p := ⟨w.heap.size, 0, none⟩) hN.lt]; exact hN.cell 0, by rw [h.cell (p := ⟨w.heap.size, 1, none⟩) hN.lt]; exact hN.cell 1, Nat.lt_of_lt_of_le hN.lt h.size⟩))
  have HAW := Lib.hid (awake_any (w.alloc (.cells #[.string qm, .string qp] 42)) (hg.beyond HB0.out))
  clear hr hm hg hk
  go_enter Tryz.func4, Tryz.ntmps4
  go_wp2_with fail
  generalize w.alloc (.cells #[.string qm, .string qp] 42) = w0 at *
  refine HAW.out.mono ?_
  rintro e w1 ⟨rfl, hb1⟩
  have HB1 := Lib.hid hb1
  have HMA := Lib.hid (made_any A c la true w1 (HR.out w1 hb1) (HM.out w1 hb1) HK.out (HG.out w1 hb1))
  clear hb1 HAW
  go_wp2_with fail
  refine HMA.out.mono ?_
  rintro e w2 (⟨_, rfl, hb2⟩ | ⟨_, t, rfl, _, hT, hb2⟩)
  · have HB2 := Lib.hid (HB1.out.trans (hb2.mono HB1.out.size))
    clear hb2 HMA
    go_wp2
    go_ret
    exact ⟨rfl, HB0.out.trans (HB2.out.mono HB0.out.size)⟩
  · have HB2 := Lib.hid (HB1.out.trans (hb2.mono HB1.out.size))
    have HT := Lib.hid hT
    clear hb2 HMA hT
    by_cases h0 : la.length = 0
    · have hz : ((la.length : Int) == 0) = true := beq_iff_eq.2 (by omega)
      clear h0
      go_wp2
      go_ret
      exact ⟨rfl, HB0.out.trans (HB2.out.mono HB0.out.size)⟩
    · have hz : ((la.length : Int) == 0) = false := beq_eq_false_iff_ne.2 (by omega)
      obtain ⟨N, hN, hNe, hN1, hN2⟩ := tmod_pos turn (show 0 < la.length by omega)
      have hzn : ¬ (la.length : Int) = 0 := by omega
      go_wp2_with fail
      have hNc : N ≤ c := by omega
      have hNl : N ≤ la.length := by omega
      obtain ⟨b, off, rfl, hbl, _⟩ := (HR.out w2 HB2.out) (by rw [flatA_length]; omega)
      have hcN : ¬ c = N := by omega
      have hbk := bulkRt_append (plA (la.take N)) (plA (la.drop N))
      rw [← plA_append, List.take_append_drop] at hbk
      have hbk2 := HK.out
      have HR2 := Lib.hid (fun (W : World) (h : Below w2.heap.size w2 W) => HR.out W (HB2.out.trans (h.mono HB2.out.size)))
      have HM2 := Lib.hid (fun (W : World) (h : Below w2.heap.size w2 W) => HM.out W (HB2.out.trans (h.mono HB2.out.size)))
      have HRD := Lib.hid (fun (W : World) (h : Below w2.heap.size w2 W) => (show Calls Tryz.prog 12 #[.slice (some ⟨b, off + N * 9, none⟩) (la.length - N) (c - N)] W (GivesRa W (plA (la.drop N))) from by
        have := routes_any (some ⟨b, off + N * 9, none⟩) (c - N) (la.drop N) W (rowA_drop (HR2.out W h) N) ((HM2.out W h).drop N) (by omega)
        rw [List.length_drop] at this
        exact this))
      have HRT := Lib.hid (fun (W : World) (h : Below w2.heap.size w2 W) => (show Calls Tryz.prog 12 #[.slice (some ⟨b, off, none⟩) N c] W (GivesRa W (plA (la.take N))) from by
        have := routes_any (some ⟨b, off, none⟩) c (la.take N) W (rowA_take (HR2.out W h) N) ((HM2.out W h).take N) (by omega)
        rw [List.length_take, Nat.min_eq_left hNl] at this
        exact this))
      obtain ⟨r0, hr0, hv0, hv1, hv2⟩ := info_parts info_route
      have HD0 := Lib.hid (show Below w2.heap.size w2 w2.drew from below_drew (Below.refl w2.heap.size w2))
      have HPL := Lib.hid (show plA (la.drop N) ++ plA (la.take N) = rotR N (plA la) by unfold rotR plA; rw [List.map_drop, List.map_take])
      clear hbk hbk2
      go_region_held3 (fun _ => True) (trivial) (first
        | (go_at_call 12; (with_reducible refine (HRD.out _ HD0.out).mono ?_); rintro e w3 ⟨IA, ic, li, rfl, hO3, hpl3, hb3⟩; (have HB3 := Lib.hid (HD0.out.trans (hb3.mono (Nat.le_refl _)))); (have HO3 := Lib.hid hO3); (have HP3 := Lib.hid hpl3); clear hb3 hO3 hpl3)
        | (go_at_call 12; (with_reducible refine (HRT.out _ HB3.out).mono ?_); rintro e w4 ⟨JA, jc, lj, rfl, hO4, hpl4, hb4⟩; (have HB4 := Lib.hid (HB3.out.trans (hb4.mono HB3.out.size))); (have HO4 := Lib.hid hO4); (have HP4 := Lib.hid hpl4); (have HO34 := Lib.hid (HO3.out.below hb4)); clear hb4 hO4 hpl4)
        | (have hli : li.length ≤ 262144 := by (have h1 := congrArg List.length HP3.out); rw [plA_length, plA_length, List.length_drop] at h1; omega
           have hlj : lj.length ≤ 262144 := by (have h1 := congrArg List.length HP4.out); rw [plA_length, plA_length, List.length_take] at h1; omega
           refine step_append_any _ rfl (.tmp 50) (.tmp 54) 22 rfl w2.heap.size 38 r0 (.agg #[.slice none 0 0, .string ⟨#[]⟩, .slice none 0 0, .int .i64 0, .string ⟨#[]⟩, .string ⟨#[]⟩, .string ⟨#[]⟩, .int .i64 0, .int .i64 0]) 9 136 Tryz.underlying22 hr0 hv0 hv1 hv2 rfl (by decide) (.slice IA li.length ic) li.length (flatA li) (by rfl) HO34.out.row _ JA lj.length jc (flatA lj) (by rfl) (reads_of_row (own_row HO4.out.row) (by rw [flatA_length]) (by decide)) (flatA_oneCell lj) (by unfold maxLen; omega) (by omega) HB4.out.size ?_
           intro v5 w5 hown5 hg5 halt5))
      obtain ⟨UA, uc, rfl⟩ := own_slice hown5
      have HU := Lib.hid (show Row w5 UA (flatA (li ++ lj)) from by rw [flatA_append]; exact own_row hown5)
      have HAO := Lib.hid (show AOk w5 (li ++ lj) from fun x hx => by
        rcases List.mem_append.1 hx with hx | hx
        · have h1 := own_other (HO34.out.met x hx) hg5 (apart_types HO34.out.row (HO34.out.met x hx) (by decide))
          exact ⟨own_row h1, own_cap h1⟩
        · have h1 := own_other (HO4.out.met x hx) hg5 (apart_types HO34.out.row (HO4.out.met x hx) (by decide))
          exact ⟨own_row h1, own_cap h1⟩)
      have HB5 := Lib.hid (HB4.out.grown hg5 HB4.out.size (own_lt HO34.out.row))
      have HPU := Lib.hid (show plA (li ++ lj) = rotR N (plA la) by rw [plA_append, HP3.out, HP4.out, HPL.out])
      have hgl := HT.out.goodL
      have HNP := Lib.hid (good_new (hgl.1.rot N) (by rw [rot_len]; exact hgl.2))
      have hbr : bulkRt (rotR N (plA la)) = bulkRt (plA la) := by
        unfold rotR
        have h1 := bulkRt_append ((plA la).take N) ((plA la).drop N)
        rw [List.take_append_drop] at h1
        rw [bulkRt_append]
        omega
      have HNW := Lib.hid (show Calls Tryz.prog 13 #[.slice UA (li.length + lj.length) uc, .bool true] w5 (GivesNew w5 true (rotR N (plA la)) (0, 0)) from by
        have := rtNew_any UA uc (li ++ lj) true w5 HU.out HAO.out (by rw [HPU.out, hbr]; exact HK.out) (HG.out w5 (HB2.out.trans (HB5.out.mono HB2.out.size)))
        rw [HPU.out, HNP.out, List.length_append] at this
        exact this)
      clear hown5 hg5 halt5 hgl hbr HO3 HO4 HO34 HU HAO hli hlj HRD HRT HD0
      go_wp2_with fail
      refine HNW.out.mono ?_
      rintro e w6 (⟨h, _⟩ | ⟨_, u, rfl, _, hU, hb6⟩)
      · exact absurd rfl h
      have HB6 := Lib.hid (HB5.out.trans (hb6.mono HB5.out.size))
      have HB60 := Lib.hid (HB2.out.trans (HB6.out.mono HB2.out.size))
      have HU6 := Lib.hid hU
      have HT6 := Lib.hid (HT.out.below HB6.out)
      have HOL := Lib.hid (order_law (by rw [plA_length]; exact hN) HT.out hU qm qp)
      clear hU hb6 HNW HT
      dsimp only
      go_upto_region 11 with (fail)
      have HSC := Lib.hid (fun (W : World) (h : Below w6.heap.size w6 W) => (⟨(HQ.out W (HB60.out.trans (h.mono HB60.out.size))).1, (HQ.out W (HB60.out.trans (h.mono HB60.out.size))).2.1⟩ : W.cell? ⟨w.heap.size, 0, none⟩ = some (.string qm) ∧ W.cell? ⟨w.heap.size, 1, none⟩ = some (.string qp)))
      have HD := Lib.hid (below_drew (Below.refl w6.heap.size w6))
      have hS0 := HSC.out _ HD.out
      have HM1 := Lib.hid (fun (W : World) (h : Below w6.heap.size w6 W) => Match_any t true (plA la) qm qp W (HT6.out.below h) (by omega) (HG.out W (HB60.out.trans (h.mono HB60.out.size))))
      have HM2 := Lib.hid (fun (W : World) (h : Below w6.heap.size w6 W) => Match_any u true (rotR N (plA la)) qm qp W (HU6.out.below h) (by omega) (HG.out W (HB60.out.trans (h.mono HB60.out.size))))
      have HAL := Lib.hid (match_len HT6.out qm qp)
      generalize matchP (plA la) true qm qp = ma at *
      generalize matchP (rotR N (plA la)) true qm qp = mb at *
      go_cut [15, 16] (fun x y wx => TwoM w6 ma mb x y wx)
      case first =>
        refine region_T (t := 15) (S := fun w' => w'.cell? ⟨w.heap.size, 0, none⟩ = some (.string qm) ∧ w'.cell? ⟨w.heap.size, 1, none⟩ = some (.string qp)) (by kernel_rfl) hS0 (fun hHeld => ?_)
        refine' anyT_take (i := 0) (v := _) rfl (by kernel_rfl) (by kernel_rfl) (by kernel_rfl) (by kernel_rfl) (by rfl) (fun _ _ _ h => h) (Or.inl ⟨by rfl, ?h1y⟩) hHeld ?h1r
        case h1y => (intro w hSw; (try dsimp only at hSw); (try simp only [List.getElem_toArray, List.getElem_cons_zero]); go_simp; try (with_reducible rfl))
        (try simp only [List.getElem_toArray, List.getElem_cons_zero, Act.put, List.setIfInBounds_toArray, List.set_cons_zero, List.set_cons_succ])
        refine' anyT_take (i := 1) (v := _) rfl (by kernel_rfl) (by kernel_rfl) (by kernel_rfl) (by kernel_rfl) (by rfl) (fun _ _ _ h => h) (Or.inl ⟨by rfl, ?h2y⟩) hHeld ?h2r
        case h2y => (intro w hSw; (try dsimp only at hSw); (try simp only [List.getElem_toArray, List.getElem_cons_succ, List.getElem_cons_zero]); go_simp; try (with_reducible rfl))
        (try simp only [List.getElem_toArray, List.getElem_cons_succ, List.getElem_cons_zero, Act.put, List.setIfInBounds_toArray, List.set_cons_zero, List.set_cons_succ])
        refine' anyT_take (i := 2) (v := _) rfl (by kernel_rfl) (by kernel_rfl) (by kernel_rfl) (by kernel_rfl) (by rfl) (fun _ _ _ h => h) (Or.inl ⟨by rfl, ?h3y⟩) hHeld ?h3r
        case h3y => (intro w hSw; (try dsimp only at hSw); obtain ⟨s0, s1⟩ := hSw; (try simp only [List.getElem_toArray, List.getElem_cons_succ, List.getElem_cons_zero]); go_simp; try (with_reducible rfl))
        (try simp only [List.getElem_toArray, List.getElem_cons_succ, List.getElem_cons_zero, Act.put, List.setIfInBounds_toArray, List.set_cons_zero, List.set_cons_succ])
        refine' anyT_take (i := 3) (v := _) rfl (by kernel_rfl) (by kernel_rfl) (by kernel_rfl) (by kernel_rfl) (by rfl) (fun _ _ _ h => h) (Or.inl ⟨by rfl, ?h4y⟩) hHeld ?h4r
        case h4y => (intro w hSw; (try dsimp only at hSw); (try simp only [List.getElem_toArray, List.getElem_cons_succ, List.getElem_cons_zero]); go_simp; try (with_reducible rfl))
        (try simp only [List.getElem_toArray, List.getElem_cons_succ, List.getElem_cons_zero, Act.put, List.setIfInBounds_toArray, List.set_cons_zero, List.set_cons_succ])
        refine' anyT_take (i := 4) (v := _) rfl (by kernel_rfl) (by kernel_rfl) (by kernel_rfl) (by kernel_rfl) (by rfl) (fun _ _ _ h => h) (Or.inl ⟨by rfl, ?h5y⟩) hHeld ?h5r
        case h5y => (intro w hSw; (try dsimp only at hSw); obtain ⟨s0, s1⟩ := hSw; (try simp only [List.getElem_toArray, List.getElem_cons_succ, List.getElem_cons_zero]); go_simp; try (with_reducible rfl))
        (try simp only [List.getElem_toArray, List.getElem_cons_succ, List.getElem_cons_zero, Act.put, List.setIfInBounds_toArray, List.set_cons_zero, List.set_cons_succ])
        refine' anyT_take (i := 6) (v := _) rfl (by kernel_rfl) (by kernel_rfl) (by kernel_rfl) (by kernel_rfl) (by rfl) (fun _ _ _ h => h) (Or.inl ⟨by rfl, ?h6y⟩) hHeld ?h6r
        case h6y => (intro w hSw; (try dsimp only at hSw); (try simp only [List.getElem_toArray, List.getElem_cons_succ, List.getElem_cons_zero]); go_simp; try (with_reducible rfl))
        (try simp only [List.getElem_toArray, List.getElem_cons_succ, List.getElem_cons_zero, Act.put, List.setIfInBounds_toArray, List.set_cons_zero, List.set_cons_succ])
        refine' anyT_take (i := 7) (v := _) rfl (by kernel_rfl) (by kernel_rfl) (by kernel_rfl) (by kernel_rfl) (by rfl) (fun _ _ _ h => h) (Or.inl ⟨by rfl, ?h7y⟩) hHeld ?h7r
        case h7y => (intro w hSw; (try dsimp only at hSw); (try simp only [List.getElem_toArray, List.getElem_cons_succ, List.getElem_cons_zero]); go_simp; try (with_reducible rfl))
        (try simp only [List.getElem_toArray, List.getElem_cons_succ, List.getElem_cons_zero, Act.put, List.setIfInBounds_toArray, List.set_cons_zero, List.set_cons_succ])
        refine' anyT_take (i := 8) (v := _) rfl (by kernel_rfl) (by kernel_rfl) (by kernel_rfl) (by kernel_rfl) (by rfl) (fun _ _ _ h => h) (Or.inl ⟨by rfl, ?h8y⟩) hHeld ?h8r
        case h8y => (intro w hSw; (try dsimp only at hSw); obtain ⟨s0, s1⟩ := hSw; (try simp only [List.getElem_toArray, List.getElem_cons_succ, List.getElem_cons_zero]); go_simp; try (with_reducible rfl))
        (try simp only [List.getElem_toArray, List.getElem_cons_succ, List.getElem_cons_zero, Act.put, List.setIfInBounds_toArray, List.set_cons_zero, List.set_cons_succ])
        refine' anyT_take (i := 9) (v := _) rfl (by kernel_rfl) (by kernel_rfl) (by kernel_rfl) (by kernel_rfl) (by rfl) (fun _ _ _ h => h) (Or.inl ⟨by rfl, ?h9y⟩) hHeld ?h9r
        case h9y => (intro w hSw; (try dsimp only at hSw); (try simp only [List.getElem_toArray, List.getElem_cons_succ, List.getElem_cons_zero]); go_simp; try (with_reducible rfl))
        (try simp only [List.getElem_toArray, List.getElem_cons_succ, List.getElem_cons_zero, Act.put, List.setIfInBounds_toArray, List.set_cons_zero, List.set_cons_succ])
        refine' anyT_take (i := 10) (v := _) rfl (by kernel_rfl) (by kernel_rfl) (by kernel_rfl) (by kernel_rfl) (by rfl) (fun _ _ _ h => h) (Or.inl ⟨by rfl, ?h10y⟩) hHeld ?h10r
        case h10y => (intro w hSw; (try dsimp only at hSw); obtain ⟨s0, s1⟩ := hSw; (try simp only [List.getElem_toArray, List.getElem_cons_succ, List.getElem_cons_zero]); go_simp; try (with_reducible rfl))
        (try simp only [List.getElem_toArray, List.getElem_cons_succ, List.getElem_cons_zero, Act.put, List.setIfInBounds_toArray, List.set_cons_zero, List.set_cons_succ])
        have HBc := HD
        refine anyT_ready (rs := [5, 12, 13]) (by kernel_rfl) (by simp) ?_
        refine (AllReadyT.cons rfl (fun K hK => ?_) (AllReadyT.cons rfl (fun K hK => ?_) (AllReadyT.cons rfl (fun K hK => ?_) AllReadyT.nil)))
        · go_simp
          go_at_call 18
          (with_reducible refine (HM1.out _ HBc.out).mono ?_)
          rintro e w7 ⟨PA, pc, AA, ac, rfl, hop, hoa, hb⟩
          dsimp only
          have HBc := Lib.hid (HBc.out.trans (hb.mono HBc.out.size))
          have HX := Lib.hid (fun (W : World) (h : Below w7.heap.size w7 W) => own_below hoa h)
          clear hb hop hoa
          refine hK.out _ _ (.inr (HSC.out _ HBc.out)) (fun _ => ?_)
          clear hK K
          (try simp only [List.getElem_toArray, List.getElem_cons_succ, List.getElem_cons_zero, Act.put, List.setIfInBounds_toArray, List.set_cons_zero, List.set_cons_succ])
          refine anyT_ready (rs := [11, 12, 13]) (by kernel_rfl) (by simp) ?_
          refine (AllReadyT.cons rfl (fun K hK => ?_) (AllReadyT.cons rfl (fun K hK => ?_) (AllReadyT.cons rfl (fun K hK => ?_) AllReadyT.nil)))
          · go_simp
            go_at_call 18
            (with_reducible refine (HM2.out _ HBc.out).mono ?_)
            rintro e w8 ⟨PB, pd, AB, ad, rfl, hop, hoa, hb⟩
            dsimp only
            have HBc := Lib.hid (HBc.out.trans (hb.mono HBc.out.size))
            have HX := Lib.hid (fun (W : World) (h : Below w8.heap.size w8 W) => HX.out W (hb.trans (h.mono hb.size)))
            have HY := Lib.hid (fun (W : World) (h : Below w8.heap.size w8 W) => own_below hoa h)
            clear hb hop hoa
            refine hK.out _ _ (.inr (HSC.out _ HBc.out)) (fun _ => ?_)
            clear hK K
            (try simp only [List.getElem_toArray, List.getElem_cons_succ, List.getElem_cons_zero, Act.put, List.setIfInBounds_toArray, List.set_cons_zero, List.set_cons_succ])
            refine anyT_ready (rs := [12, 13]) (by kernel_rfl) (by simp) ?_
            refine (AllReadyT.cons rfl (fun K hK => ?_) (AllReadyT.cons rfl (fun K hK => ?_) AllReadyT.nil))
            · go_simp
              have hl12 : w6.heap.size ≤ w8.heap.size := HBc.out.size
              have hb : Below w8.heap.size w8 (w8.alloc (.cells #[.int .i64 0, .int .i64 0, .string ⟨#[]⟩, .slice none 0 0, .slice none 0 0, .string ⟨#[]⟩] 47)) := (Below.refl _ _).alloc (Nat.le_refl _) _
              have hN : Blk (w8.alloc (.cells #[.int .i64 0, .int .i64 0, .string ⟨#[]⟩, .slice none 0 0, .slice none 0 0, .string ⟨#[]⟩] 47)) w8.heap.size 47 #[.int .i64 0, .int .i64 0, .string ⟨#[]⟩, .slice none 0 0, .slice none 0 0, .string ⟨#[]⟩] := Blk.new w8 _ _
              have HBc := Lib.hid (HBc.out.trans (hb.mono HBc.out.size))
              have HX := Lib.hid (fun (W : World) (h : Below (w8.alloc (.cells #[.int .i64 0, .int .i64 0, .string ⟨#[]⟩, .slice none 0 0, .slice none 0 0, .string ⟨#[]⟩] 47)).heap.size (w8.alloc (.cells #[.int .i64 0, .int .i64 0, .string ⟨#[]⟩, .slice none 0 0, .slice none 0 0, .string ⟨#[]⟩] 47)) W) => HX.out W (hb.trans (h.mono hb.size)))
              have HY := Lib.hid (fun (W : World) (h : Below (w8.alloc (.cells #[.int .i64 0, .int .i64 0, .string ⟨#[]⟩, .slice none 0 0, .slice none 0 0, .string ⟨#[]⟩] 47)).heap.size (w8.alloc (.cells #[.int .i64 0, .int .i64 0, .string ⟨#[]⟩, .slice none 0 0, .slice none 0 0, .string ⟨#[]⟩] 47)) W) => HY.out W (hb.trans (h.mono hb.size)))
              have HP := Lib.hid (fun (W : World) (h : Below (w8.alloc (.cells #[.int .i64 0, .int .i64 0, .string ⟨#[]⟩, .slice none 0 0, .slice none 0 0, .string ⟨#[]⟩] 47)).heap.size (w8.alloc (.cells #[.int .i64 0, .int .i64 0, .string ⟨#[]⟩, .slice none 0 0, .slice none 0 0, .string ⟨#[]⟩] 47)) W) => hN.below h hN.lt)
              clear hb hN
              generalize (w8.alloc (.cells #[.int .i64 0, .int .i64 0, .string ⟨#[]⟩, .slice none 0 0, .slice none 0 0, .string ⟨#[]⟩] 47)) = w9 at *
              refine hK.out _ _ (.inr (HSC.out _ HBc.out)) (fun _ => ?_)
              clear hK K
              (try simp only [List.getElem_toArray, List.getElem_cons_succ, List.getElem_cons_zero, Act.put, List.setIfInBounds_toArray, List.set_cons_zero, List.set_cons_succ])
              refine anyT_ready (rs := [13]) (by kernel_rfl) (by simp) ?_
              refine (AllReadyT.cons rfl (fun K hK => ?_) AllReadyT.nil)
              · go_simp
                have hl13 : w6.heap.size ≤ w9.heap.size := HBc.out.size
                have hne : w8.heap.size ≠ w9.heap.size := Nat.ne_of_lt (HP.out _ (Below.refl _ _)).lt
                have hb : Below w9.heap.size w9 (w9.alloc (.cells #[.int .i64 0, .int .i64 0, .string ⟨#[]⟩, .slice none 0 0, .slice none 0 0, .string ⟨#[]⟩] 47)) := (Below.refl _ _).alloc (Nat.le_refl _) _
                have hN : Blk (w9.alloc (.cells #[.int .i64 0, .int .i64 0, .string ⟨#[]⟩, .slice none 0 0, .slice none 0 0, .string ⟨#[]⟩] 47)) w9.heap.size 47 #[.int .i64 0, .int .i64 0, .string ⟨#[]⟩, .slice none 0 0, .slice none 0 0, .string ⟨#[]⟩] := Blk.new w9 _ _
                have HBc := Lib.hid (HBc.out.trans (hb.mono HBc.out.size))
                have HX := Lib.hid (fun (W : World) (h : Below (w9.alloc (.cells #[.int .i64 0, .int .i64 0, .string ⟨#[]⟩, .slice none 0 0, .slice none 0 0, .string ⟨#[]⟩] 47)).heap.size (w9.alloc (.cells #[.int .i64 0, .int .i64 0, .string ⟨#[]⟩, .slice none 0 0, .slice none 0 0, .string ⟨#[]⟩] 47)) W) => HX.out W (hb.trans (h.mono hb.size)))
                have HY := Lib.hid (fun (W : World) (h : Below (w9.alloc (.cells #[.int .i64 0, .int .i64 0, .string ⟨#[]⟩, .slice none 0 0, .slice none 0 0, .string ⟨#[]⟩] 47)).heap.size (w9.alloc (.cells #[.int .i64 0, .int .i64 0, .string ⟨#[]⟩, .slice none 0 0, .slice none 0 0, .string ⟨#[]⟩] 47)) W) => HY.out W (hb.trans (h.mono hb.size)))
                have HP := Lib.hid (fun (W : World) (h : Below (w9.alloc (.cells #[.int .i64 0, .int .i64 0, .string ⟨#[]⟩, .slice none 0 0, .slice none 0 0, .string ⟨#[]⟩] 47)).heap.size (w9.alloc (.cells #[.int .i64 0, .int .i64 0, .string ⟨#[]⟩, .slice none 0 0, .slice none 0 0, .string ⟨#[]⟩] 47)) W) => HP.out W (hb.trans (h.mono hb.size)))
                have HQ2 := Lib.hid (fun (W : World) (h : Below (w9.alloc (.cells #[.int .i64 0, .int .i64 0, .string ⟨#[]⟩, .slice none 0 0, .slice none 0 0, .string ⟨#[]⟩] 47)).heap.size (w9.alloc (.cells #[.int .i64 0, .int .i64 0, .string ⟨#[]⟩, .slice none 0 0, .slice none 0 0, .string ⟨#[]⟩] 47)) W) => hN.below h hN.lt)
                clear hb hN
                generalize (w9.alloc (.cells #[.int .i64 0, .int .i64 0, .string ⟨#[]⟩, .slice none 0 0, .slice none 0 0, .string ⟨#[]⟩] 47)) = w10 at *
                refine hK.out _ _ (.inr (HSC.out _ HBc.out)) (fun _ => ?_)
                clear hK K
                (try simp only [List.getElem_toArray, List.getElem_cons_succ, List.getElem_cons_zero, Act.put, List.setIfInBounds_toArray, List.set_cons_zero, List.set_cons_succ])
                refine anyT_ready (rs := [14]) (by kernel_rfl) (by simp) ?_
                refine AllReadyT.cons rfl (fun K hK => ?_) AllReadyT.nil
                have NP := HP.out _ (Below.refl _ _)
                have NQ := HQ2.out _ (Below.refl _ _)
                have OX := HX.out _ (Below.refl _ _)
                have OY := HY.out _ (Below.refl _ _)
                have p0 : w10.cell? ⟨w8.heap.size, 0, none⟩ = some (.int .i64 0) := NP.cell 0
                have z0 : w10.frozen? ⟨w8.heap.size, 0, none⟩ = false := NP.frozen 0
                have p1 : w10.cell? ⟨w8.heap.size, 1, none⟩ = some (.int .i64 0) := NP.cell 1
                have z1 : w10.frozen? ⟨w8.heap.size, 1, none⟩ = false := NP.frozen 1
                have p2 : w10.cell? ⟨w8.heap.size, 2, none⟩ = some (.string ⟨#[]⟩) := NP.cell 2
                have z2 : w10.frozen? ⟨w8.heap.size, 2, none⟩ = false := NP.frozen 2
                have p3 : w10.cell? ⟨w8.heap.size, 3, none⟩ = some (.slice none 0 0) := NP.cell 3
                have z3 : w10.frozen? ⟨w8.heap.size, 3, none⟩ = false := NP.frozen 3
                have p4 : w10.cell? ⟨w8.heap.size, 4, none⟩ = some (.slice none 0 0) := NP.cell 4
                have z4 : w10.frozen? ⟨w8.heap.size, 4, none⟩ = false := NP.frozen 4
                have p5 : w10.cell? ⟨w8.heap.size, 5, none⟩ = some (.string ⟨#[]⟩) := NP.cell 5
                have z5 : w10.frozen? ⟨w8.heap.size, 5, none⟩ = false := NP.frozen 5
                go_simp
                clear p0 p1 p2 p3 p4 p5 z0 z1 z2 z3 z4 z5
                show K _ (put6 w10 w8.heap.size (.int .i64 ma.kind) (.int .i64 ma.route) (.string ma.pat) (.slice PA ma.par.length pc) (.slice AA ma.allow.length ac) (.string ma.dest))
                have HBc := Lib.hid (put6_below (.int .i64 ma.kind) (.int .i64 ma.route) (.string ma.pat) (.slice PA ma.par.length pc) (.slice AA ma.allow.length ac) (.string ma.dest) HBc.out hl12)
                have NQ := put6_far (.int .i64 ma.kind) (.int .i64 ma.route) (.string ma.pat) (.slice PA ma.par.length pc) (.slice AA ma.allow.length ac) (.string ma.dest) NQ hne.symm
                have OX := put6_own (.int .i64 ma.kind) (.int .i64 ma.route) (.string ma.pat) (.slice PA ma.par.length pc) (.slice AA ma.allow.length ac) (.string ma.dest) OX NP (by decide)
                have OY := put6_own (.int .i64 ma.kind) (.int .i64 ma.route) (.string ma.pat) (.slice PA ma.par.length pc) (.slice AA ma.allow.length ac) (.string ma.dest) OY NP (by decide)
                have NP := put6_blk (.int .i64 ma.kind) (.int .i64 ma.route) (.string ma.pat) (.slice PA ma.par.length pc) (.slice AA ma.allow.length ac) (.string ma.dest) NP
                generalize (put6 w10 w8.heap.size (.int .i64 ma.kind) (.int .i64 ma.route) (.string ma.pat) (.slice PA ma.par.length pc) (.slice AA ma.allow.length ac) (.string ma.dest)) = wy at *
                refine hK.out _ _ (.inr (HSC.out _ HBc.out)) (fun _ => ?_)
                clear hK K
                (try simp only [List.getElem_toArray, List.getElem_cons_succ, List.getElem_cons_zero, Act.put, List.setIfInBounds_toArray, List.set_cons_zero, List.set_cons_succ])
                refine anyT_ready (rs := [15]) (by kernel_rfl) (by simp) ?_
                refine AllReadyT.cons rfl (fun K hK => ?_) AllReadyT.nil
                have p0 : wy.cell? ⟨w9.heap.size, 0, none⟩ = some (.int .i64 0) := NQ.cell 0
                have z0 : wy.frozen? ⟨w9.heap.size, 0, none⟩ = false := NQ.frozen 0
                have p1 : wy.cell? ⟨w9.heap.size, 1, none⟩ = some (.int .i64 0) := NQ.cell 1
                have z1 : wy.frozen? ⟨w9.heap.size, 1, none⟩ = false := NQ.frozen 1
                have p2 : wy.cell? ⟨w9.heap.size, 2, none⟩ = some (.string ⟨#[]⟩) := NQ.cell 2
                have z2 : wy.frozen? ⟨w9.heap.size, 2, none⟩ = false := NQ.frozen 2
                have p3 : wy.cell? ⟨w9.heap.size, 3, none⟩ = some (.slice none 0 0) := NQ.cell 3
                have z3 : wy.frozen? ⟨w9.heap.size, 3, none⟩ = false := NQ.frozen 3
                have p4 : wy.cell? ⟨w9.heap.size, 4, none⟩ = some (.slice none 0 0) := NQ.cell 4
                have z4 : wy.frozen? ⟨w9.heap.size, 4, none⟩ = false := NQ.frozen 4
                have p5 : wy.cell? ⟨w9.heap.size, 5, none⟩ = some (.string ⟨#[]⟩) := NQ.cell 5
                have z5 : wy.frozen? ⟨w9.heap.size, 5, none⟩ = false := NQ.frozen 5
                go_simp
                clear p0 p1 p2 p3 p4 p5 z0 z1 z2 z3 z4 z5
                show K _ (put6 wy w9.heap.size (.int .i64 mb.kind) (.int .i64 mb.route) (.string mb.pat) (.slice PB mb.par.length pd) (.slice AB mb.allow.length ad) (.string mb.dest))
                have HBc := Lib.hid (put6_below (.int .i64 mb.kind) (.int .i64 mb.route) (.string mb.pat) (.slice PB mb.par.length pd) (.slice AB mb.allow.length ad) (.string mb.dest) HBc.out hl13)
                have NP := put6_far (.int .i64 mb.kind) (.int .i64 mb.route) (.string mb.pat) (.slice PB mb.par.length pd) (.slice AB mb.allow.length ad) (.string mb.dest) NP hne
                have OX := put6_own (.int .i64 mb.kind) (.int .i64 mb.route) (.string mb.pat) (.slice PB mb.par.length pd) (.slice AB mb.allow.length ad) (.string mb.dest) OX NQ (by decide)
                have OY := put6_own (.int .i64 mb.kind) (.int .i64 mb.route) (.string mb.pat) (.slice PB mb.par.length pd) (.slice AB mb.allow.length ad) (.string mb.dest) OY NQ (by decide)
                have NQ := put6_blk (.int .i64 mb.kind) (.int .i64 mb.route) (.string mb.pat) (.slice PB mb.par.length pd) (.slice AB mb.allow.length ad) (.string mb.dest) NQ
                generalize (put6 wy w9.heap.size (.int .i64 mb.kind) (.int .i64 mb.route) (.string mb.pat) (.slice PB mb.par.length pd) (.slice AB mb.allow.length ad) (.string mb.dest)) = wz at *
                refine hK.out _ _ (.inl (by rfl)) (fun _ => ?_)
                clear hK K
                (try simp only [List.getElem_toArray, List.getElem_cons_succ, List.getElem_cons_zero, Act.put, List.setIfInBounds_toArray, List.set_cons_zero, List.set_cons_succ])
                refine anyT_done (by kernel_rfl) ?_ _
                have HTW := Lib.hid (show TwoM w6 ma mb _ _ wz from ⟨_, _, PA, pc, AA, ac, PB, pd, AB, ad, rfl, rfl, NP, NQ, own_row OX, own_row OY, own_max OX, HBc.out⟩)
                clear NP NQ OX OY hHeld hS0
                go_wp2_with fail
                go_meet
                exact HTW.out
            · go_simp
              have hl13 : w6.heap.size ≤ w8.heap.size := HBc.out.size
              have hb : Below w8.heap.size w8 (w8.alloc (.cells #[.int .i64 0, .int .i64 0, .string ⟨#[]⟩, .slice none 0 0, .slice none 0 0, .string ⟨#[]⟩] 47)) := (Below.refl _ _).alloc (Nat.le_refl _) _
              have hN : Blk (w8.alloc (.cells #[.int .i64 0, .int .i64 0, .string ⟨#[]⟩, .slice none 0 0, .slice none 0 0, .string ⟨#[]⟩] 47)) w8.heap.size 47 #[.int .i64 0, .int .i64 0, .string ⟨#[]⟩, .slice none 0 0, .slice none 0 0, .string ⟨#[]⟩] := Blk.new w8 _ _
              have HBc := Lib.hid (HBc.out.trans (hb.mono HBc.out.size))
              have HX := Lib.hid (fun (W : World) (h : Below (w8.alloc (.cells #[.int .i64 0, .int .i64 0, .string ⟨#[]⟩, .slice none 0 0, .slice none 0 0, .string ⟨#[]⟩] 47)).heap.size (w8.alloc (.cells #[.int .i64 0, .int .i64 0, .string ⟨#[]⟩, .slice none 0 0, .slice none 0 0, .string ⟨#[]⟩] 47)) W) => HX.out W (hb.trans (h.mono hb.size)))
              have HY := Lib.hid (fun (W : World) (h : Below (w8.alloc (.cells #[.int .i64 0, .int .i64 0, .string ⟨#[]⟩, .slice none 0 0, .slice none 0 0, .string ⟨#[]⟩] 47)).heap.size (w8.alloc (.cells #[.int .i64 0, .int .i64 0, .string ⟨#[]⟩, .slice none 0 0, .slice none 0 0, .string ⟨#[]⟩] 47)) W) => HY.out W (hb.trans (h.mono hb.size)))
              have HQ2 := Lib.hid (fun (W : World) (h : Below (w8.alloc (.cells #[.int .i64 0, .int .i64 0, .string ⟨#[]⟩, .slice none 0 0, .slice none 0 0, .string ⟨#[]⟩] 47)).heap.size (w8.alloc (.cells #[.int .i64 0, .int .i64 0, .string ⟨#[]⟩, .slice none 0 0, .slice none 0 0, .string ⟨#[]⟩] 47)) W) => hN.below h hN.lt)
              clear hb hN
              generalize (w8.alloc (.cells #[.int .i64 0, .int .i64 0, .string ⟨#[]⟩, .slice none 0 0, .slice none 0 0, .string ⟨#[]⟩] 47)) = w11 at *
              refine hK.out _ _ (.inr (HSC.out _ HBc.out)) (fun _ => ?_)
              clear hK K
              (try simp only [List.getElem_toArray, List.getElem_cons_succ, List.getElem_cons_zero, Act.put, List.setIfInBounds_toArray, List.set_cons_zero, List.set_cons_succ])
              refine anyT_ready (rs := [12]) (by kernel_rfl) (by simp) ?_
              refine (AllReadyT.cons rfl (fun K hK => ?_) AllReadyT.nil)
              · go_simp
                have hl12 : w6.heap.size ≤ w11.heap.size := HBc.out.size
                have hne : w11.heap.size ≠ w8.heap.size := Nat.ne_of_gt (HQ2.out _ (Below.refl _ _)).lt
                have hb : Below w11.heap.size w11 (w11.alloc (.cells #[.int .i64 0, .int .i64 0, .string ⟨#[]⟩, .slice none 0 0, .slice none 0 0, .string ⟨#[]⟩] 47)) := (Below.refl _ _).alloc (Nat.le_refl _) _
                have hN : Blk (w11.alloc (.cells #[.int .i64 0, .int .i64 0, .string ⟨#[]⟩, .slice none 0 0, .slice none 0 0, .string ⟨#[]⟩] 47)) w11.heap.size 47 #[.int .i64 0, .int .i64 0, .string ⟨#[]⟩, .slice none 0 0, .slice none 0 0, .string ⟨#[]⟩] := Blk.new w11 _ _
                have HBc := Lib.hid (HBc.out.trans (hb.mono HBc.out.size))
                have HX := Lib.hid (fun (W : World) (h : Below (w11.alloc (.cells #[.int .i64 0, .int .i64 0, .string ⟨#[]⟩, .slice none 0 0, .slice none 0 0, .string ⟨#[]⟩] 47)).heap.size (w11.alloc (.cells #[.int .i64 0, .int .i64 0, .string ⟨#[]⟩, .slice none 0 0, .slice none 0 0, .string ⟨#[]⟩] 47)) W) => HX.out W (hb.trans (h.mono hb.size)))
                have HY := Lib.hid (fun (W : World) (h : Below (w11.alloc (.cells #[.int .i64 0, .int .i64 0, .string ⟨#[]⟩, .slice none 0 0, .slice none 0 0, .string ⟨#[]⟩] 47)).heap.size (w11.alloc (.cells #[.int .i64 0, .int .i64 0, .string ⟨#[]⟩, .slice none 0 0, .slice none 0 0, .string ⟨#[]⟩] 47)) W) => HY.out W (hb.trans (h.mono hb.size)))
                have HQ2 := Lib.hid (fun (W : World) (h : Below (w11.alloc (.cells #[.int .i64 0, .int .i64 0, .string ⟨#[]⟩, .slice none 0 0, .slice none 0 0, .string ⟨#[]⟩] 47)).heap.size (w11.alloc (.cells #[.int .i64 0, .int .i64 0, .string ⟨#[]⟩, .slice none 0 0, .slice none 0 0, .string ⟨#[]⟩] 47)) W) => HQ2.out W (hb.trans (h.mono hb.size)))
                have HP := Lib.hid (fun (W : World) (h : Below (w11.alloc (.cells #[.int .i64 0, .int .i64 0, .string ⟨#[]⟩, .slice none 0 0, .slice none 0 0, .string ⟨#[]⟩] 47)).heap.size (w11.alloc (.cells #[.int .i64 0, .int .i64 0, .string ⟨#[]⟩, .slice none 0 0, .slice none 0 0, .string ⟨#[]⟩] 47)) W) => hN.below h hN.lt)
                clear hb hN
                generalize (w11.alloc (.cells #[.int .i64 0, .int .i64 0, .string ⟨#[]⟩, .slice none 0 0, .slice none 0 0, .string ⟨#[]⟩] 47)) = w12 at *
                refine hK.out _ _ (.inr (HSC.out _ HBc.out)) (fun _ => ?_)
                clear hK K
                (try simp only [List.getElem_toArray, List.getElem_cons_succ, List.getElem_cons_zero, Act.put, List.setIfInBounds_toArray, List.set_cons_zero, List.set_cons_succ])
                refine anyT_ready (rs := [14]) (by kernel_rfl) (by simp) ?_
                refine AllReadyT.cons rfl (fun K hK => ?_) AllReadyT.nil
                have NP := HP.out _ (Below.refl _ _)
                have NQ := HQ2.out _ (Below.refl _ _)
                have OX := HX.out _ (Below.refl _ _)
                have OY := HY.out _ (Below.refl _ _)
                have p0 : w12.cell? ⟨w11.heap.size, 0, none⟩ = some (.int .i64 0) := NP.cell 0
                have z0 : w12.frozen? ⟨w11.heap.size, 0, none⟩ = false := NP.frozen 0
                have p1 : w12.cell? ⟨w11.heap.size, 1, none⟩ = some (.int .i64 0) := NP.cell 1
                have z1 : w12.frozen? ⟨w11.heap.size, 1, none⟩ = false := NP.frozen 1
                have p2 : w12.cell? ⟨w11.heap.size, 2, none⟩ = some (.string ⟨#[]⟩) := NP.cell 2
                have z2 : w12.frozen? ⟨w11.heap.size, 2, none⟩ = false := NP.frozen 2
                have p3 : w12.cell? ⟨w11.heap.size, 3, none⟩ = some (.slice none 0 0) := NP.cell 3
                have z3 : w12.frozen? ⟨w11.heap.size, 3, none⟩ = false := NP.frozen 3
                have p4 : w12.cell? ⟨w11.heap.size, 4, none⟩ = some (.slice none 0 0) := NP.cell 4
                have z4 : w12.frozen? ⟨w11.heap.size, 4, none⟩ = false := NP.frozen 4
                have p5 : w12.cell? ⟨w11.heap.size, 5, none⟩ = some (.string ⟨#[]⟩) := NP.cell 5
                have z5 : w12.frozen? ⟨w11.heap.size, 5, none⟩ = false := NP.frozen 5
                go_simp
                clear p0 p1 p2 p3 p4 p5 z0 z1 z2 z3 z4 z5
                show K _ (put6 w12 w11.heap.size (.int .i64 ma.kind) (.int .i64 ma.route) (.string ma.pat) (.slice PA ma.par.length pc) (.slice AA ma.allow.length ac) (.string ma.dest))
                have HBc := Lib.hid (put6_below (.int .i64 ma.kind) (.int .i64 ma.route) (.string ma.pat) (.slice PA ma.par.length pc) (.slice AA ma.allow.length ac) (.string ma.dest) HBc.out hl12)
                have NQ := put6_far (.int .i64 ma.kind) (.int .i64 ma.route) (.string ma.pat) (.slice PA ma.par.length pc) (.slice AA ma.allow.length ac) (.string ma.dest) NQ hne.symm
                have OX := put6_own (.int .i64 ma.kind) (.int .i64 ma.route) (.string ma.pat) (.slice PA ma.par.length pc) (.slice AA ma.allow.length ac) (.string ma.dest) OX NP (by decide)
                have OY := put6_own (.int .i64 ma.kind) (.int .i64 ma.route) (.string ma.pat) (.slice PA ma.par.length pc) (.slice AA ma.allow.length ac) (.string ma.dest) OY NP (by decide)
                have NP := put6_blk (.int .i64 ma.kind) (.int .i64 ma.route) (.string ma.pat) (.slice PA ma.par.length pc) (.slice AA ma.allow.length ac) (.string ma.dest) NP
                generalize (put6 w12 w11.heap.size (.int .i64 ma.kind) (.int .i64 ma.route) (.string ma.pat) (.slice PA ma.par.length pc) (.slice AA ma.allow.length ac) (.string ma.dest)) = wy at *
                refine hK.out _ _ (.inr (HSC.out _ HBc.out)) (fun _ => ?_)
                clear hK K
                (try simp only [List.getElem_toArray, List.getElem_cons_succ, List.getElem_cons_zero, Act.put, List.setIfInBounds_toArray, List.set_cons_zero, List.set_cons_succ])
                refine anyT_ready (rs := [15]) (by kernel_rfl) (by simp) ?_
                refine AllReadyT.cons rfl (fun K hK => ?_) AllReadyT.nil
                have p0 : wy.cell? ⟨w8.heap.size, 0, none⟩ = some (.int .i64 0) := NQ.cell 0
                have z0 : wy.frozen? ⟨w8.heap.size, 0, none⟩ = false := NQ.frozen 0
                have p1 : wy.cell? ⟨w8.heap.size, 1, none⟩ = some (.int .i64 0) := NQ.cell 1
                have z1 : wy.frozen? ⟨w8.heap.size, 1, none⟩ = false := NQ.frozen 1
                have p2 : wy.cell? ⟨w8.heap.size, 2, none⟩ = some (.string ⟨#[]⟩) := NQ.cell 2
                have z2 : wy.frozen? ⟨w8.heap.size, 2, none⟩ = false := NQ.frozen 2
                have p3 : wy.cell? ⟨w8.heap.size, 3, none⟩ = some (.slice none 0 0) := NQ.cell 3
                have z3 : wy.frozen? ⟨w8.heap.size, 3, none⟩ = false := NQ.frozen 3
                have p4 : wy.cell? ⟨w8.heap.size, 4, none⟩ = some (.slice none 0 0) := NQ.cell 4
                have z4 : wy.frozen? ⟨w8.heap.size, 4, none⟩ = false := NQ.frozen 4
                have p5 : wy.cell? ⟨w8.heap.size, 5, none⟩ = some (.string ⟨#[]⟩) := NQ.cell 5
                have z5 : wy.frozen? ⟨w8.heap.size, 5, none⟩ = false := NQ.frozen 5
                go_simp
                clear p0 p1 p2 p3 p4 p5 z0 z1 z2 z3 z4 z5
                show K _ (put6 wy w8.heap.size (.int .i64 mb.kind) (.int .i64 mb.route) (.string mb.pat) (.slice PB mb.par.length pd) (.slice AB mb.allow.length ad) (.string mb.dest))
                have HBc := Lib.hid (put6_below (.int .i64 mb.kind) (.int .i64 mb.route) (.string mb.pat) (.slice PB mb.par.length pd) (.slice AB mb.allow.length ad) (.string mb.dest) HBc.out hl13)
                have NP := put6_far (.int .i64 mb.kind) (.int .i64 mb.route) (.string mb.pat) (.slice PB mb.par.length pd) (.slice AB mb.allow.length ad) (.string mb.dest) NP hne
                have OX := put6_own (.int .i64 mb.kind) (.int .i64 mb.route) (.string mb.pat) (.slice PB mb.par.length pd) (.slice AB mb.allow.length ad) (.string mb.dest) OX NQ (by decide)
                have OY := put6_own (.int .i64 mb.kind) (.int .i64 mb.route) (.string mb.pat) (.slice PB mb.par.length pd) (.slice AB mb.allow.length ad) (.string mb.dest) OY NQ (by decide)
                have NQ := put6_blk (.int .i64 mb.kind) (.int .i64 mb.route) (.string mb.pat) (.slice PB mb.par.length pd) (.slice AB mb.allow.length ad) (.string mb.dest) NQ
                generalize (put6 wy w8.heap.size (.int .i64 mb.kind) (.int .i64 mb.route) (.string mb.pat) (.slice PB mb.par.length pd) (.slice AB mb.allow.length ad) (.string mb.dest)) = wz at *
                refine hK.out _ _ (.inl (by rfl)) (fun _ => ?_)
                clear hK K
                (try simp only [List.getElem_toArray, List.getElem_cons_succ, List.getElem_cons_zero, Act.put, List.setIfInBounds_toArray, List.set_cons_zero, List.set_cons_succ])
                refine anyT_done (by kernel_rfl) ?_ _
                have HTW := Lib.hid (show TwoM w6 ma mb _ _ wz from ⟨_, _, PA, pc, AA, ac, PB, pd, AB, ad, rfl, rfl, NP, NQ, own_row OX, own_row OY, own_max OX, HBc.out⟩)
                clear NP NQ OX OY hHeld hS0
                go_wp2_with fail
                go_meet
                exact HTW.out
          · go_simp
            have hl12 : w6.heap.size ≤ w7.heap.size := HBc.out.size
            have hb : Below w7.heap.size w7 (w7.alloc (.cells #[.int .i64 0, .int .i64 0, .string ⟨#[]⟩, .slice none 0 0, .slice none 0 0, .string ⟨#[]⟩] 47)) := (Below.refl _ _).alloc (Nat.le_refl _) _
            have hN : Blk (w7.alloc (.cells #[.int .i64 0, .int .i64 0, .string ⟨#[]⟩, .slice none 0 0, .slice none 0 0, .string ⟨#[]⟩] 47)) w7.heap.size 47 #[.int .i64 0, .int .i64 0, .string ⟨#[]⟩, .slice none 0 0, .slice none 0 0, .string ⟨#[]⟩] := Blk.new w7 _ _
            have HBc := Lib.hid (HBc.out.trans (hb.mono HBc.out.size))
            have HX := Lib.hid (fun (W : World) (h : Below (w7.alloc (.cells #[.int .i64 0, .int .i64 0, .string ⟨#[]⟩, .slice none 0 0, .slice none 0 0, .string ⟨#[]⟩] 47)).heap.size (w7.alloc (.cells #[.int .i64 0, .int .i64 0, .string ⟨#[]⟩, .slice none 0 0, .slice none 0 0, .string ⟨#[]⟩] 47)) W) => HX.out W (hb.trans (h.mono hb.size)))
            have HP := Lib.hid (fun (W : World) (h : Below (w7.alloc (.cells #[.int .i64 0, .int .i64 0, .string ⟨#[]⟩, .slice none 0 0, .slice none 0 0, .string ⟨#[]⟩] 47)).heap.size (w7.alloc (.cells #[.int .i64 0, .int .i64 0, .string ⟨#[]⟩, .slice none 0 0, .slice none 0 0, .string ⟨#[]⟩] 47)) W) => hN.below h hN.lt)
            clear hb hN
            generalize (w7.alloc (.cells #[.int .i64 0, .int .i64 0, .string ⟨#[]⟩, .slice none 0 0, .slice none 0 0, .string ⟨#[]⟩] 47)) = w13 at *
            refine hK.out _ _ (.inr (HSC.out _ HBc.out)) (fun _ => ?_)
            clear hK K
            (try simp only [List.getElem_toArray, List.getElem_cons_succ, List.getElem_cons_zero, Act.put, List.setIfInBounds_toArray, List.set_cons_zero, List.set_cons_succ])
            refine anyT_ready (rs := [11, 13]) (by kernel_rfl) (by simp) ?_
            refine (AllReadyT.cons rfl (fun K hK => ?_) (AllReadyT.cons rfl (fun K hK => ?_) AllReadyT.nil))
            · go_simp
              go_at_call 18
              (with_reducible refine (HM2.out _ HBc.out).mono ?_)
              rintro e w14 ⟨PB, pd, AB, ad, rfl, hop, hoa, hb⟩
              dsimp only
              have HBc := Lib.hid (HBc.out.trans (hb.mono HBc.out.size))
              have HX := Lib.hid (fun (W : World) (h : Below w14.heap.size w14 W) => HX.out W (hb.trans (h.mono hb.size)))
              have HP := Lib.hid (fun (W : World) (h : Below w14.heap.size w14 W) => HP.out W (hb.trans (h.mono hb.size)))
              have HY := Lib.hid (fun (W : World) (h : Below w14.heap.size w14 W) => own_below hoa h)
              clear hb hop hoa
              refine hK.out _ _ (.inr (HSC.out _ HBc.out)) (fun _ => ?_)
              clear hK K
              (try simp only [List.getElem_toArray, List.getElem_cons_succ, List.getElem_cons_zero, Act.put, List.setIfInBounds_toArray, List.set_cons_zero, List.set_cons_succ])
              refine anyT_ready (rs := [13]) (by kernel_rfl) (by simp) ?_
              refine (AllReadyT.cons rfl (fun K hK => ?_) AllReadyT.nil)
              · go_simp
                have hl13 : w6.heap.size ≤ w14.heap.size := HBc.out.size
                have hne : w7.heap.size ≠ w14.heap.size := Nat.ne_of_lt (HP.out _ (Below.refl _ _)).lt
                have hb : Below w14.heap.size w14 (w14.alloc (.cells #[.int .i64 0, .int .i64 0, .string ⟨#[]⟩, .slice none 0 0, .slice none 0 0, .string ⟨#[]⟩] 47)) := (Below.refl _ _).alloc (Nat.le_refl _) _
                have hN : Blk (w14.alloc (.cells #[.int .i64 0, .int .i64 0, .string ⟨#[]⟩, .slice none 0 0, .slice none 0 0, .string ⟨#[]⟩] 47)) w14.heap.size 47 #[.int .i64 0, .int .i64 0, .string ⟨#[]⟩, .slice none 0 0, .slice none 0 0, .string ⟨#[]⟩] := Blk.new w14 _ _
                have HBc := Lib.hid (HBc.out.trans (hb.mono HBc.out.size))
                have HX := Lib.hid (fun (W : World) (h : Below (w14.alloc (.cells #[.int .i64 0, .int .i64 0, .string ⟨#[]⟩, .slice none 0 0, .slice none 0 0, .string ⟨#[]⟩] 47)).heap.size (w14.alloc (.cells #[.int .i64 0, .int .i64 0, .string ⟨#[]⟩, .slice none 0 0, .slice none 0 0, .string ⟨#[]⟩] 47)) W) => HX.out W (hb.trans (h.mono hb.size)))
                have HP := Lib.hid (fun (W : World) (h : Below (w14.alloc (.cells #[.int .i64 0, .int .i64 0, .string ⟨#[]⟩, .slice none 0 0, .slice none 0 0, .string ⟨#[]⟩] 47)).heap.size (w14.alloc (.cells #[.int .i64 0, .int .i64 0, .string ⟨#[]⟩, .slice none 0 0, .slice none 0 0, .string ⟨#[]⟩] 47)) W) => HP.out W (hb.trans (h.mono hb.size)))
                have HY := Lib.hid (fun (W : World) (h : Below (w14.alloc (.cells #[.int .i64 0, .int .i64 0, .string ⟨#[]⟩, .slice none 0 0, .slice none 0 0, .string ⟨#[]⟩] 47)).heap.size (w14.alloc (.cells #[.int .i64 0, .int .i64 0, .string ⟨#[]⟩, .slice none 0 0, .slice none 0 0, .string ⟨#[]⟩] 47)) W) => HY.out W (hb.trans (h.mono hb.size)))
                have HQ2 := Lib.hid (fun (W : World) (h : Below (w14.alloc (.cells #[.int .i64 0, .int .i64 0, .string ⟨#[]⟩, .slice none 0 0, .slice none 0 0, .string ⟨#[]⟩] 47)).heap.size (w14.alloc (.cells #[.int .i64 0, .int .i64 0, .string ⟨#[]⟩, .slice none 0 0, .slice none 0 0, .string ⟨#[]⟩] 47)) W) => hN.below h hN.lt)
                clear hb hN
                generalize (w14.alloc (.cells #[.int .i64 0, .int .i64 0, .string ⟨#[]⟩, .slice none 0 0, .slice none 0 0, .string ⟨#[]⟩] 47)) = w15 at *
                refine hK.out _ _ (.inr (HSC.out _ HBc.out)) (fun _ => ?_)
                clear hK K
                (try simp only [List.getElem_toArray, List.getElem_cons_succ, List.getElem_cons_zero, Act.put, List.setIfInBounds_toArray, List.set_cons_zero, List.set_cons_succ])
                refine anyT_ready (rs := [14]) (by kernel_rfl) (by simp) ?_
                refine AllReadyT.cons rfl (fun K hK => ?_) AllReadyT.nil
                have NP := HP.out _ (Below.refl _ _)
                have NQ := HQ2.out _ (Below.refl _ _)
                have OX := HX.out _ (Below.refl _ _)
                have OY := HY.out _ (Below.refl _ _)
                have p0 : w15.cell? ⟨w7.heap.size, 0, none⟩ = some (.int .i64 0) := NP.cell 0
                have z0 : w15.frozen? ⟨w7.heap.size, 0, none⟩ = false := NP.frozen 0
                have p1 : w15.cell? ⟨w7.heap.size, 1, none⟩ = some (.int .i64 0) := NP.cell 1
                have z1 : w15.frozen? ⟨w7.heap.size, 1, none⟩ = false := NP.frozen 1
                have p2 : w15.cell? ⟨w7.heap.size, 2, none⟩ = some (.string ⟨#[]⟩) := NP.cell 2
                have z2 : w15.frozen? ⟨w7.heap.size, 2, none⟩ = false := NP.frozen 2
                have p3 : w15.cell? ⟨w7.heap.size, 3, none⟩ = some (.slice none 0 0) := NP.cell 3
                have z3 : w15.frozen? ⟨w7.heap.size, 3, none⟩ = false := NP.frozen 3
                have p4 : w15.cell? ⟨w7.heap.size, 4, none⟩ = some (.slice none 0 0) := NP.cell 4
                have z4 : w15.frozen? ⟨w7.heap.size, 4, none⟩ = false := NP.frozen 4
                have p5 : w15.cell? ⟨w7.heap.size, 5, none⟩ = some (.string ⟨#[]⟩) := NP.cell 5
                have z5 : w15.frozen? ⟨w7.heap.size, 5, none⟩ = false := NP.frozen 5
                go_simp
                clear p0 p1 p2 p3 p4 p5 z0 z1 z2 z3 z4 z5
                show K _ (put6 w15 w7.heap.size (.int .i64 ma.kind) (.int .i64 ma.route) (.string ma.pat) (.slice PA ma.par.length pc) (.slice AA ma.allow.length ac) (.string ma.dest))
                have HBc := Lib.hid (put6_below (.int .i64 ma.kind) (.int .i64 ma.route) (.string ma.pat) (.slice PA ma.par.length pc) (.slice AA ma.allow.length ac) (.string ma.dest) HBc.out hl12)
                have NQ := put6_far (.int .i64 ma.kind) (.int .i64 ma.route) (.string ma.pat) (.slice PA ma.par.length pc) (.slice AA ma.allow.length ac) (.string ma.dest) NQ hne.symm
                have OX := put6_own (.int .i64 ma.kind) (.int .i64 ma.route) (.string ma.pat) (.slice PA ma.par.length pc) (.slice AA ma.allow.length ac) (.string ma.dest) OX NP (by decide)
                have OY := put6_own (.int .i64 ma.kind) (.int .i64 ma.route) (.string ma.pat) (.slice PA ma.par.length pc) (.slice AA ma.allow.length ac) (.string ma.dest) OY NP (by decide)
                have NP := put6_blk (.int .i64 ma.kind) (.int .i64 ma.route) (.string ma.pat) (.slice PA ma.par.length pc) (.slice AA ma.allow.length ac) (.string ma.dest) NP
                generalize (put6 w15 w7.heap.size (.int .i64 ma.kind) (.int .i64 ma.route) (.string ma.pat) (.slice PA ma.par.length pc) (.slice AA ma.allow.length ac) (.string ma.dest)) = wy at *
                refine hK.out _ _ (.inr (HSC.out _ HBc.out)) (fun _ => ?_)
                clear hK K
                (try simp only [List.getElem_toArray, List.getElem_cons_succ, List.getElem_cons_zero, Act.put, List.setIfInBounds_toArray, List.set_cons_zero, List.set_cons_succ])
                refine anyT_ready (rs := [15]) (by kernel_rfl) (by simp) ?_
                refine AllReadyT.cons rfl (fun K hK => ?_) AllReadyT.nil
                have p0 : wy.cell? ⟨w14.heap.size, 0, none⟩ = some (.int .i64 0) := NQ.cell 0
                have z0 : wy.frozen? ⟨w14.heap.size, 0, none⟩ = false := NQ.frozen 0
                have p1 : wy.cell? ⟨w14.heap.size, 1, none⟩ = some (.int .i64 0) := NQ.cell 1
                have z1 : wy.frozen? ⟨w14.heap.size, 1, none⟩ = false := NQ.frozen 1
                have p2 : wy.cell? ⟨w14.heap.size, 2, none⟩ = some (.string ⟨#[]⟩) := NQ.cell 2
                have z2 : wy.frozen? ⟨w14.heap.size, 2, none⟩ = false := NQ.frozen 2
                have p3 : wy.cell? ⟨w14.heap.size, 3, none⟩ = some (.slice none 0 0) := NQ.cell 3
                have z3 : wy.frozen? ⟨w14.heap.size, 3, none⟩ = false := NQ.frozen 3
                have p4 : wy.cell? ⟨w14.heap.size, 4, none⟩ = some (.slice none 0 0) := NQ.cell 4
                have z4 : wy.frozen? ⟨w14.heap.size, 4, none⟩ = false := NQ.frozen 4
                have p5 : wy.cell? ⟨w14.heap.size, 5, none⟩ = some (.string ⟨#[]⟩) := NQ.cell 5
                have z5 : wy.frozen? ⟨w14.heap.size, 5, none⟩ = false := NQ.frozen 5
                go_simp
                clear p0 p1 p2 p3 p4 p5 z0 z1 z2 z3 z4 z5
                show K _ (put6 wy w14.heap.size (.int .i64 mb.kind) (.int .i64 mb.route) (.string mb.pat) (.slice PB mb.par.length pd) (.slice AB mb.allow.length ad) (.string mb.dest))
                have HBc := Lib.hid (put6_below (.int .i64 mb.kind) (.int .i64 mb.route) (.string mb.pat) (.slice PB mb.par.length pd) (.slice AB mb.allow.length ad) (.string mb.dest) HBc.out hl13)
                have NP := put6_far (.int .i64 mb.kind) (.int .i64 mb.route) (.string mb.pat) (.slice PB mb.par.length pd) (.slice AB mb.allow.length ad) (.string mb.dest) NP hne
                have OX := put6_own (.int .i64 mb.kind) (.int .i64 mb.route) (.string mb.pat) (.slice PB mb.par.length pd) (.slice AB mb.allow.length ad) (.string mb.dest) OX NQ (by decide)
                have OY := put6_own (.int .i64 mb.kind) (.int .i64 mb.route) (.string mb.pat) (.slice PB mb.par.length pd) (.slice AB mb.allow.length ad) (.string mb.dest) OY NQ (by decide)
                have NQ := put6_blk (.int .i64 mb.kind) (.int .i64 mb.route) (.string mb.pat) (.slice PB mb.par.length pd) (.slice AB mb.allow.length ad) (.string mb.dest) NQ
                generalize (put6 wy w14.heap.size (.int .i64 mb.kind) (.int .i64 mb.route) (.string mb.pat) (.slice PB mb.par.length pd) (.slice AB mb.allow.length ad) (.string mb.dest)) = wz at *
                refine hK.out _ _ (.inl (by rfl)) (fun _ => ?_)
                clear hK K
                (try simp only [List.getElem_toArray, List.getElem_cons_succ, List.getElem_cons_zero, Act.put, List.setIfInBounds_toArray, List.set_cons_zero, List.set_cons_succ])
                refine anyT_done (by kernel_rfl) ?_ _
                have HTW := Lib.hid (show TwoM w6 ma mb _ _ wz from ⟨_, _, PA, pc, AA, ac, PB, pd, AB, ad, rfl, rfl, NP, NQ, own_row OX, own_row OY, own_max OX, HBc.out⟩)
                clear NP NQ OX OY hHeld hS0
                go_wp2_with fail
                go_meet
                exact HTW.out
            · go_simp
              have hl13 : w6.heap.size ≤ w13.heap.size := HBc.out.size
              have hne : w7.heap.size ≠ w13.heap.size := Nat.ne_of_lt (HP.out _ (Below.refl _ _)).lt
              have hb : Below w13.heap.size w13 (w13.alloc (.cells #[.int .i64 0, .int .i64 0, .string ⟨#[]⟩, .slice none 0 0, .slice none 0 0, .string ⟨#[]⟩] 47)) := (Below.refl _ _).alloc (Nat.le_refl _) _
              have hN : Blk (w13.alloc (.cells #[.int .i64 0, .int .i64 0, .string ⟨#[]⟩, .slice none 0 0, .slice none 0 0, .string ⟨#[]⟩] 47)) w13.heap.size 47 #[.int .i64 0, .int .i64 0, .string ⟨#[]⟩, .slice none 0 0, .slice none 0 0, .string ⟨#[]⟩] := Blk.new w13 _ _
              have HBc := Lib.hid (HBc.out.trans (hb.mono HBc.out.size))
              have HX := Lib.hid (fun (W : World) (h : Below (w13.alloc (.cells #[.int .i64 0, .int .i64 0, .string ⟨#[]⟩, .slice none 0 0, .slice none 0 0, .string ⟨#[]⟩] 47)).heap.size (w13.alloc (.cells #[.int .i64 0, .int .i64 0, .string ⟨#[]⟩, .slice none 0 0, .slice none 0 0, .string ⟨#[]⟩] 47)) W) => HX.out W (hb.trans (h.mono hb.size)))
              have HP := Lib.hid (fun (W : World) (h : Below (w13.alloc (.cells #[.int .i64 0, .int .i64 0, .string ⟨#[]⟩, .slice none 0 0, .slice none 0 0, .string ⟨#[]⟩] 47)).heap.size (w13.alloc (.cells #[.int .i64 0, .int .i64 0, .string ⟨#[]⟩, .slice none 0 0, .slice none 0 0, .string ⟨#[]⟩] 47)) W) => HP.out W (hb.trans (h.mono hb.size)))
              have HQ2 := Lib.hid (fun (W : World) (h : Below (w13.alloc (.cells #[.int .i64 0, .int .i64 0, .string ⟨#[]⟩, .slice none 0 0, .slice none 0 0, .string ⟨#[]⟩] 47)).heap.size (w13.alloc (.cells #[.int .i64 0, .int .i64 0, .string ⟨#[]⟩, .slice none 0 0, .slice none 0 0, .string ⟨#[]⟩] 47)) W) => hN.below h hN.lt)
              clear hb hN
              generalize (w13.alloc (.cells #[.int .i64 0, .int .i64 0, .string ⟨#[]⟩, .slice none 0 0, .slice none 0 0, .string ⟨#[]⟩] 47)) = w16 at *
              refine hK.out _ _ (.inr (HSC.out _ HBc.out)) (fun _ => ?_)
              clear hK K
              (try simp only [List.getElem_toArray, List.getElem_cons_succ, List.getElem_cons_zero, Act.put, List.setIfInBounds_toArray, List.set_cons_zero, List.set_cons_succ])
              refine anyT_ready (rs := [11]) (by kernel_rfl) (by simp) ?_
              refine (AllReadyT.cons rfl (fun K hK => ?_) AllReadyT.nil)
              · go_simp
                go_at_call 18
                (with_reducible refine (HM2.out _ HBc.out).mono ?_)
                rintro e w17 ⟨PB, pd, AB, ad, rfl, hop, hoa, hb⟩
                dsimp only
                have HBc := Lib.hid (HBc.out.trans (hb.mono HBc.out.size))
                have HX := Lib.hid (fun (W : World) (h : Below w17.heap.size w17 W) => HX.out W (hb.trans (h.mono hb.size)))
                have HP := Lib.hid (fun (W : World) (h : Below w17.heap.size w17 W) => HP.out W (hb.trans (h.mono hb.size)))
                have HQ2 := Lib.hid (fun (W : World) (h : Below w17.heap.size w17 W) => HQ2.out W (hb.trans (h.mono hb.size)))
                have HY := Lib.hid (fun (W : World) (h : Below w17.heap.size w17 W) => own_below hoa h)
                clear hb hop hoa
                refine hK.out _ _ (.inr (HSC.out _ HBc.out)) (fun _ => ?_)
                clear hK K
                (try simp only [List.getElem_toArray, List.getElem_cons_succ, List.getElem_cons_zero, Act.put, List.setIfInBounds_toArray, List.set_cons_zero, List.set_cons_succ])
                refine anyT_ready (rs := [14]) (by kernel_rfl) (by simp) ?_
                refine AllReadyT.cons rfl (fun K hK => ?_) AllReadyT.nil
                have NP := HP.out _ (Below.refl _ _)
                have NQ := HQ2.out _ (Below.refl _ _)
                have OX := HX.out _ (Below.refl _ _)
                have OY := HY.out _ (Below.refl _ _)
                have p0 : w17.cell? ⟨w7.heap.size, 0, none⟩ = some (.int .i64 0) := NP.cell 0
                have z0 : w17.frozen? ⟨w7.heap.size, 0, none⟩ = false := NP.frozen 0
                have p1 : w17.cell? ⟨w7.heap.size, 1, none⟩ = some (.int .i64 0) := NP.cell 1
                have z1 : w17.frozen? ⟨w7.heap.size, 1, none⟩ = false := NP.frozen 1
                have p2 : w17.cell? ⟨w7.heap.size, 2, none⟩ = some (.string ⟨#[]⟩) := NP.cell 2
                have z2 : w17.frozen? ⟨w7.heap.size, 2, none⟩ = false := NP.frozen 2
                have p3 : w17.cell? ⟨w7.heap.size, 3, none⟩ = some (.slice none 0 0) := NP.cell 3
                have z3 : w17.frozen? ⟨w7.heap.size, 3, none⟩ = false := NP.frozen 3
                have p4 : w17.cell? ⟨w7.heap.size, 4, none⟩ = some (.slice none 0 0) := NP.cell 4
                have z4 : w17.frozen? ⟨w7.heap.size, 4, none⟩ = false := NP.frozen 4
                have p5 : w17.cell? ⟨w7.heap.size, 5, none⟩ = some (.string ⟨#[]⟩) := NP.cell 5
                have z5 : w17.frozen? ⟨w7.heap.size, 5, none⟩ = false := NP.frozen 5
                go_simp
                clear p0 p1 p2 p3 p4 p5 z0 z1 z2 z3 z4 z5
                show K _ (put6 w17 w7.heap.size (.int .i64 ma.kind) (.int .i64 ma.route) (.string ma.pat) (.slice PA ma.par.length pc) (.slice AA ma.allow.length ac) (.string ma.dest))
                have HBc := Lib.hid (put6_below (.int .i64 ma.kind) (.int .i64 ma.route) (.string ma.pat) (.slice PA ma.par.length pc) (.slice AA ma.allow.length ac) (.string ma.dest) HBc.out hl12)
                have NQ := put6_far (.int .i64 ma.kind) (.int .i64 ma.route) (.string ma.pat) (.slice PA ma.par.length pc) (.slice AA ma.allow.length ac) (.string ma.dest) NQ hne.symm
                have OX := put6_own (.int .i64 ma.kind) (.int .i64 ma.route) (.string ma.pat) (.slice PA ma.par.length pc) (.slice AA ma.allow.length ac) (.string ma.dest) OX NP (by decide)
                have OY := put6_own (.int .i64 ma.kind) (.int .i64 ma.route) (.string ma.pat) (.slice PA ma.par.length pc) (.slice AA ma.allow.length ac) (.string ma.dest) OY NP (by decide)
                have NP := put6_blk (.int .i64 ma.kind) (.int .i64 ma.route) (.string ma.pat) (.slice PA ma.par.length pc) (.slice AA ma.allow.length ac) (.string ma.dest) NP
                generalize (put6 w17 w7.heap.size (.int .i64 ma.kind) (.int .i64 ma.route) (.string ma.pat) (.slice PA ma.par.length pc) (.slice AA ma.allow.length ac) (.string ma.dest)) = wy at *
                refine hK.out _ _ (.inr (HSC.out _ HBc.out)) (fun _ => ?_)
                clear hK K
                (try simp only [List.getElem_toArray, List.getElem_cons_succ, List.getElem_cons_zero, Act.put, List.setIfInBounds_toArray, List.set_cons_zero, List.set_cons_succ])
                refine anyT_ready (rs := [15]) (by kernel_rfl) (by simp) ?_
                refine AllReadyT.cons rfl (fun K hK => ?_) AllReadyT.nil
                have p0 : wy.cell? ⟨w13.heap.size, 0, none⟩ = some (.int .i64 0) := NQ.cell 0
                have z0 : wy.frozen? ⟨w13.heap.size, 0, none⟩ = false := NQ.frozen 0
                have p1 : wy.cell? ⟨w13.heap.size, 1, none⟩ = some (.int .i64 0) := NQ.cell 1
                have z1 : wy.frozen? ⟨w13.heap.size, 1, none⟩ = false := NQ.frozen 1
                have p2 : wy.cell? ⟨w13.heap.size, 2, none⟩ = some (.string ⟨#[]⟩) := NQ.cell 2
                have z2 : wy.frozen? ⟨w13.heap.size, 2, none⟩ = false := NQ.frozen 2
                have p3 : wy.cell? ⟨w13.heap.size, 3, none⟩ = some (.slice none 0 0) := NQ.cell 3
                have z3 : wy.frozen? ⟨w13.heap.size, 3, none⟩ = false := NQ.frozen 3
                have p4 : wy.cell? ⟨w13.heap.size, 4, none⟩ = some (.slice none 0 0) := NQ.cell 4
                have z4 : wy.frozen? ⟨w13.heap.size, 4, none⟩ = false := NQ.frozen 4
                have p5 : wy.cell? ⟨w13.heap.size, 5, none⟩ = some (.string ⟨#[]⟩) := NQ.cell 5
                have z5 : wy.frozen? ⟨w13.heap.size, 5, none⟩ = false := NQ.frozen 5
                go_simp
                clear p0 p1 p2 p3 p4 p5 z0 z1 z2 z3 z4 z5
                show K _ (put6 wy w13.heap.size (.int .i64 mb.kind) (.int .i64 mb.route) (.string mb.pat) (.slice PB mb.par.length pd) (.slice AB mb.allow.length ad) (.string mb.dest))
                have HBc := Lib.hid (put6_below (.int .i64 mb.kind) (.int .i64 mb.route) (.string mb.pat) (.slice PB mb.par.length pd) (.slice AB mb.allow.length ad) (.string mb.dest) HBc.out hl13)
                have NP := put6_far (.int .i64 mb.kind) (.int .i64 mb.route) (.string mb.pat) (.slice PB mb.par.length pd) (.slice AB mb.allow.length ad) (.string mb.dest) NP hne
                have OX := put6_own (.int .i64 mb.kind) (.int .i64 mb.route) (.string mb.pat) (.slice PB mb.par.length pd) (.slice AB mb.allow.length ad) (.string mb.dest) OX NQ (by decide)
                have OY := put6_own (.int .i64 mb.kind) (.int .i64 mb.route) (.string mb.pat) (.slice PB mb.par.length pd) (.slice AB mb.allow.length ad) (.string mb.dest) OY NQ (by decide)
                have NQ := put6_blk (.int .i64 mb.kind) (.int .i64 mb.route) (.string mb.pat) (.slice PB mb.par.length pd) (.slice AB mb.allow.length ad) (.string mb.dest) NQ
                generalize (put6 wy w13.heap.size (.int .i64 mb.kind) (.int .i64 mb.route) (.string mb.pat) (.slice PB mb.par.length pd) (.slice AB mb.allow.length ad) (.string mb.dest)) = wz at *
                refine hK.out _ _ (.inl (by rfl)) (fun _ => ?_)
                clear hK K
                (try simp only [List.getElem_toArray, List.getElem_cons_succ, List.getElem_cons_zero, Act.put, List.setIfInBounds_toArray, List.set_cons_zero, List.set_cons_succ])
                refine anyT_done (by kernel_rfl) ?_ _
                have HTW := Lib.hid (show TwoM w6 ma mb _ _ wz from ⟨_, _, PA, pc, AA, ac, PB, pd, AB, ad, rfl, rfl, NP, NQ, own_row OX, own_row OY, own_max OX, HBc.out⟩)
                clear NP NQ OX OY hHeld hS0
                go_wp2_with fail
                go_meet
                exact HTW.out
          · go_simp
            have hl13 : w6.heap.size ≤ w7.heap.size := HBc.out.size
            have hb : Below w7.heap.size w7 (w7.alloc (.cells #[.int .i64 0, .int .i64 0, .string ⟨#[]⟩, .slice none 0 0, .slice none 0 0, .string ⟨#[]⟩] 47)) := (Below.refl _ _).alloc (Nat.le_refl _) _
            have hN : Blk (w7.alloc (.cells #[.int .i64 0, .int .i64 0, .string ⟨#[]⟩, .slice none 0 0, .slice none 0 0, .string ⟨#[]⟩] 47)) w7.heap.size 47 #[.int .i64 0, .int .i64 0, .string ⟨#[]⟩, .slice none 0 0, .slice none 0 0, .string ⟨#[]⟩] := Blk.new w7 _ _
            have HBc := Lib.hid (HBc.out.trans (hb.mono HBc.out.size))
            have HX := Lib.hid (fun (W : World) (h : Below (w7.alloc (.cells #[.int .i64 0, .int .i64 0, .string ⟨#[]⟩, .slice none 0 0, .slice none 0 0, .string ⟨#[]⟩] 47)).heap.size (w7.alloc (.cells #[.int .i64 0, .int .i64 0, .string ⟨#[]⟩, .slice none 0 0, .slice none 0 0, .string ⟨#[]⟩] 47)) W) => HX.out W (hb.trans (h.mono hb.size)))
            have HQ2 := Lib.hid (fun (W : World) (h : Below (w7.alloc (.cells #[.int .i64 0, .int .i64 0, .string ⟨#[]⟩, .slice none 0 0, .slice none 0 0, .string ⟨#[]⟩] 47)).heap.size (w7.alloc (.cells #[.int .i64 0, .int .i64 0, .string ⟨#[]⟩, .slice none 0 0, .slice none 0 0, .string ⟨#[]⟩] 47)) W) => hN.below h hN.lt)
            clear hb hN
            generalize (w7.alloc (.cells #[.int .i64 0, .int .i64 0, .string ⟨#[]⟩, .slice none 0 0, .slice none 0 0, .string ⟨#[]⟩] 47)) = w18 at *
            refine hK.out _ _ (.inr (HSC.out _ HBc.out)) (fun _ => ?_)
            clear hK K
            (try simp only [List.getElem_toArray, List.getElem_cons_succ, List.getElem_cons_zero, Act.put, List.setIfInBounds_toArray, List.set_cons_zero, List.set_cons_succ])
            refine anyT_ready (rs := [11, 12]) (by kernel_rfl) (by simp) ?_
            refine (AllReadyT.cons rfl (fun K hK => ?_) (AllReadyT.cons rfl (fun K hK => ?_) AllReadyT.nil))
            · go_simp
              go_at_call 18
              (with_reducible refine (HM2.out _ HBc.out).mono ?_)
              rintro e w19 ⟨PB, pd, AB, ad, rfl, hop, hoa, hb⟩
              dsimp only
              have HBc := Lib.hid (HBc.out.trans (hb.mono HBc.out.size))
              have HX := Lib.hid (fun (W : World) (h : Below w19.heap.size w19 W) => HX.out W (hb.trans (h.mono hb.size)))
              have HQ2 := Lib.hid (fun (W : World) (h : Below w19.heap.size w19 W) => HQ2.out W (hb.trans (h.mono hb.size)))
              have HY := Lib.hid (fun (W : World) (h : Below w19.heap.size w19 W) => own_below hoa h)
              clear hb hop hoa
              refine hK.out _ _ (.inr (HSC.out _ HBc.out)) (fun _ => ?_)
              clear hK K
              (try simp only [List.getElem_toArray, List.getElem_cons_succ, List.getElem_cons_zero, Act.put, List.setIfInBounds_toArray, List.set_cons_zero, List.set_cons_succ])
              refine anyT_ready (rs := [12]) (by kernel_rfl) (by simp) ?_
              refine (AllReadyT.cons rfl (fun K hK => ?_) AllReadyT.nil)
              · go_simp
                have hl12 : w6.heap.size ≤ w19.heap.size := HBc.out.size
                have hne : w19.heap.size ≠ w7.heap.size := Nat.ne_of_gt (HQ2.out _ (Below.refl _ _)).lt
                have hb : Below w19.heap.size w19 (w19.alloc (.cells #[.int .i64 0, .int .i64 0, .string ⟨#[]⟩, .slice none 0 0, .slice none 0 0, .string ⟨#[]⟩] 47)) := (Below.refl _ _).alloc (Nat.le_refl _) _
                have hN : Blk (w19.alloc (.cells #[.int .i64 0, .int .i64 0, .string ⟨#[]⟩, .slice none 0 0, .slice none 0 0, .string ⟨#[]⟩] 47)) w19.heap.size 47 #[.int .i64 0, .int .i64 0, .string ⟨#[]⟩, .slice none 0 0, .slice none 0 0, .string ⟨#[]⟩] := Blk.new w19 _ _
                have HBc := Lib.hid (HBc.out.trans (hb.mono HBc.out.size))
                have HX := Lib.hid (fun (W : World) (h : Below (w19.alloc (.cells #[.int .i64 0, .int .i64 0, .string ⟨#[]⟩, .slice none 0 0, .slice none 0 0, .string ⟨#[]⟩] 47)).heap.size (w19.alloc (.cells #[.int .i64 0, .int .i64 0, .string ⟨#[]⟩, .slice none 0 0, .slice none 0 0, .string ⟨#[]⟩] 47)) W) => HX.out W (hb.trans (h.mono hb.size)))
                have HQ2 := Lib.hid (fun (W : World) (h : Below (w19.alloc (.cells #[.int .i64 0, .int .i64 0, .string ⟨#[]⟩, .slice none 0 0, .slice none 0 0, .string ⟨#[]⟩] 47)).heap.size (w19.alloc (.cells #[.int .i64 0, .int .i64 0, .string ⟨#[]⟩, .slice none 0 0, .slice none 0 0, .string ⟨#[]⟩] 47)) W) => HQ2.out W (hb.trans (h.mono hb.size)))
                have HY := Lib.hid (fun (W : World) (h : Below (w19.alloc (.cells #[.int .i64 0, .int .i64 0, .string ⟨#[]⟩, .slice none 0 0, .slice none 0 0, .string ⟨#[]⟩] 47)).heap.size (w19.alloc (.cells #[.int .i64 0, .int .i64 0, .string ⟨#[]⟩, .slice none 0 0, .slice none 0 0, .string ⟨#[]⟩] 47)) W) => HY.out W (hb.trans (h.mono hb.size)))
                have HP := Lib.hid (fun (W : World) (h : Below (w19.alloc (.cells #[.int .i64 0, .int .i64 0, .string ⟨#[]⟩, .slice none 0 0, .slice none 0 0, .string ⟨#[]⟩] 47)).heap.size (w19.alloc (.cells #[.int .i64 0, .int .i64 0, .string ⟨#[]⟩, .slice none 0 0, .slice none 0 0, .string ⟨#[]⟩] 47)) W) => hN.below h hN.lt)
                clear hb hN
                generalize (w19.alloc (.cells #[.int .i64 0, .int .i64 0, .string ⟨#[]⟩, .slice none 0 0, .slice none 0 0, .string ⟨#[]⟩] 47)) = w20 at *
                refine hK.out _ _ (.inr (HSC.out _ HBc.out)) (fun _ => ?_)
                clear hK K
                (try simp only [List.getElem_toArray, List.getElem_cons_succ, List.getElem_cons_zero, Act.put, List.setIfInBounds_toArray, List.set_cons_zero, List.set_cons_succ])
                refine anyT_ready (rs := [14]) (by kernel_rfl) (by simp) ?_
                refine AllReadyT.cons rfl (fun K hK => ?_) AllReadyT.nil
                have NP := HP.out _ (Below.refl _ _)
                have NQ := HQ2.out _ (Below.refl _ _)
                have OX := HX.out _ (Below.refl _ _)
                have OY := HY.out _ (Below.refl _ _)
                have p0 : w20.cell? ⟨w19.heap.size, 0, none⟩ = some (.int .i64 0) := NP.cell 0
                have z0 : w20.frozen? ⟨w19.heap.size, 0, none⟩ = false := NP.frozen 0
                have p1 : w20.cell? ⟨w19.heap.size, 1, none⟩ = some (.int .i64 0) := NP.cell 1
                have z1 : w20.frozen? ⟨w19.heap.size, 1, none⟩ = false := NP.frozen 1
                have p2 : w20.cell? ⟨w19.heap.size, 2, none⟩ = some (.string ⟨#[]⟩) := NP.cell 2
                have z2 : w20.frozen? ⟨w19.heap.size, 2, none⟩ = false := NP.frozen 2
                have p3 : w20.cell? ⟨w19.heap.size, 3, none⟩ = some (.slice none 0 0) := NP.cell 3
                have z3 : w20.frozen? ⟨w19.heap.size, 3, none⟩ = false := NP.frozen 3
                have p4 : w20.cell? ⟨w19.heap.size, 4, none⟩ = some (.slice none 0 0) := NP.cell 4
                have z4 : w20.frozen? ⟨w19.heap.size, 4, none⟩ = false := NP.frozen 4
                have p5 : w20.cell? ⟨w19.heap.size, 5, none⟩ = some (.string ⟨#[]⟩) := NP.cell 5
                have z5 : w20.frozen? ⟨w19.heap.size, 5, none⟩ = false := NP.frozen 5
                go_simp
                clear p0 p1 p2 p3 p4 p5 z0 z1 z2 z3 z4 z5
                show K _ (put6 w20 w19.heap.size (.int .i64 ma.kind) (.int .i64 ma.route) (.string ma.pat) (.slice PA ma.par.length pc) (.slice AA ma.allow.length ac) (.string ma.dest))
                have HBc := Lib.hid (put6_below (.int .i64 ma.kind) (.int .i64 ma.route) (.string ma.pat) (.slice PA ma.par.length pc) (.slice AA ma.allow.length ac) (.string ma.dest) HBc.out hl12)
                have NQ := put6_far (.int .i64 ma.kind) (.int .i64 ma.route) (.string ma.pat) (.slice PA ma.par.length pc) (.slice AA ma.allow.length ac) (.string ma.dest) NQ hne.symm
                have OX := put6_own (.int .i64 ma.kind) (.int .i64 ma.route) (.string ma.pat) (.slice PA ma.par.length pc) (.slice AA ma.allow.length ac) (.string ma.dest) OX NP (by decide)
                have OY := put6_own (.int .i64 ma.kind) (.int .i64 ma.route) (.string ma.pat) (.slice PA ma.par.length pc) (.slice AA ma.allow.length ac) (.string ma.dest) OY NP (by decide)
                have NP := put6_blk (.int .i64 ma.kind) (.int .i64 ma.route) (.string ma.pat) (.slice PA ma.par.length pc) (.slice AA ma.allow.length ac) (.string ma.dest) NP
                generalize (put6 w20 w19.heap.size (.int .i64 ma.kind) (.int .i64 ma.route) (.string ma.pat) (.slice PA ma.par.length pc) (.slice AA ma.allow.length ac) (.string ma.dest)) = wy at *
                refine hK.out _ _ (.inr (HSC.out _ HBc.out)) (fun _ => ?_)
                clear hK K
                (try simp only [List.getElem_toArray, List.getElem_cons_succ, List.getElem_cons_zero, Act.put, List.setIfInBounds_toArray, List.set_cons_zero, List.set_cons_succ])
                refine anyT_ready (rs := [15]) (by kernel_rfl) (by simp) ?_
                refine AllReadyT.cons rfl (fun K hK => ?_) AllReadyT.nil
                have p0 : wy.cell? ⟨w7.heap.size, 0, none⟩ = some (.int .i64 0) := NQ.cell 0
                have z0 : wy.frozen? ⟨w7.heap.size, 0, none⟩ = false := NQ.frozen 0
                have p1 : wy.cell? ⟨w7.heap.size, 1, none⟩ = some (.int .i64 0) := NQ.cell 1
                have z1 : wy.frozen? ⟨w7.heap.size, 1, none⟩ = false := NQ.frozen 1
                have p2 : wy.cell? ⟨w7.heap.size, 2, none⟩ = some (.string ⟨#[]⟩) := NQ.cell 2
                have z2 : wy.frozen? ⟨w7.heap.size, 2, none⟩ = false := NQ.frozen 2
                have p3 : wy.cell? ⟨w7.heap.size, 3, none⟩ = some (.slice none 0 0) := NQ.cell 3
                have z3 : wy.frozen? ⟨w7.heap.size, 3, none⟩ = false := NQ.frozen 3
                have p4 : wy.cell? ⟨w7.heap.size, 4, none⟩ = some (.slice none 0 0) := NQ.cell 4
                have z4 : wy.frozen? ⟨w7.heap.size, 4, none⟩ = false := NQ.frozen 4
                have p5 : wy.cell? ⟨w7.heap.size, 5, none⟩ = some (.string ⟨#[]⟩) := NQ.cell 5
                have z5 : wy.frozen? ⟨w7.heap.size, 5, none⟩ = false := NQ.frozen 5
                go_simp
                clear p0 p1 p2 p3 p4 p5 z0 z1 z2 z3 z4 z5
                show K _ (put6 wy w7.heap.size (.int .i64 mb.kind) (.int .i64 mb.route) (.string mb.pat) (.slice PB mb.par.length pd) (.slice AB mb.allow.length ad) (.string mb.dest))
                have HBc := Lib.hid (put6_below (.int .i64 mb.kind) (.int .i64 mb.route) (.string mb.pat) (.slice PB mb.par.length pd) (.slice AB mb.allow.length ad) (.string mb.dest) HBc.out hl13)
                have NP := put6_far (.int .i64 mb.kind) (.int .i64 mb.route) (.string mb.pat) (.slice PB mb.par.length pd) (.slice AB mb.allow.length ad) (.string mb.dest) NP hne
                have OX := put6_own (.int .i64 mb.kind) (.int .i64 mb.route) (.string mb.pat) (.slice PB mb.par.length pd) (.slice AB mb.allow.length ad) (.string mb.dest) OX NQ (by decide)
                have OY := put6_own (.int .i64 mb.kind) (.int .i64 mb.route) (.string mb.pat) (.slice PB mb.par.length pd) (.slice AB mb.allow.length ad) (.string mb.dest) OY NQ (by decide)
                have NQ := put6_blk (.int .i64 mb.kind) (.int .i64 mb.route) (.string mb.pat) (.slice PB mb.par.length pd) (.slice AB mb.allow.length ad) (.string mb.dest) NQ
                generalize (put6 wy w7.heap.size (.int .i64 mb.kind) (.int .i64 mb.route) (.string mb.pat) (.slice PB mb.par.length pd) (.slice AB mb.allow.length ad) (.string mb.dest)) = wz at *
                refine hK.out _ _ (.inl (by rfl)) (fun _ => ?_)
                clear hK K
                (try simp only [List.getElem_toArray, List.getElem_cons_succ, List.getElem_cons_zero, Act.put, List.setIfInBounds_toArray, List.set_cons_zero, List.set_cons_succ])
                refine anyT_done (by kernel_rfl) ?_ _
                have HTW := Lib.hid (show TwoM w6 ma mb _ _ wz from ⟨_, _, PA, pc, AA, ac, PB, pd, AB, ad, rfl, rfl, NP, NQ, own_row OX, own_row OY, own_max OX, HBc.out⟩)
                clear NP NQ OX OY hHeld hS0
                go_wp2_with fail
                go_meet
                exact HTW.out
            · go_simp
              have hl12 : w6.heap.size ≤ w18.heap.size := HBc.out.size
              have hne : w18.heap.size ≠ w7.heap.size := Nat.ne_of_gt (HQ2.out _ (Below.refl _ _)).lt
              have hb : Below w18.heap.size w18 (w18.alloc (.cells #[.int .i64 0, .int .i64 0, .string ⟨#[]⟩, .slice none 0 0, .slice none 0 0, .string ⟨#[]⟩] 47)) := (Below.refl _ _).alloc (Nat.le_refl _) _
              have hN : Blk (w18.alloc (.cells #[.int .i64 0, .int .i64 0, .string ⟨#[]⟩, .slice none 0 0, .slice none 0 0, .string ⟨#[]⟩] 47)) w18.heap.size 47 #[.int .i64 0, .int .i64 0, .string ⟨#[]⟩, .slice none 0 0, .slice none 0 0, .string ⟨#[]⟩] := Blk.new w18 _ _
              have HBc := Lib.hid (HBc.out.trans (hb.mono HBc.out.size))
              have HX := Lib.hid (fun (W : World) (h : Below (w18.alloc (.cells #[.int .i64 0, .int .i64 0, .string ⟨#[]⟩, .slice none 0 0, .slice none 0 0, .string ⟨#[]⟩] 47)).heap.size (w18.alloc (.cells #[.int .i64 0, .int .i64 0, .string ⟨#[]⟩, .slice none 0 0, .slice none 0 0, .string ⟨#[]⟩] 47)) W) => HX.out W (hb.trans (h.mono hb.size)))
              have HQ2 := Lib.hid (fun (W : World) (h : Below (w18.alloc (.cells #[.int .i64 0, .int .i64 0, .string ⟨#[]⟩, .slice none 0 0, .slice none 0 0, .string ⟨#[]⟩] 47)).heap.size (w18.alloc (.cells #[.int .i64 0, .int .i64 0, .string ⟨#[]⟩, .slice none 0 0, .slice none 0 0, .string ⟨#[]⟩] 47)) W) => HQ2.out W (hb.trans (h.mono hb.size)))
              have HP := Lib.hid (fun (W : World) (h : Below (w18.alloc (.cells #[.int .i64 0, .int .i64 0, .string ⟨#[]⟩, .slice none 0 0, .slice none 0 0, .string ⟨#[]⟩] 47)).heap.size (w18.alloc (.cells #[.int .i64 0, .int .i64 0, .string ⟨#[]⟩, .slice none 0 0, .slice none 0 0, .string ⟨#[]⟩] 47)) W) => hN.below h hN.lt)
              clear hb hN
              generalize (w18.alloc (.cells #[.int .i64 0, .int .i64 0, .string ⟨#[]⟩, .slice none 0 0, .slice none 0 0, .string ⟨#[]⟩] 47)) = w21 at *
              refine hK.out _ _ (.inr (HSC.out _ HBc.out)) (fun _ => ?_)
              clear hK K
              (try simp only [List.getElem_toArray, List.getElem_cons_succ, List.getElem_cons_zero, Act.put, List.setIfInBounds_toArray, List.set_cons_zero, List.set_cons_succ])
              refine anyT_ready (rs := [11]) (by kernel_rfl) (by simp) ?_
              refine (AllReadyT.cons rfl (fun K hK => ?_) AllReadyT.nil)
              · go_simp
                go_at_call 18
                (with_reducible refine (HM2.out _ HBc.out).mono ?_)
                rintro e w22 ⟨PB, pd, AB, ad, rfl, hop, hoa, hb⟩
                dsimp only
                have HBc := Lib.hid (HBc.out.trans (hb.mono HBc.out.size))
                have HX := Lib.hid (fun (W : World) (h : Below w22.heap.size w22 W) => HX.out W (hb.trans (h.mono hb.size)))
                have HQ2 := Lib.hid (fun (W : World) (h : Below w22.heap.size w22 W) => HQ2.out W (hb.trans (h.mono hb.size)))
                have HP := Lib.hid (fun (W : World) (h : Below w22.heap.size w22 W) => HP.out W (hb.trans (h.mono hb.size)))
                have HY := Lib.hid (fun (W : World) (h : Below w22.heap.size w22 W) => own_below hoa h)
                clear hb hop hoa
                refine hK.out _ _ (.inr (HSC.out _ HBc.out)) (fun _ => ?_)
                clear hK K
                (try simp only [List.getElem_toArray, List.getElem_cons_succ, List.getElem_cons_zero, Act.put, List.setIfInBounds_toArray, List.set_cons_zero, List.set_cons_succ])
                refine anyT_ready (rs := [14]) (by kernel_rfl) (by simp) ?_
                refine AllReadyT.cons rfl (fun K hK => ?_) AllReadyT.nil
                have NP := HP.out _ (Below.refl _ _)
                have NQ := HQ2.out _ (Below.refl _ _)
                have OX := HX.out _ (Below.refl _ _)
                have OY := HY.out _ (Below.refl _ _)
                have p0 : w22.cell? ⟨w18.heap.size, 0, none⟩ = some (.int .i64 0) := NP.cell 0
                have z0 : w22.frozen? ⟨w18.heap.size, 0, none⟩ = false := NP.frozen 0
                have p1 : w22.cell? ⟨w18.heap.size, 1, none⟩ = some (.int .i64 0) := NP.cell 1
                have z1 : w22.frozen? ⟨w18.heap.size, 1, none⟩ = false := NP.frozen 1
                have p2 : w22.cell? ⟨w18.heap.size, 2, none⟩ = some (.string ⟨#[]⟩) := NP.cell 2
                have z2 : w22.frozen? ⟨w18.heap.size, 2, none⟩ = false := NP.frozen 2
                have p3 : w22.cell? ⟨w18.heap.size, 3, none⟩ = some (.slice none 0 0) := NP.cell 3
                have z3 : w22.frozen? ⟨w18.heap.size, 3, none⟩ = false := NP.frozen 3
                have p4 : w22.cell? ⟨w18.heap.size, 4, none⟩ = some (.slice none 0 0) := NP.cell 4
                have z4 : w22.frozen? ⟨w18.heap.size, 4, none⟩ = false := NP.frozen 4
                have p5 : w22.cell? ⟨w18.heap.size, 5, none⟩ = some (.string ⟨#[]⟩) := NP.cell 5
                have z5 : w22.frozen? ⟨w18.heap.size, 5, none⟩ = false := NP.frozen 5
                go_simp
                clear p0 p1 p2 p3 p4 p5 z0 z1 z2 z3 z4 z5
                show K _ (put6 w22 w18.heap.size (.int .i64 ma.kind) (.int .i64 ma.route) (.string ma.pat) (.slice PA ma.par.length pc) (.slice AA ma.allow.length ac) (.string ma.dest))
                have HBc := Lib.hid (put6_below (.int .i64 ma.kind) (.int .i64 ma.route) (.string ma.pat) (.slice PA ma.par.length pc) (.slice AA ma.allow.length ac) (.string ma.dest) HBc.out hl12)
                have NQ := put6_far (.int .i64 ma.kind) (.int .i64 ma.route) (.string ma.pat) (.slice PA ma.par.length pc) (.slice AA ma.allow.length ac) (.string ma.dest) NQ hne.symm
                have OX := put6_own (.int .i64 ma.kind) (.int .i64 ma.route) (.string ma.pat) (.slice PA ma.par.length pc) (.slice AA ma.allow.length ac) (.string ma.dest) OX NP (by decide)
                have OY := put6_own (.int .i64 ma.kind) (.int .i64 ma.route) (.string ma.pat) (.slice PA ma.par.length pc) (.slice AA ma.allow.length ac) (.string ma.dest) OY NP (by decide)
                have NP := put6_blk (.int .i64 ma.kind) (.int .i64 ma.route) (.string ma.pat) (.slice PA ma.par.length pc) (.slice AA ma.allow.length ac) (.string ma.dest) NP
                generalize (put6 w22 w18.heap.size (.int .i64 ma.kind) (.int .i64 ma.route) (.string ma.pat) (.slice PA ma.par.length pc) (.slice AA ma.allow.length ac) (.string ma.dest)) = wy at *
                refine hK.out _ _ (.inr (HSC.out _ HBc.out)) (fun _ => ?_)
                clear hK K
                (try simp only [List.getElem_toArray, List.getElem_cons_succ, List.getElem_cons_zero, Act.put, List.setIfInBounds_toArray, List.set_cons_zero, List.set_cons_succ])
                refine anyT_ready (rs := [15]) (by kernel_rfl) (by simp) ?_
                refine AllReadyT.cons rfl (fun K hK => ?_) AllReadyT.nil
                have p0 : wy.cell? ⟨w7.heap.size, 0, none⟩ = some (.int .i64 0) := NQ.cell 0
                have z0 : wy.frozen? ⟨w7.heap.size, 0, none⟩ = false := NQ.frozen 0
                have p1 : wy.cell? ⟨w7.heap.size, 1, none⟩ = some (.int .i64 0) := NQ.cell 1
                have z1 : wy.frozen? ⟨w7.heap.size, 1, none⟩ = false := NQ.frozen 1
                have p2 : wy.cell? ⟨w7.heap.size, 2, none⟩ = some (.string ⟨#[]⟩) := NQ.cell 2
                have z2 : wy.frozen? ⟨w7.heap.size, 2, none⟩ = false := NQ.frozen 2
                have p3 : wy.cell? ⟨w7.heap.size, 3, none⟩ = some (.slice none 0 0) := NQ.cell 3
                have z3 : wy.frozen? ⟨w7.heap.size, 3, none⟩ = false := NQ.frozen 3
                have p4 : wy.cell? ⟨w7.heap.size, 4, none⟩ = some (.slice none 0 0) := NQ.cell 4
                have z4 : wy.frozen? ⟨w7.heap.size, 4, none⟩ = false := NQ.frozen 4
                have p5 : wy.cell? ⟨w7.heap.size, 5, none⟩ = some (.string ⟨#[]⟩) := NQ.cell 5
                have z5 : wy.frozen? ⟨w7.heap.size, 5, none⟩ = false := NQ.frozen 5
                go_simp
                clear p0 p1 p2 p3 p4 p5 z0 z1 z2 z3 z4 z5
                show K _ (put6 wy w7.heap.size (.int .i64 mb.kind) (.int .i64 mb.route) (.string mb.pat) (.slice PB mb.par.length pd) (.slice AB mb.allow.length ad) (.string mb.dest))
                have HBc := Lib.hid (put6_below (.int .i64 mb.kind) (.int .i64 mb.route) (.string mb.pat) (.slice PB mb.par.length pd) (.slice AB mb.allow.length ad) (.string mb.dest) HBc.out hl13)
                have NP := put6_far (.int .i64 mb.kind) (.int .i64 mb.route) (.string mb.pat) (.slice PB mb.par.length pd) (.slice AB mb.allow.length ad) (.string mb.dest) NP hne
                have OX := put6_own (.int .i64 mb.kind) (.int .i64 mb.route) (.string mb.pat) (.slice PB mb.par.length pd) (.slice AB mb.allow.length ad) (.string mb.dest) OX NQ (by decide)
                have OY := put6_own (.int .i64 mb.kind) (.int .i64 mb.route) (.string mb.pat) (.slice PB mb.par.length pd) (.slice AB mb.allow.length ad) (.string mb.dest) OY NQ (by decide)
                have NQ := put6_blk (.int .i64 mb.kind) (.int .i64 mb.route) (.string mb.pat) (.slice PB mb.par.length pd) (.slice AB mb.allow.length ad) (.string mb.dest) NQ
                generalize (put6 wy w7.heap.size (.int .i64 mb.kind) (.int .i64 mb.route) (.string mb.pat) (.slice PB mb.par.length pd) (.slice AB mb.allow.length ad) (.string mb.dest)) = wz at *
                refine hK.out _ _ (.inl (by rfl)) (fun _ => ?_)
                clear hK K
                (try simp only [List.getElem_toArray, List.getElem_cons_succ, List.getElem_cons_zero, Act.put, List.setIfInBounds_toArray, List.set_cons_zero, List.set_cons_succ])
                refine anyT_done (by kernel_rfl) ?_ _
                have HTW := Lib.hid (show TwoM w6 ma mb _ _ wz from ⟨_, _, PA, pc, AA, ac, PB, pd, AB, ad, rfl, rfl, NP, NQ, own_row OX, own_row OY, own_max OX, HBc.out⟩)
                clear NP NQ OX OY hHeld hS0
                go_wp2_with fail
                go_meet
                exact HTW.out
        · go_simp
          have hl12 : w6.heap.size ≤ w6.heap.size := Nat.le_refl _
          have hN : Blk ((w6.alloc (.cells #[.int .i64 0, .int .i64 0, .string ⟨#[]⟩, .slice none 0 0, .slice none 0 0, .string ⟨#[]⟩] 47)).drew) w6.heap.size 47 #[.int .i64 0, .int .i64 0, .string ⟨#[]⟩, .slice none 0 0, .slice none 0 0, .string ⟨#[]⟩] := (Blk.new w6 _ _).drew
          have HBc : Hid (Below w6.heap.size w6 ((w6.alloc (.cells #[.int .i64 0, .int .i64 0, .string ⟨#[]⟩, .slice none 0 0, .slice none 0 0, .string ⟨#[]⟩] 47)).drew)) := Lib.hid (below_drew ((Below.refl _ w6).alloc (Nat.le_refl _) _))
          have HP := Lib.hid (fun (W : World) (h : Below ((w6.alloc (.cells #[.int .i64 0, .int .i64 0, .string ⟨#[]⟩, .slice none 0 0, .slice none 0 0, .string ⟨#[]⟩] 47)).drew).heap.size ((w6.alloc (.cells #[.int .i64 0, .int .i64 0, .string ⟨#[]⟩, .slice none 0 0, .slice none 0 0, .string ⟨#[]⟩] 47)).drew) W) => hN.below h hN.lt)
          clear hN
          generalize ((w6.alloc (.cells #[.int .i64 0, .int .i64 0, .string ⟨#[]⟩, .slice none 0 0, .slice none 0 0, .string ⟨#[]⟩] 47)).drew) = w23 at *
          refine hK.out _ _ (.inr (HSC.out _ HBc.out)) (fun _ => ?_)
          clear hK K
          (try simp only [List.getElem_toArray, List.getElem_cons_succ, List.getElem_cons_zero, Act.put, List.setIfInBounds_toArray, List.set_cons_zero, List.set_cons_succ])
          refine anyT_ready (rs := [5, 13]) (by kernel_rfl) (by simp) ?_
          refine (AllReadyT.cons rfl (fun K hK => ?_) (AllReadyT.cons rfl (fun K hK => ?_) AllReadyT.nil))
          · go_simp
            go_at_call 18
            (with_reducible refine (HM1.out _ HBc.out).mono ?_)
            rintro e w24 ⟨PA, pc, AA, ac, rfl, hop, hoa, hb⟩
            dsimp only
            have HBc := Lib.hid (HBc.out.trans (hb.mono HBc.out.size))
            have HP := Lib.hid (fun (W : World) (h : Below w24.heap.size w24 W) => HP.out W (hb.trans (h.mono hb.size)))
            have HX := Lib.hid (fun (W : World) (h : Below w24.heap.size w24 W) => own_below hoa h)
            clear hb hop hoa
            refine hK.out _ _ (.inr (HSC.out _ HBc.out)) (fun _ => ?_)
            clear hK K
            (try simp only [List.getElem_toArray, List.getElem_cons_succ, List.getElem_cons_zero, Act.put, List.setIfInBounds_toArray, List.set_cons_zero, List.set_cons_succ])
            refine anyT_ready (rs := [11, 13]) (by kernel_rfl) (by simp) ?_
            refine (AllReadyT.cons rfl (fun K hK => ?_) (AllReadyT.cons rfl (fun K hK => ?_) AllReadyT.nil))
            · go_simp
              go_at_call 18
              (with_reducible refine (HM2.out _ HBc.out).mono ?_)
              rintro e w25 ⟨PB, pd, AB, ad, rfl, hop, hoa, hb⟩
              dsimp only
              have HBc := Lib.hid (HBc.out.trans (hb.mono HBc.out.size))
              have HP := Lib.hid (fun (W : World) (h : Below w25.heap.size w25 W) => HP.out W (hb.trans (h.mono hb.size)))
              have HX := Lib.hid (fun (W : World) (h : Below w25.heap.size w25 W) => HX.out W (hb.trans (h.mono hb.size)))
              have HY := Lib.hid (fun (W : World) (h : Below w25.heap.size w25 W) => own_below hoa h)
              clear hb hop hoa
              refine hK.out _ _ (.inr (HSC.out _ HBc.out)) (fun _ => ?_)
              clear hK K
              (try simp only [List.getElem_toArray, List.getElem_cons_succ, List.getElem_cons_zero, Act.put, List.setIfInBounds_toArray, List.set_cons_zero, List.set_cons_succ])
              refine anyT_ready (rs := [13]) (by kernel_rfl) (by simp) ?_
              refine (AllReadyT.cons rfl (fun K hK => ?_) AllReadyT.nil)
              · go_simp
                have hl13 : w6.heap.size ≤ w25.heap.size := HBc.out.size
                have hne : w6.heap.size ≠ w25.heap.size := Nat.ne_of_lt (HP.out _ (Below.refl _ _)).lt
                have hb : Below w25.heap.size w25 (w25.alloc (.cells #[.int .i64 0, .int .i64 0, .string ⟨#[]⟩, .slice none 0 0, .slice none 0 0, .string ⟨#[]⟩] 47)) := (Below.refl _ _).alloc (Nat.le_refl _) _
                have hN : Blk (w25.alloc (.cells #[.int .i64 0, .int .i64 0, .string ⟨#[]⟩, .slice none 0 0, .slice none 0 0, .string ⟨#[]⟩] 47)) w25.heap.size 47 #[.int .i64 0, .int .i64 0, .string ⟨#[]⟩, .slice none 0 0, .slice none 0 0, .string ⟨#[]⟩] := Blk.new w25 _ _
                have HBc := Lib.hid (HBc.out.trans (hb.mono HBc.out.size))
                have HP := Lib.hid (fun (W : World) (h : Below (w25.alloc (.cells #[.int .i64 0, .int .i64 0, .string ⟨#[]⟩, .slice none 0 0, .slice none 0 0, .string ⟨#[]⟩] 47)).heap.size (w25.alloc (.cells #[.int .i64 0, .int .i64 0, .string ⟨#[]⟩, .slice none 0 0, .slice none 0 0, .string ⟨#[]⟩] 47)) W) => HP.out W (hb.trans (h.mono hb.size)))
                have HX := Lib.hid (fun (W : World) (h : Below (w25.alloc (.cells #[.int .i64 0, .int .i64 0, .string ⟨#[]⟩, .slice none 0 0, .slice none 0 0, .string ⟨#[]⟩] 47)).heap.size (w25.alloc (.cells #[.int .i64 0, .int .i64 0, .string ⟨#[]⟩, .slice none 0 0, .slice none 0 0, .string ⟨#[]⟩] 47)) W) => HX.out W (hb.trans (h.mono hb.size)))
                have HY := Lib.hid (fun (W : World) (h : Below (w25.alloc (.cells #[.int .i64 0, .int .i64 0, .string ⟨#[]⟩, .slice none 0 0, .slice none 0 0, .string ⟨#[]⟩] 47)).heap.size (w25.alloc (.cells #[.int .i64 0, .int .i64 0, .string ⟨#[]⟩, .slice none 0 0, .slice none 0 0, .string ⟨#[]⟩] 47)) W) => HY.out W (hb.trans (h.mono hb.size)))
                have HQ2 := Lib.hid (fun (W : World) (h : Below (w25.alloc (.cells #[.int .i64 0, .int .i64 0, .string ⟨#[]⟩, .slice none 0 0, .slice none 0 0, .string ⟨#[]⟩] 47)).heap.size (w25.alloc (.cells #[.int .i64 0, .int .i64 0, .string ⟨#[]⟩, .slice none 0 0, .slice none 0 0, .string ⟨#[]⟩] 47)) W) => hN.below h hN.lt)
                clear hb hN
                generalize (w25.alloc (.cells #[.int .i64 0, .int .i64 0, .string ⟨#[]⟩, .slice none 0 0, .slice none 0 0, .string ⟨#[]⟩] 47)) = w26 at *
                refine hK.out _ _ (.inr (HSC.out _ HBc.out)) (fun _ => ?_)
                clear hK K
                (try simp only [List.getElem_toArray, List.getElem_cons_succ, List.getElem_cons_zero, Act.put, List.setIfInBounds_toArray, List.set_cons_zero, List.set_cons_succ])
                refine anyT_ready (rs := [14]) (by kernel_rfl) (by simp) ?_
                refine AllReadyT.cons rfl (fun K hK => ?_) AllReadyT.nil
                have NP := HP.out _ (Below.refl _ _)
                have NQ := HQ2.out _ (Below.refl _ _)
                have OX := HX.out _ (Below.refl _ _)
                have OY := HY.out _ (Below.refl _ _)
                have p0 : w26.cell? ⟨w6.heap.size, 0, none⟩ = some (.int .i64 0) := NP.cell 0
                have z0 : w26.frozen? ⟨w6.heap.size, 0, none⟩ = false := NP.frozen 0
                have p1 : w26.cell? ⟨w6.heap.size, 1, none⟩ = some (.int .i64 0) := NP.cell 1
                have z1 : w26.frozen? ⟨w6.heap.size, 1, none⟩ = false := NP.frozen 1
                have p2 : w26.cell? ⟨w6.heap.size, 2, none⟩ = some (.string ⟨#[]⟩) := NP.cell 2
                have z2 : w26.frozen? ⟨w6.heap.size, 2, none⟩ = false := NP.frozen 2
                have p3 : w26.cell? ⟨w6.heap.size, 3, none⟩ = some (.slice none 0 0) := NP.cell 3
                have z3 : w26.frozen? ⟨w6.heap.size, 3, none⟩ = false := NP.frozen 3
                have p4 : w26.cell? ⟨w6.heap.size, 4, none⟩ = some (.slice none 0 0) := NP.cell 4
                have z4 : w26.frozen? ⟨w6.heap.size, 4, none⟩ = false := NP.frozen 4
                have p5 : w26.cell? ⟨w6.heap.size, 5, none⟩ = some (.string ⟨#[]⟩) := NP.cell 5
                have z5 : w26.frozen? ⟨w6.heap.size, 5, none⟩ = false := NP.frozen 5
                go_simp
                clear p0 p1 p2 p3 p4 p5 z0 z1 z2 z3 z4 z5
                show K _ (put6 w26 w6.heap.size (.int .i64 ma.kind) (.int .i64 ma.route) (.string ma.pat) (.slice PA ma.par.length pc) (.slice AA ma.allow.length ac) (.string ma.dest))
                have HBc := Lib.hid (put6_below (.int .i64 ma.kind) (.int .i64 ma.route) (.string ma.pat) (.slice PA ma.par.length pc) (.slice AA ma.allow.length ac) (.string ma.dest) HBc.out hl12)
                have NQ := put6_far (.int .i64 ma.kind) (.int .i64 ma.route) (.string ma.pat) (.slice PA ma.par.length pc) (.slice AA ma.allow.length ac) (.string ma.dest) NQ hne.symm
                have OX := put6_own (.int .i64 ma.kind) (.int .i64 ma.route) (.string ma.pat) (.slice PA ma.par.length pc) (.slice AA ma.allow.length ac) (.string ma.dest) OX NP (by decide)
                have OY := put6_own (.int .i64 ma.kind) (.int .i64 ma.route) (.string ma.pat) (.slice PA ma.par.length pc) (.slice AA ma.allow.length ac) (.string ma.dest) OY NP (by decide)
                have NP := put6_blk (.int .i64 ma.kind) (.int .i64 ma.route) (.string ma.pat) (.slice PA ma.par.length pc) (.slice AA ma.allow.length ac) (.string ma.dest) NP
                generalize (put6 w26 w6.heap.size (.int .i64 ma.kind) (.int .i64 ma.route) (.string ma.pat) (.slice PA ma.par.length pc) (.slice AA ma.allow.length ac) (.string ma.dest)) = wy at *
                refine hK.out _ _ (.inr (HSC.out _ HBc.out)) (fun _ => ?_)
                clear hK K
                (try simp only [List.getElem_toArray, List.getElem_cons_succ, List.getElem_cons_zero, Act.put, List.setIfInBounds_toArray, List.set_cons_zero, List.set_cons_succ])
                refine anyT_ready (rs := [15]) (by kernel_rfl) (by simp) ?_
                refine AllReadyT.cons rfl (fun K hK => ?_) AllReadyT.nil
                have p0 : wy.cell? ⟨w25.heap.size, 0, none⟩ = some (.int .i64 0) := NQ.cell 0
                have z0 : wy.frozen? ⟨w25.heap.size, 0, none⟩ = false := NQ.frozen 0
                have p1 : wy.cell? ⟨w25.heap.size, 1, none⟩ = some (.int .i64 0) := NQ.cell 1
                have z1 : wy.frozen? ⟨w25.heap.size, 1, none⟩ = false := NQ.frozen 1
                have p2 : wy.cell? ⟨w25.heap.size, 2, none⟩ = some (.string ⟨#[]⟩) := NQ.cell 2
                have z2 : wy.frozen? ⟨w25.heap.size, 2, none⟩ = false := NQ.frozen 2
                have p3 : wy.cell? ⟨w25.heap.size, 3, none⟩ = some (.slice none 0 0) := NQ.cell 3
                have z3 : wy.frozen? ⟨w25.heap.size, 3, none⟩ = false := NQ.frozen 3
                have p4 : wy.cell? ⟨w25.heap.size, 4, none⟩ = some (.slice none 0 0) := NQ.cell 4
                have z4 : wy.frozen? ⟨w25.heap.size, 4, none⟩ = false := NQ.frozen 4
                have p5 : wy.cell? ⟨w25.heap.size, 5, none⟩ = some (.string ⟨#[]⟩) := NQ.cell 5
                have z5 : wy.frozen? ⟨w25.heap.size, 5, none⟩ = false := NQ.frozen 5
                go_simp
                clear p0 p1 p2 p3 p4 p5 z0 z1 z2 z3 z4 z5
                show K _ (put6 wy w25.heap.size (.int .i64 mb.kind) (.int .i64 mb.route) (.string mb.pat) (.slice PB mb.par.length pd) (.slice AB mb.allow.length ad) (.string mb.dest))
                have HBc := Lib.hid (put6_below (.int .i64 mb.kind) (.int .i64 mb.route) (.string mb.pat) (.slice PB mb.par.length pd) (.slice AB mb.allow.length ad) (.string mb.dest) HBc.out hl13)
                have NP := put6_far (.int .i64 mb.kind) (.int .i64 mb.route) (.string mb.pat) (.slice PB mb.par.length pd) (.slice AB mb.allow.length ad) (.string mb.dest) NP hne
                have OX := put6_own (.int .i64 mb.kind) (.int .i64 mb.route) (.string mb.pat) (.slice PB mb.par.length pd) (.slice AB mb.allow.length ad) (.string mb.dest) OX NQ (by decide)
                have OY := put6_own (.int .i64 mb.kind) (.int .i64 mb.route) (.string mb.pat) (.slice PB mb.par.length pd) (.slice AB mb.allow.length ad) (.string mb.dest) OY NQ (by decide)
                have NQ := put6_blk (.int .i64 mb.kind) (.int .i64 mb.route) (.string mb.pat) (.slice PB mb.par.length pd) (.slice AB mb.allow.length ad) (.string mb.dest) NQ
                generalize (put6 wy w25.heap.size (.int .i64 mb.kind) (.int .i64 mb.route) (.string mb.pat) (.slice PB mb.par.length pd) (.slice AB mb.allow.length ad) (.string mb.dest)) = wz at *
                refine hK.out _ _ (.inl (by rfl)) (fun _ => ?_)
                clear hK K
                (try simp only [List.getElem_toArray, List.getElem_cons_succ, List.getElem_cons_zero, Act.put, List.setIfInBounds_toArray, List.set_cons_zero, List.set_cons_succ])
                refine anyT_done (by kernel_rfl) ?_ _
                have HTW := Lib.hid (show TwoM w6 ma mb _ _ wz from ⟨_, _, PA, pc, AA, ac, PB, pd, AB, ad, rfl, rfl, NP, NQ, own_row OX, own_row OY, own_max OX, HBc.out⟩)
                clear NP NQ OX OY hHeld hS0
                go_wp2_with fail
                go_meet
                exact HTW.out
            · go_simp
              have hl13 : w6.heap.size ≤ w24.heap.size := HBc.out.size
              have hne : w6.heap.size ≠ w24.heap.size := Nat.ne_of_lt (HP.out _ (Below.refl _ _)).lt
              have hb : Below w24.heap.size w24 (w24.alloc (.cells #[.int .i64 0, .int .i64 0, .string ⟨#[]⟩, .slice none 0 0, .slice none 0 0, .string ⟨#[]⟩] 47)) := (Below.refl _ _).alloc (Nat.le_refl _) _
              have hN : Blk (w24.alloc (.cells #[.int .i64 0, .int .i64 0, .string ⟨#[]⟩, .slice none 0 0, .slice none 0 0, .string ⟨#[]⟩] 47)) w24.heap.size 47 #[.int .i64 0, .int .i64 0, .string ⟨#[]⟩, .slice none 0 0, .slice none 0 0, .string ⟨#[]⟩] := Blk.new w24 _ _
              have HBc := Lib.hid (HBc.out.trans (hb.mono HBc.out.size))
              have HP := Lib.hid (fun (W : World) (h : Below (w24.alloc (.cells #[.int .i64 0, .int .i64 0, .string ⟨#[]⟩, .slice none 0 0, .slice none 0 0, .string ⟨#[]⟩] 47)).heap.size (w24.alloc (.cells #[.int .i64 0, .int .i64 0, .string ⟨#[]⟩, .slice none 0 0, .slice none 0 0, .string ⟨#[]⟩] 47)) W) => HP.out W (hb.trans (h.mono hb.size)))
              have HX := Lib.hid (fun (W : World) (h : Below (w24.alloc (.cells #[.int .i64 0, .int .i64 0, .string ⟨#[]⟩, .slice none 0 0, .slice none 0 0, .string ⟨#[]⟩] 47)).heap.size (w24.alloc (.cells #[.int .i64 0, .int .i64 0, .string ⟨#[]⟩, .slice none 0 0, .slice none 0 0, .string ⟨#[]⟩] 47)) W) => HX.out W (hb.trans (h.mono hb.size)))
              have HQ2 := Lib.hid (fun (W : World) (h : Below (w24.alloc (.cells #[.int .i64 0, .int .i64 0, .string ⟨#[]⟩, .slice none 0 0, .slice none 0 0, .string ⟨#[]⟩] 47)).heap.size (w24.alloc (.cells #[.int .i64 0, .int .i64 0, .string ⟨#[]⟩, .slice none 0 0, .slice none 0 0, .string ⟨#[]⟩] 47)) W) => hN.below h hN.lt)
              clear hb hN
              generalize (w24.alloc (.cells #[.int .i64 0, .int .i64 0, .string ⟨#[]⟩, .slice none 0 0, .slice none 0 0, .string ⟨#[]⟩] 47)) = w27 at *
              refine hK.out _ _ (.inr (HSC.out _ HBc.out)) (fun _ => ?_)
              clear hK K
              (try simp only [List.getElem_toArray, List.getElem_cons_succ, List.getElem_cons_zero, Act.put, List.setIfInBounds_toArray, List.set_cons_zero, List.set_cons_succ])
              refine anyT_ready (rs := [11]) (by kernel_rfl) (by simp) ?_
              refine (AllReadyT.cons rfl (fun K hK => ?_) AllReadyT.nil)
              · go_simp
                go_at_call 18
                (with_reducible refine (HM2.out _ HBc.out).mono ?_)
                rintro e w28 ⟨PB, pd, AB, ad, rfl, hop, hoa, hb⟩
                dsimp only
                have HBc := Lib.hid (HBc.out.trans (hb.mono HBc.out.size))
                have HP := Lib.hid (fun (W : World) (h : Below w28.heap.size w28 W) => HP.out W (hb.trans (h.mono hb.size)))
                have HX := Lib.hid (fun (W : World) (h : Below w28.heap.size w28 W) => HX.out W (hb.trans (h.mono hb.size)))
                have HQ2 := Lib.hid (fun (W : World) (h : Below w28.heap.size w28 W) => HQ2.out W (hb.trans (h.mono hb.size)))
                have HY := Lib.hid (fun (W : World) (h : Below w28.heap.size w28 W) => own_below hoa h)
                clear hb hop hoa
                refine hK.out _ _ (.inr (HSC.out _ HBc.out)) (fun _ => ?_)
                clear hK K
                (try simp only [List.getElem_toArray, List.getElem_cons_succ, List.getElem_cons_zero, Act.put, List.setIfInBounds_toArray, List.set_cons_zero, List.set_cons_succ])
                refine anyT_ready (rs := [14]) (by kernel_rfl) (by simp) ?_
                refine AllReadyT.cons rfl (fun K hK => ?_) AllReadyT.nil
                have NP := HP.out _ (Below.refl _ _)
                have NQ := HQ2.out _ (Below.refl _ _)
                have OX := HX.out _ (Below.refl _ _)
                have OY := HY.out _ (Below.refl _ _)
                have p0 : w28.cell? ⟨w6.heap.size, 0, none⟩ = some (.int .i64 0) := NP.cell 0
                have z0 : w28.frozen? ⟨w6.heap.size, 0, none⟩ = false := NP.frozen 0
                have p1 : w28.cell? ⟨w6.heap.size, 1, none⟩ = some (.int .i64 0) := NP.cell 1
                have z1 : w28.frozen? ⟨w6.heap.size, 1, none⟩ = false := NP.frozen 1
                have p2 : w28.cell? ⟨w6.heap.size, 2, none⟩ = some (.string ⟨#[]⟩) := NP.cell 2
                have z2 : w28.frozen? ⟨w6.heap.size, 2, none⟩ = false := NP.frozen 2
                have p3 : w28.cell? ⟨w6.heap.size, 3, none⟩ = some (.slice none 0 0) := NP.cell 3
                have z3 : w28.frozen? ⟨w6.heap.size, 3, none⟩ = false := NP.frozen 3
                have p4 : w28.cell? ⟨w6.heap.size, 4, none⟩ = some (.slice none 0 0) := NP.cell 4
                have z4 : w28.frozen? ⟨w6.heap.size, 4, none⟩ = false := NP.frozen 4
                have p5 : w28.cell? ⟨w6.heap.size, 5, none⟩ = some (.string ⟨#[]⟩) := NP.cell 5
                have z5 : w28.frozen? ⟨w6.heap.size, 5, none⟩ = false := NP.frozen 5
                go_simp
                clear p0 p1 p2 p3 p4 p5 z0 z1 z2 z3 z4 z5
                show K _ (put6 w28 w6.heap.size (.int .i64 ma.kind) (.int .i64 ma.route) (.string ma.pat) (.slice PA ma.par.length pc) (.slice AA ma.allow.length ac) (.string ma.dest))
                have HBc := Lib.hid (put6_below (.int .i64 ma.kind) (.int .i64 ma.route) (.string ma.pat) (.slice PA ma.par.length pc) (.slice AA ma.allow.length ac) (.string ma.dest) HBc.out hl12)
                have NQ := put6_far (.int .i64 ma.kind) (.int .i64 ma.route) (.string ma.pat) (.slice PA ma.par.length pc) (.slice AA ma.allow.length ac) (.string ma.dest) NQ hne.symm
                have OX := put6_own (.int .i64 ma.kind) (.int .i64 ma.route) (.string ma.pat) (.slice PA ma.par.length pc) (.slice AA ma.allow.length ac) (.string ma.dest) OX NP (by decide)
                have OY := put6_own (.int .i64 ma.kind) (.int .i64 ma.route) (.string ma.pat) (.slice PA ma.par.length pc) (.slice AA ma.allow.length ac) (.string ma.dest) OY NP (by decide)
                have NP := put6_blk (.int .i64 ma.kind) (.int .i64 ma.route) (.string ma.pat) (.slice PA ma.par.length pc) (.slice AA ma.allow.length ac) (.string ma.dest) NP
                generalize (put6 w28 w6.heap.size (.int .i64 ma.kind) (.int .i64 ma.route) (.string ma.pat) (.slice PA ma.par.length pc) (.slice AA ma.allow.length ac) (.string ma.dest)) = wy at *
                refine hK.out _ _ (.inr (HSC.out _ HBc.out)) (fun _ => ?_)
                clear hK K
                (try simp only [List.getElem_toArray, List.getElem_cons_succ, List.getElem_cons_zero, Act.put, List.setIfInBounds_toArray, List.set_cons_zero, List.set_cons_succ])
                refine anyT_ready (rs := [15]) (by kernel_rfl) (by simp) ?_
                refine AllReadyT.cons rfl (fun K hK => ?_) AllReadyT.nil
                have p0 : wy.cell? ⟨w24.heap.size, 0, none⟩ = some (.int .i64 0) := NQ.cell 0
                have z0 : wy.frozen? ⟨w24.heap.size, 0, none⟩ = false := NQ.frozen 0
                have p1 : wy.cell? ⟨w24.heap.size, 1, none⟩ = some (.int .i64 0) := NQ.cell 1
                have z1 : wy.frozen? ⟨w24.heap.size, 1, none⟩ = false := NQ.frozen 1
                have p2 : wy.cell? ⟨w24.heap.size, 2, none⟩ = some (.string ⟨#[]⟩) := NQ.cell 2
                have z2 : wy.frozen? ⟨w24.heap.size, 2, none⟩ = false := NQ.frozen 2
                have p3 : wy.cell? ⟨w24.heap.size, 3, none⟩ = some (.slice none 0 0) := NQ.cell 3
                have z3 : wy.frozen? ⟨w24.heap.size, 3, none⟩ = false := NQ.frozen 3
                have p4 : wy.cell? ⟨w24.heap.size, 4, none⟩ = some (.slice none 0 0) := NQ.cell 4
                have z4 : wy.frozen? ⟨w24.heap.size, 4, none⟩ = false := NQ.frozen 4
                have p5 : wy.cell? ⟨w24.heap.size, 5, none⟩ = some (.string ⟨#[]⟩) := NQ.cell 5
                have z5 : wy.frozen? ⟨w24.heap.size, 5, none⟩ = false := NQ.frozen 5
                go_simp
                clear p0 p1 p2 p3 p4 p5 z0 z1 z2 z3 z4 z5
                show K _ (put6 wy w24.heap.size (.int .i64 mb.kind) (.int .i64 mb.route) (.string mb.pat) (.slice PB mb.par.length pd) (.slice AB mb.allow.length ad) (.string mb.dest))
                have HBc := Lib.hid (put6_below (.int .i64 mb.kind) (.int .i64 mb.route) (.string mb.pat) (.slice PB mb.par.length pd) (.slice AB mb.allow.length ad) (.string mb.dest) HBc.out hl13)
                have NP := put6_far (.int .i64 mb.kind) (.int .i64 mb.route) (.string mb.pat) (.slice PB mb.par.length pd) (.slice AB mb.allow.length ad) (.string mb.dest) NP hne
                have OX := put6_own (.int .i64 mb.kind) (.int .i64 mb.route) (.string mb.pat) (.slice PB mb.par.length pd) (.slice AB mb.allow.length ad) (.string mb.dest) OX NQ (by decide)
                have OY := put6_own (.int .i64 mb.kind) (.int .i64 mb.route) (.string mb.pat) (.slice PB mb.par.length pd) (.slice AB mb.allow.length ad) (.string mb.dest) OY NQ (by decide)
                have NQ := put6_blk (.int .i64 mb.kind) (.int .i64 mb.route) (.string mb.pat) (.slice PB mb.par.length pd) (.slice AB mb.allow.length ad) (.string mb.dest) NQ
                generalize (put6 wy w24.heap.size (.int .i64 mb.kind) (.int .i64 mb.route) (.string mb.pat) (.slice PB mb.par.length pd) (.slice AB mb.allow.length ad) (.string mb.dest)) = wz at *
                refine hK.out _ _ (.inl (by rfl)) (fun _ => ?_)
                clear hK K
                (try simp only [List.getElem_toArray, List.getElem_cons_succ, List.getElem_cons_zero, Act.put, List.setIfInBounds_toArray, List.set_cons_zero, List.set_cons_succ])
                refine anyT_done (by kernel_rfl) ?_ _
                have HTW := Lib.hid (show TwoM w6 ma mb _ _ wz from ⟨_, _, PA, pc, AA, ac, PB, pd, AB, ad, rfl, rfl, NP, NQ, own_row OX, own_row OY, own_max OX, HBc.out⟩)
                clear NP NQ OX OY hHeld hS0
                go_wp2_with fail
                go_meet
                exact HTW.out
          · go_simp
            have hl13 : w6.heap.size ≤ w23.heap.size := HBc.out.size
            have hne : w6.heap.size ≠ w23.heap.size := Nat.ne_of_lt (HP.out _ (Below.refl _ _)).lt
            have hb : Below w23.heap.size w23 (w23.alloc (.cells #[.int .i64 0, .int .i64 0, .string ⟨#[]⟩, .slice none 0 0, .slice none 0 0, .string ⟨#[]⟩] 47)) := (Below.refl _ _).alloc (Nat.le_refl _) _
            have hN : Blk (w23.alloc (.cells #[.int .i64 0, .int .i64 0, .string ⟨#[]⟩, .slice none 0 0, .slice none 0 0, .string ⟨#[]⟩] 47)) w23.heap.size 47 #[.int .i64 0, .int .i64 0, .string ⟨#[]⟩, .slice none 0 0, .slice none 0 0, .string ⟨#[]⟩] := Blk.new w23 _ _
            have HBc := Lib.hid (HBc.out.trans (hb.mono HBc.out.size))
            have HP := Lib.hid (fun (W : World) (h : Below (w23.alloc (.cells #[.int .i64 0, .int .i64 0, .string ⟨#[]⟩, .slice none 0 0, .slice none 0 0, .string ⟨#[]⟩] 47)).heap.size (w23.alloc (.cells #[.int .i64 0, .int .i64 0, .string ⟨#[]⟩, .slice none 0 0, .slice none 0 0, .string ⟨#[]⟩] 47)) W) => HP.out W (hb.trans (h.mono hb.size)))
            have HQ2 := Lib.hid (fun (W : World) (h : Below (w23.alloc (.cells #[.int .i64 0, .int .i64 0, .string ⟨#[]⟩, .slice none 0 0, .slice none 0 0, .string ⟨#[]⟩] 47)).heap.size (w23.alloc (.cells #[.int .i64 0, .int .i64 0, .string ⟨#[]⟩, .slice none 0 0, .slice none 0 0, .string ⟨#[]⟩] 47)) W) => hN.below h hN.lt)
            clear hb hN
            generalize (w23.alloc (.cells #[.int .i64 0, .int .i64 0, .string ⟨#[]⟩, .slice none 0 0, .slice none 0 0, .string ⟨#[]⟩] 47)) = w29 at *
            refine hK.out _ _ (.inr (HSC.out _ HBc.out)) (fun _ => ?_)
            clear hK K
            (try simp only [List.getElem_toArray, List.getElem_cons_succ, List.getElem_cons_zero, Act.put, List.setIfInBounds_toArray, List.set_cons_zero, List.set_cons_succ])
            refine anyT_ready (rs := [5]) (by kernel_rfl) (by simp) ?_
            refine (AllReadyT.cons rfl (fun K hK => ?_) AllReadyT.nil)
            · go_simp
              go_at_call 18
              (with_reducible refine (HM1.out _ HBc.out).mono ?_)
              rintro e w30 ⟨PA, pc, AA, ac, rfl, hop, hoa, hb⟩
              dsimp only
              have HBc := Lib.hid (HBc.out.trans (hb.mono HBc.out.size))
              have HP := Lib.hid (fun (W : World) (h : Below w30.heap.size w30 W) => HP.out W (hb.trans (h.mono hb.size)))
              have HQ2 := Lib.hid (fun (W : World) (h : Below w30.heap.size w30 W) => HQ2.out W (hb.trans (h.mono hb.size)))
              have HX := Lib.hid (fun (W : World) (h : Below w30.heap.size w30 W) => own_below hoa h)
              clear hb hop hoa
              refine hK.out _ _ (.inr (HSC.out _ HBc.out)) (fun _ => ?_)
              clear hK K
              (try simp only [List.getElem_toArray, List.getElem_cons_succ, List.getElem_cons_zero, Act.put, List.setIfInBounds_toArray, List.set_cons_zero, List.set_cons_succ])
              refine anyT_ready (rs := [11]) (by kernel_rfl) (by simp) ?_
              refine (AllReadyT.cons rfl (fun K hK => ?_) AllReadyT.nil)
              · go_simp
                go_at_call 18
                (with_reducible refine (HM2.out _ HBc.out).mono ?_)
                rintro e w31 ⟨PB, pd, AB, ad, rfl, hop, hoa, hb⟩
                dsimp only
                have HBc := Lib.hid (HBc.out.trans (hb.mono HBc.out.size))
                have HP := Lib.hid (fun (W : World) (h : Below w31.heap.size w31 W) => HP.out W (hb.trans (h.mono hb.size)))
                have HQ2 := Lib.hid (fun (W : World) (h : Below w31.heap.size w31 W) => HQ2.out W (hb.trans (h.mono hb.size)))
                have HX := Lib.hid (fun (W : World) (h : Below w31.heap.size w31 W) => HX.out W (hb.trans (h.mono hb.size)))
                have HY := Lib.hid (fun (W : World) (h : Below w31.heap.size w31 W) => own_below hoa h)
                clear hb hop hoa
                refine hK.out _ _ (.inr (HSC.out _ HBc.out)) (fun _ => ?_)
                clear hK K
                (try simp only [List.getElem_toArray, List.getElem_cons_succ, List.getElem_cons_zero, Act.put, List.setIfInBounds_toArray, List.set_cons_zero, List.set_cons_succ])
                refine anyT_ready (rs := [14]) (by kernel_rfl) (by simp) ?_
                refine AllReadyT.cons rfl (fun K hK => ?_) AllReadyT.nil
                have NP := HP.out _ (Below.refl _ _)
                have NQ := HQ2.out _ (Below.refl _ _)
                have OX := HX.out _ (Below.refl _ _)
                have OY := HY.out _ (Below.refl _ _)
                have p0 : w31.cell? ⟨w6.heap.size, 0, none⟩ = some (.int .i64 0) := NP.cell 0
                have z0 : w31.frozen? ⟨w6.heap.size, 0, none⟩ = false := NP.frozen 0
                have p1 : w31.cell? ⟨w6.heap.size, 1, none⟩ = some (.int .i64 0) := NP.cell 1
                have z1 : w31.frozen? ⟨w6.heap.size, 1, none⟩ = false := NP.frozen 1
                have p2 : w31.cell? ⟨w6.heap.size, 2, none⟩ = some (.string ⟨#[]⟩) := NP.cell 2
                have z2 : w31.frozen? ⟨w6.heap.size, 2, none⟩ = false := NP.frozen 2
                have p3 : w31.cell? ⟨w6.heap.size, 3, none⟩ = some (.slice none 0 0) := NP.cell 3
                have z3 : w31.frozen? ⟨w6.heap.size, 3, none⟩ = false := NP.frozen 3
                have p4 : w31.cell? ⟨w6.heap.size, 4, none⟩ = some (.slice none 0 0) := NP.cell 4
                have z4 : w31.frozen? ⟨w6.heap.size, 4, none⟩ = false := NP.frozen 4
                have p5 : w31.cell? ⟨w6.heap.size, 5, none⟩ = some (.string ⟨#[]⟩) := NP.cell 5
                have z5 : w31.frozen? ⟨w6.heap.size, 5, none⟩ = false := NP.frozen 5
                go_simp
                clear p0 p1 p2 p3 p4 p5 z0 z1 z2 z3 z4 z5
                show K _ (put6 w31 w6.heap.size (.int .i64 ma.kind) (.int .i64 ma.route) (.string ma.pat) (.slice PA ma.par.length pc) (.slice AA ma.allow.length ac) (.string ma.dest))
                have HBc := Lib.hid (put6_below (.int .i64 ma.kind) (.int .i64 ma.route) (.string ma.pat) (.slice PA ma.par.length pc) (.slice AA ma.allow.length ac) (.string ma.dest) HBc.out hl12)
                have NQ := put6_far (.int .i64 ma.kind) (.int .i64 ma.route) (.string ma.pat) (.slice PA ma.par.length pc) (.slice AA ma.allow.length ac) (.string ma.dest) NQ hne.symm
                have OX := put6_own (.int .i64 ma.kind) (.int .i64 ma.route) (.string ma.pat) (.slice PA ma.par.length pc) (.slice AA ma.allow.length ac) (.string ma.dest) OX NP (by decide)
                have OY := put6_own (.int .i64 ma.kind) (.int .i64 ma.route) (.string ma.pat) (.slice PA ma.par.length pc) (.slice AA ma.allow.length ac) (.string ma.dest) OY NP (by decide)
                have NP := put6_blk (.int .i64 ma.kind) (.int .i64 ma.route) (.string ma.pat) (.slice PA ma.par.length pc) (.slice AA ma.allow.length ac) (.string ma.dest) NP
                generalize (put6 w31 w6.heap.size (.int .i64 ma.kind) (.int .i64 ma.route) (.string ma.pat) (.slice PA ma.par.length pc) (.slice AA ma.allow.length ac) (.string ma.dest)) = wy at *
                refine hK.out _ _ (.inr (HSC.out _ HBc.out)) (fun _ => ?_)
                clear hK K
                (try simp only [List.getElem_toArray, List.getElem_cons_succ, List.getElem_cons_zero, Act.put, List.setIfInBounds_toArray, List.set_cons_zero, List.set_cons_succ])
                refine anyT_ready (rs := [15]) (by kernel_rfl) (by simp) ?_
                refine AllReadyT.cons rfl (fun K hK => ?_) AllReadyT.nil
                have p0 : wy.cell? ⟨w23.heap.size, 0, none⟩ = some (.int .i64 0) := NQ.cell 0
                have z0 : wy.frozen? ⟨w23.heap.size, 0, none⟩ = false := NQ.frozen 0
                have p1 : wy.cell? ⟨w23.heap.size, 1, none⟩ = some (.int .i64 0) := NQ.cell 1
                have z1 : wy.frozen? ⟨w23.heap.size, 1, none⟩ = false := NQ.frozen 1
                have p2 : wy.cell? ⟨w23.heap.size, 2, none⟩ = some (.string ⟨#[]⟩) := NQ.cell 2
                have z2 : wy.frozen? ⟨w23.heap.size, 2, none⟩ = false := NQ.frozen 2
                have p3 : wy.cell? ⟨w23.heap.size, 3, none⟩ = some (.slice none 0 0) := NQ.cell 3
                have z3 : wy.frozen? ⟨w23.heap.size, 3, none⟩ = false := NQ.frozen 3
                have p4 : wy.cell? ⟨w23.heap.size, 4, none⟩ = some (.slice none 0 0) := NQ.cell 4
                have z4 : wy.frozen? ⟨w23.heap.size, 4, none⟩ = false := NQ.frozen 4
                have p5 : wy.cell? ⟨w23.heap.size, 5, none⟩ = some (.string ⟨#[]⟩) := NQ.cell 5
                have z5 : wy.frozen? ⟨w23.heap.size, 5, none⟩ = false := NQ.frozen 5
                go_simp
                clear p0 p1 p2 p3 p4 p5 z0 z1 z2 z3 z4 z5
                show K _ (put6 wy w23.heap.size (.int .i64 mb.kind) (.int .i64 mb.route) (.string mb.pat) (.slice PB mb.par.length pd) (.slice AB mb.allow.length ad) (.string mb.dest))
                have HBc := Lib.hid (put6_below (.int .i64 mb.kind) (.int .i64 mb.route) (.string mb.pat) (.slice PB mb.par.length pd) (.slice AB mb.allow.length ad) (.string mb.dest) HBc.out hl13)
                have NP := put6_far (.int .i64 mb.kind) (.int .i64 mb.route) (.string mb.pat) (.slice PB mb.par.length pd) (.slice AB mb.allow.length ad) (.string mb.dest) NP hne
                have OX := put6_own (.int .i64 mb.kind) (.int .i64 mb.route) (.string mb.pat) (.slice PB mb.par.length pd) (.slice AB mb.allow.length ad) (.string mb.dest) OX NQ (by decide)
                have OY := put6_own (.int .i64 mb.kind) (.int .i64 mb.route) (.string mb.pat) (.slice PB mb.par.length pd) (.slice AB mb.allow.length ad) (.string mb.dest) OY NQ (by decide)
                have NQ := put6_blk (.int .i64 mb.kind) (.int .i64 mb.route) (.string mb.pat) (.slice PB mb.par.length pd) (.slice AB mb.allow.length ad) (.string mb.dest) NQ
                generalize (put6 wy w23.heap.size (.int .i64 mb.kind) (.int .i64 mb.route) (.string mb.pat) (.slice PB mb.par.length pd) (.slice AB mb.allow.length ad) (.string mb.dest)) = wz at *
                refine hK.out _ _ (.inl (by rfl)) (fun _ => ?_)
                clear hK K
                (try simp only [List.getElem_toArray, List.getElem_cons_succ, List.getElem_cons_zero, Act.put, List.setIfInBounds_toArray, List.set_cons_zero, List.set_cons_succ])
                refine anyT_done (by kernel_rfl) ?_ _
                have HTW := Lib.hid (show TwoM w6 ma mb _ _ wz from ⟨_, _, PA, pc, AA, ac, PB, pd, AB, ad, rfl, rfl, NP, NQ, own_row OX, own_row OY, own_max OX, HBc.out⟩)
                clear NP NQ OX OY hHeld hS0
                go_wp2_with fail
                go_meet
                exact HTW.out
        · go_simp
          have hl13 : w6.heap.size ≤ w6.heap.size := Nat.le_refl _
          have hN : Blk ((w6.alloc (.cells #[.int .i64 0, .int .i64 0, .string ⟨#[]⟩, .slice none 0 0, .slice none 0 0, .string ⟨#[]⟩] 47)).drew) w6.heap.size 47 #[.int .i64 0, .int .i64 0, .string ⟨#[]⟩, .slice none 0 0, .slice none 0 0, .string ⟨#[]⟩] := (Blk.new w6 _ _).drew
          have HBc : Hid (Below w6.heap.size w6 ((w6.alloc (.cells #[.int .i64 0, .int .i64 0, .string ⟨#[]⟩, .slice none 0 0, .slice none 0 0, .string ⟨#[]⟩] 47)).drew)) := Lib.hid (below_drew ((Below.refl _ w6).alloc (Nat.le_refl _) _))
          have HQ2 := Lib.hid (fun (W : World) (h : Below ((w6.alloc (.cells #[.int .i64 0, .int .i64 0, .string ⟨#[]⟩, .slice none 0 0, .slice none 0 0, .string ⟨#[]⟩] 47)).drew).heap.size ((w6.alloc (.cells #[.int .i64 0, .int .i64 0, .string ⟨#[]⟩, .slice none 0 0, .slice none 0 0, .string ⟨#[]⟩] 47)).drew) W) => hN.below h hN.lt)
          clear hN
          generalize ((w6.alloc (.cells #[.int .i64 0, .int .i64 0, .string ⟨#[]⟩, .slice none 0 0, .slice none 0 0, .string ⟨#[]⟩] 47)).drew) = w32 at *
          refine hK.out _ _ (.inr (HSC.out _ HBc.out)) (fun _ => ?_)
          clear hK K
          (try simp only [List.getElem_toArray, List.getElem_cons_succ, List.getElem_cons_zero, Act.put, List.setIfInBounds_toArray, List.set_cons_zero, List.set_cons_succ])
          refine anyT_ready (rs := [5, 12]) (by kernel_rfl) (by simp) ?_
          refine (AllReadyT.cons rfl (fun K hK => ?_) (AllReadyT.cons rfl (fun K hK => ?_) AllReadyT.nil))
          · go_simp
            go_at_call 18
            (with_reducible refine (HM1.out _ HBc.out).mono ?_)
            rintro e w33 ⟨PA, pc, AA, ac, rfl, hop, hoa, hb⟩
            dsimp only
            have HBc := Lib.hid (HBc.out.trans (hb.mono HBc.out.size))
            have HQ2 := Lib.hid (fun (W : World) (h : Below w33.heap.size w33 W) => HQ2.out W (hb.trans (h.mono hb.size)))
            have HX := Lib.hid (fun (W : World) (h : Below w33.heap.size w33 W) => own_below hoa h)
            clear hb hop hoa
            refine hK.out _ _ (.inr (HSC.out _ HBc.out)) (fun _ => ?_)
            clear hK K
            (try simp only [List.getElem_toArray, List.getElem_cons_succ, List.getElem_cons_zero, Act.put, List.setIfInBounds_toArray, List.set_cons_zero, List.set_cons_succ])
            refine anyT_ready (rs := [11, 12]) (by kernel_rfl) (by simp) ?_
            refine (AllReadyT.cons rfl (fun K hK => ?_) (AllReadyT.cons rfl (fun K hK => ?_) AllReadyT.nil))
            · go_simp
              go_at_call 18
              (with_reducible refine (HM2.out _ HBc.out).mono ?_)
              rintro e w34 ⟨PB, pd, AB, ad, rfl, hop, hoa, hb⟩
              dsimp only
              have HBc := Lib.hid (HBc.out.trans (hb.mono HBc.out.size))
              have HQ2 := Lib.hid (fun (W : World) (h : Below w34.heap.size w34 W) => HQ2.out W (hb.trans (h.mono hb.size)))
              have HX := Lib.hid (fun (W : World) (h : Below w34.heap.size w34 W) => HX.out W (hb.trans (h.mono hb.size)))
              have HY := Lib.hid (fun (W : World) (h : Below w34.heap.size w34 W) => own_below hoa h)
              clear hb hop hoa
              refine hK.out _ _ (.inr (HSC.out _ HBc.out)) (fun _ => ?_)
              clear hK K
              (try simp only [List.getElem_toArray, List.getElem_cons_succ, List.getElem_cons_zero, Act.put, List.setIfInBounds_toArray, List.set_cons_zero, List.set_cons_succ])
              refine anyT_ready (rs := [12]) (by kernel_rfl) (by simp) ?_
              refine (AllReadyT.cons rfl (fun K hK => ?_) AllReadyT.nil)
              · go_simp
                have hl12 : w6.heap.size ≤ w34.heap.size := HBc.out.size
                have hne : w34.heap.size ≠ w6.heap.size := Nat.ne_of_gt (HQ2.out _ (Below.refl _ _)).lt
                have hb : Below w34.heap.size w34 (w34.alloc (.cells #[.int .i64 0, .int .i64 0, .string ⟨#[]⟩, .slice none 0 0, .slice none 0 0, .string ⟨#[]⟩] 47)) := (Below.refl _ _).alloc (Nat.le_refl _) _
                have hN : Blk (w34.alloc (.cells #[.int .i64 0, .int .i64 0, .string ⟨#[]⟩, .slice none 0 0, .slice none 0 0, .string ⟨#[]⟩] 47)) w34.heap.size 47 #[.int .i64 0, .int .i64 0, .string ⟨#[]⟩, .slice none 0 0, .slice none 0 0, .string ⟨#[]⟩] := Blk.new w34 _ _
                have HBc := Lib.hid (HBc.out.trans (hb.mono HBc.out.size))
                have HQ2 := Lib.hid (fun (W : World) (h : Below (w34.alloc (.cells #[.int .i64 0, .int .i64 0, .string ⟨#[]⟩, .slice none 0 0, .slice none 0 0, .string ⟨#[]⟩] 47)).heap.size (w34.alloc (.cells #[.int .i64 0, .int .i64 0, .string ⟨#[]⟩, .slice none 0 0, .slice none 0 0, .string ⟨#[]⟩] 47)) W) => HQ2.out W (hb.trans (h.mono hb.size)))
                have HX := Lib.hid (fun (W : World) (h : Below (w34.alloc (.cells #[.int .i64 0, .int .i64 0, .string ⟨#[]⟩, .slice none 0 0, .slice none 0 0, .string ⟨#[]⟩] 47)).heap.size (w34.alloc (.cells #[.int .i64 0, .int .i64 0, .string ⟨#[]⟩, .slice none 0 0, .slice none 0 0, .string ⟨#[]⟩] 47)) W) => HX.out W (hb.trans (h.mono hb.size)))
                have HY := Lib.hid (fun (W : World) (h : Below (w34.alloc (.cells #[.int .i64 0, .int .i64 0, .string ⟨#[]⟩, .slice none 0 0, .slice none 0 0, .string ⟨#[]⟩] 47)).heap.size (w34.alloc (.cells #[.int .i64 0, .int .i64 0, .string ⟨#[]⟩, .slice none 0 0, .slice none 0 0, .string ⟨#[]⟩] 47)) W) => HY.out W (hb.trans (h.mono hb.size)))
                have HP := Lib.hid (fun (W : World) (h : Below (w34.alloc (.cells #[.int .i64 0, .int .i64 0, .string ⟨#[]⟩, .slice none 0 0, .slice none 0 0, .string ⟨#[]⟩] 47)).heap.size (w34.alloc (.cells #[.int .i64 0, .int .i64 0, .string ⟨#[]⟩, .slice none 0 0, .slice none 0 0, .string ⟨#[]⟩] 47)) W) => hN.below h hN.lt)
                clear hb hN
                generalize (w34.alloc (.cells #[.int .i64 0, .int .i64 0, .string ⟨#[]⟩, .slice none 0 0, .slice none 0 0, .string ⟨#[]⟩] 47)) = w35 at *
                refine hK.out _ _ (.inr (HSC.out _ HBc.out)) (fun _ => ?_)
                clear hK K
                (try simp only [List.getElem_toArray, List.getElem_cons_succ, List.getElem_cons_zero, Act.put, List.setIfInBounds_toArray, List.set_cons_zero, List.set_cons_succ])
                refine anyT_ready (rs := [14]) (by kernel_rfl) (by simp) ?_
                refine AllReadyT.cons rfl (fun K hK => ?_) AllReadyT.nil
                have NP := HP.out _ (Below.refl _ _)
                have NQ := HQ2.out _ (Below.refl _ _)
                have OX := HX.out _ (Below.refl _ _)
                have OY := HY.out _ (Below.refl _ _)
                have p0 : w35.cell? ⟨w34.heap.size, 0, none⟩ = some (.int .i64 0) := NP.cell 0
                have z0 : w35.frozen? ⟨w34.heap.size, 0, none⟩ = false := NP.frozen 0
                have p1 : w35.cell? ⟨w34.heap.size, 1, none⟩ = some (.int .i64 0) := NP.cell 1
                have z1 : w35.frozen? ⟨w34.heap.size, 1, none⟩ = false := NP.frozen 1
                have p2 : w35.cell? ⟨w34.heap.size, 2, none⟩ = some (.string ⟨#[]⟩) := NP.cell 2
                have z2 : w35.frozen? ⟨w34.heap.size, 2, none⟩ = false := NP.frozen 2
                have p3 : w35.cell? ⟨w34.heap.size, 3, none⟩ = some (.slice none 0 0) := NP.cell 3
                have z3 : w35.frozen? ⟨w34.heap.size, 3, none⟩ = false := NP.frozen 3
                have p4 : w35.cell? ⟨w34.heap.size, 4, none⟩ = some (.slice none 0 0) := NP.cell 4
                have z4 : w35.frozen? ⟨w34.heap.size, 4, none⟩ = false := NP.frozen 4
                have p5 : w35.cell? ⟨w34.heap.size, 5, none⟩ = some (.string ⟨#[]⟩) := NP.cell 5
                have z5 : w35.frozen? ⟨w34.heap.size, 5, none⟩ = false := NP.frozen 5
                go_simp
                clear p0 p1 p2 p3 p4 p5 z0 z1 z2 z3 z4 z5
                show K _ (put6 w35 w34.heap.size (.int .i64 ma.kind) (.int .i64 ma.route) (.string ma.pat) (.slice PA ma.par.length pc) (.slice AA ma.allow.length ac) (.string ma.dest))
                have HBc := Lib.hid (put6_below (.int .i64 ma.kind) (.int .i64 ma.route) (.string ma.pat) (.slice PA ma.par.length pc) (.slice AA ma.allow.length ac) (.string ma.dest) HBc.out hl12)
                have NQ := put6_far (.int .i64 ma.kind) (.int .i64 ma.route) (.string ma.pat) (.slice PA ma.par.length pc) (.slice AA ma.allow.length ac) (.string ma.dest) NQ hne.symm
                have OX := put6_own (.int .i64 ma.kind) (.int .i64 ma.route) (.string ma.pat) (.slice PA ma.par.length pc) (.slice AA ma.allow.length ac) (.string ma.dest) OX NP (by decide)
                have OY := put6_own (.int .i64 ma.kind) (.int .i64 ma.route) (.string ma.pat) (.slice PA ma.par.length pc) (.slice AA ma.allow.length ac) (.string ma.dest) OY NP (by decide)
                have NP := put6_blk (.int .i64 ma.kind) (.int .i64 ma.route) (.string ma.pat) (.slice PA ma.par.length pc) (.slice AA ma.allow.length ac) (.string ma.dest) NP
                generalize (put6 w35 w34.heap.size (.int .i64 ma.kind) (.int .i64 ma.route) (.string ma.pat) (.slice PA ma.par.length pc) (.slice AA ma.allow.length ac) (.string ma.dest)) = wy at *
                refine hK.out _ _ (.inr (HSC.out _ HBc.out)) (fun _ => ?_)
                clear hK K
                (try simp only [List.getElem_toArray, List.getElem_cons_succ, List.getElem_cons_zero, Act.put, List.setIfInBounds_toArray, List.set_cons_zero, List.set_cons_succ])
                refine anyT_ready (rs := [15]) (by kernel_rfl) (by simp) ?_
                refine AllReadyT.cons rfl (fun K hK => ?_) AllReadyT.nil
                have p0 : wy.cell? ⟨w6.heap.size, 0, none⟩ = some (.int .i64 0) := NQ.cell 0
                have z0 : wy.frozen? ⟨w6.heap.size, 0, none⟩ = false := NQ.frozen 0
                have p1 : wy.cell? ⟨w6.heap.size, 1, none⟩ = some (.int .i64 0) := NQ.cell 1
                have z1 : wy.frozen? ⟨w6.heap.size, 1, none⟩ = false := NQ.frozen 1
                have p2 : wy.cell? ⟨w6.heap.size, 2, none⟩ = some (.string ⟨#[]⟩) := NQ.cell 2
                have z2 : wy.frozen? ⟨w6.heap.size, 2, none⟩ = false := NQ.frozen 2
                have p3 : wy.cell? ⟨w6.heap.size, 3, none⟩ = some (.slice none 0 0) := NQ.cell 3
                have z3 : wy.frozen? ⟨w6.heap.size, 3, none⟩ = false := NQ.frozen 3
                have p4 : wy.cell? ⟨w6.heap.size, 4, none⟩ = some (.slice none 0 0) := NQ.cell 4
                have z4 : wy.frozen? ⟨w6.heap.size, 4, none⟩ = false := NQ.frozen 4
                have p5 : wy.cell? ⟨w6.heap.size, 5, none⟩ = some (.string ⟨#[]⟩) := NQ.cell 5
                have z5 : wy.frozen? ⟨w6.heap.size, 5, none⟩ = false := NQ.frozen 5
                go_simp
                clear p0 p1 p2 p3 p4 p5 z0 z1 z2 z3 z4 z5
                show K _ (put6 wy w6.heap.size (.int .i64 mb.kind) (.int .i64 mb.route) (.string mb.pat) (.slice PB mb.par.length pd) (.slice AB mb.allow.length ad) (.string mb.dest))
                have HBc := Lib.hid (put6_below (.int .i64 mb.kind) (.int .i64 mb.route) (.string mb.pat) (.slice PB mb.par.length pd) (.slice AB mb.allow.length ad) (.string mb.dest) HBc.out hl13)
                have NP := put6_far (.int .i64 mb.kind) (.int .i64 mb.route) (.string mb.pat) (.slice PB mb.par.length pd) (.slice AB mb.allow.length ad) (.string mb.dest) NP hne
                have OX := put6_own (.int .i64 mb.kind) (.int .i64 mb.route) (.string mb.pat) (.slice PB mb.par.length pd) (.slice AB mb.allow.length ad) (.string mb.dest) OX NQ (by decide)
                have OY := put6_own (.int .i64 mb.kind) (.int .i64 mb.route) (.string mb.pat) (.slice PB mb.par.length pd) (.slice AB mb.allow.length ad) (.string mb.dest) OY NQ (by decide)
                have NQ := put6_blk (.int .i64 mb.kind) (.int .i64 mb.route) (.string mb.pat) (.slice PB mb.par.length pd) (.slice AB mb.allow.length ad) (.string mb.dest) NQ
                generalize (put6 wy w6.heap.size (.int .i64 mb.kind) (.int .i64 mb.route) (.string mb.pat) (.slice PB mb.par.length pd) (.slice AB mb.allow.length ad) (.string mb.dest)) = wz at *
                refine hK.out _ _ (.inl (by rfl)) (fun _ => ?_)
                clear hK K
                (try simp only [List.getElem_toArray, List.getElem_cons_succ, List.getElem_cons_zero, Act.put, List.setIfInBounds_toArray, List.set_cons_zero, List.set_cons_succ])
                refine anyT_done (by kernel_rfl) ?_ _
                have HTW := Lib.hid (show TwoM w6 ma mb _ _ wz from ⟨_, _, PA, pc, AA, ac, PB, pd, AB, ad, rfl, rfl, NP, NQ, own_row OX, own_row OY, own_max OX, HBc.out⟩)
                clear NP NQ OX OY hHeld hS0
                go_wp2_with fail
                go_meet
                exact HTW.out
            · go_simp
              have hl12 : w6.heap.size ≤ w33.heap.size := HBc.out.size
              have hne : w33.heap.size ≠ w6.heap.size := Nat.ne_of_gt (HQ2.out _ (Below.refl _ _)).lt
              have hb : Below w33.heap.size w33 (w33.alloc (.cells #[.int .i64 0, .int .i64 0, .string ⟨#[]⟩, .slice none 0 0, .slice none 0 0, .string ⟨#[]⟩] 47)) := (Below.refl _ _).alloc (Nat.le_refl _) _
              have hN : Blk (w33.alloc (.cells #[.int .i64 0, .int .i64 0, .string ⟨#[]⟩, .slice none 0 0, .slice none 0 0, .string ⟨#[]⟩] 47)) w33.heap.size 47 #[.int .i64 0, .int .i64 0, .string ⟨#[]⟩, .slice none 0 0, .slice none 0 0, .string ⟨#[]⟩] := Blk.new w33 _ _
              have HBc := Lib.hid (HBc.out.trans (hb.mono HBc.out.size))
              have HQ2 := Lib.hid (fun (W : World) (h : Below (w33.alloc (.cells #[.int .i64 0, .int .i64 0, .string ⟨#[]⟩, .slice none 0 0, .slice none 0 0, .string ⟨#[]⟩] 47)).heap.size (w33.alloc (.cells #[.int .i64 0, .int .i64 0, .string ⟨#[]⟩, .slice none 0 0, .slice none 0 0, .string ⟨#[]⟩] 47)) W) => HQ2.out W (hb.trans (h.mono hb.size)))
              have HX := Lib.hid (fun (W : World) (h : Below (w33.alloc (.cells #[.int .i64 0, .int .i64 0, .string ⟨#[]⟩, .slice none 0 0, .slice none 0 0, .string ⟨#[]⟩] 47)).heap.size (w33.alloc (.cells #[.int .i64 0, .int .i64 0, .string ⟨#[]⟩, .slice none 0 0, .slice none 0 0, .string ⟨#[]⟩] 47)) W) => HX.out W (hb.trans (h.mono hb.size)))
              have HP := Lib.hid (fun (W : World) (h : Below (w33.alloc (.cells #[.int .i64 0, .int .i64 0, .string ⟨#[]⟩, .slice none 0 0, .slice none 0 0, .string ⟨#[]⟩] 47)).heap.size (w33.alloc (.cells #[.int .i64 0, .int .i64 0, .string ⟨#[]⟩, .slice none 0 0, .slice none 0 0, .string ⟨#[]⟩] 47)) W) => hN.below h hN.lt)
              clear hb hN
              generalize (w33.alloc (.cells #[.int .i64 0, .int .i64 0, .string ⟨#[]⟩, .slice none 0 0, .slice none 0 0, .string ⟨#[]⟩] 47)) = w36 at *
              refine hK.out _ _ (.inr (HSC.out _ HBc.out)) (fun _ => ?_)
              clear hK K
              (try simp only [List.getElem_toArray, List.getElem_cons_succ, List.getElem_cons_zero, Act.put, List.setIfInBounds_toArray, List.set_cons_zero, List.set_cons_succ])
              refine anyT_ready (rs := [11]) (by kernel_rfl) (by simp) ?_
              refine (AllReadyT.cons rfl (fun K hK => ?_) AllReadyT.nil)
              · go_simp
                go_at_call 18
                (with_reducible refine (HM2.out _ HBc.out).mono ?_)
                rintro e w37 ⟨PB, pd, AB, ad, rfl, hop, hoa, hb⟩
                dsimp only
                have HBc := Lib.hid (HBc.out.trans (hb.mono HBc.out.size))
                have HQ2 := Lib.hid (fun (W : World) (h : Below w37.heap.size w37 W) => HQ2.out W (hb.trans (h.mono hb.size)))
                have HX := Lib.hid (fun (W : World) (h : Below w37.heap.size w37 W) => HX.out W (hb.trans (h.mono hb.size)))
                have HP := Lib.hid (fun (W : World) (h : Below w37.heap.size w37 W) => HP.out W (hb.trans (h.mono hb.size)))
                have HY := Lib.hid (fun (W : World) (h : Below w37.heap.size w37 W) => own_below hoa h)
                clear hb hop hoa
                refine hK.out _ _ (.inr (HSC.out _ HBc.out)) (fun _ => ?_)
                clear hK K
                (try simp only [List.getElem_toArray, List.getElem_cons_succ, List.getElem_cons_zero, Act.put, List.setIfInBounds_toArray, List.set_cons_zero, List.set_cons_succ])
                refine anyT_ready (rs := [14]) (by kernel_rfl) (by simp) ?_
                refine AllReadyT.cons rfl (fun K hK => ?_) AllReadyT.nil
                have NP := HP.out _ (Below.refl _ _)
                have NQ := HQ2.out _ (Below.refl _ _)
                have OX := HX.out _ (Below.refl _ _)
                have OY := HY.out _ (Below.refl _ _)
                have p0 : w37.cell? ⟨w33.heap.size, 0, none⟩ = some (.int .i64 0) := NP.cell 0
                have z0 : w37.frozen? ⟨w33.heap.size, 0, none⟩ = false := NP.frozen 0
                have p1 : w37.cell? ⟨w33.heap.size, 1, none⟩ = some (.int .i64 0) := NP.cell 1
                have z1 : w37.frozen? ⟨w33.heap.size, 1, none⟩ = false := NP.frozen 1
                have p2 : w37.cell? ⟨w33.heap.size, 2, none⟩ = some (.string ⟨#[]⟩) := NP.cell 2
                have z2 : w37.frozen? ⟨w33.heap.size, 2, none⟩ = false := NP.frozen 2
                have p3 : w37.cell? ⟨w33.heap.size, 3, none⟩ = some (.slice none 0 0) := NP.cell 3
                have z3 : w37.frozen? ⟨w33.heap.size, 3, none⟩ = false := NP.frozen 3
                have p4 : w37.cell? ⟨w33.heap.size, 4, none⟩ = some (.slice none 0 0) := NP.cell 4
                have z4 : w37.frozen? ⟨w33.heap.size, 4, none⟩ = false := NP.frozen 4
                have p5 : w37.cell? ⟨w33.heap.size, 5, none⟩ = some (.string ⟨#[]⟩) := NP.cell 5
                have z5 : w37.frozen? ⟨w33.heap.size, 5, none⟩ = false := NP.frozen 5
                go_simp
                clear p0 p1 p2 p3 p4 p5 z0 z1 z2 z3 z4 z5
                show K _ (put6 w37 w33.heap.size (.int .i64 ma.kind) (.int .i64 ma.route) (.string ma.pat) (.slice PA ma.par.length pc) (.slice AA ma.allow.length ac) (.string ma.dest))
                have HBc := Lib.hid (put6_below (.int .i64 ma.kind) (.int .i64 ma.route) (.string ma.pat) (.slice PA ma.par.length pc) (.slice AA ma.allow.length ac) (.string ma.dest) HBc.out hl12)
                have NQ := put6_far (.int .i64 ma.kind) (.int .i64 ma.route) (.string ma.pat) (.slice PA ma.par.length pc) (.slice AA ma.allow.length ac) (.string ma.dest) NQ hne.symm
                have OX := put6_own (.int .i64 ma.kind) (.int .i64 ma.route) (.string ma.pat) (.slice PA ma.par.length pc) (.slice AA ma.allow.length ac) (.string ma.dest) OX NP (by decide)
                have OY := put6_own (.int .i64 ma.kind) (.int .i64 ma.route) (.string ma.pat) (.slice PA ma.par.length pc) (.slice AA ma.allow.length ac) (.string ma.dest) OY NP (by decide)
                have NP := put6_blk (.int .i64 ma.kind) (.int .i64 ma.route) (.string ma.pat) (.slice PA ma.par.length pc) (.slice AA ma.allow.length ac) (.string ma.dest) NP
                generalize (put6 w37 w33.heap.size (.int .i64 ma.kind) (.int .i64 ma.route) (.string ma.pat) (.slice PA ma.par.length pc) (.slice AA ma.allow.length ac) (.string ma.dest)) = wy at *
                refine hK.out _ _ (.inr (HSC.out _ HBc.out)) (fun _ => ?_)
                clear hK K
                (try simp only [List.getElem_toArray, List.getElem_cons_succ, List.getElem_cons_zero, Act.put, List.setIfInBounds_toArray, List.set_cons_zero, List.set_cons_succ])
                refine anyT_ready (rs := [15]) (by kernel_rfl) (by simp) ?_
                refine AllReadyT.cons rfl (fun K hK => ?_) AllReadyT.nil
                have p0 : wy.cell? ⟨w6.heap.size, 0, none⟩ = some (.int .i64 0) := NQ.cell 0
                have z0 : wy.frozen? ⟨w6.heap.size, 0, none⟩ = false := NQ.frozen 0
                have p1 : wy.cell? ⟨w6.heap.size, 1, none⟩ = some (.int .i64 0) := NQ.cell 1
                have z1 : wy.frozen? ⟨w6.heap.size, 1, none⟩ = false := NQ.frozen 1
                have p2 : wy.cell? ⟨w6.heap.size, 2, none⟩ = some (.string ⟨#[]⟩) := NQ.cell 2
                have z2 : wy.frozen? ⟨w6.heap.size, 2, none⟩ = false := NQ.frozen 2
                have p3 : wy.cell? ⟨w6.heap.size, 3, none⟩ = some (.slice none 0 0) := NQ.cell 3
                have z3 : wy.frozen? ⟨w6.heap.size, 3, none⟩ = false := NQ.frozen 3
                have p4 : wy.cell? ⟨w6.heap.size, 4, none⟩ = some (.slice none 0 0) := NQ.cell 4
                have z4 : wy.frozen? ⟨w6.heap.size, 4, none⟩ = false := NQ.frozen 4
                have p5 : wy.cell? ⟨w6.heap.size, 5, none⟩ = some (.string ⟨#[]⟩) := NQ.cell 5
                have z5 : wy.frozen? ⟨w6.heap.size, 5, none⟩ = false := NQ.frozen 5
                go_simp
                clear p0 p1 p2 p3 p4 p5 z0 z1 z2 z3 z4 z5
                show K _ (put6 wy w6.heap.size (.int .i64 mb.kind) (.int .i64 mb.route) (.string mb.pat) (.slice PB mb.par.length pd) (.slice AB mb.allow.length ad) (.string mb.dest))
                have HBc := Lib.hid (put6_below (.int .i64 mb.kind) (.int .i64 mb.route) (.string mb.pat) (.slice PB mb.par.length pd) (.slice AB mb.allow.length ad) (.string mb.dest) HBc.out hl13)
                have NP := put6_far (.int .i64 mb.kind) (.int .i64 mb.route) (.string mb.pat) (.slice PB mb.par.length pd) (.slice AB mb.allow.length ad) (.string mb.dest) NP hne
                have OX := put6_own (.int .i64 mb.kind) (.int .i64 mb.route) (.string mb.pat) (.slice PB mb.par.length pd) (.slice AB mb.allow.length ad) (.string mb.dest) OX NQ (by decide)
                have OY := put6_own (.int .i64 mb.kind) (.int .i64 mb.route) (.string mb.pat) (.slice PB mb.par.length pd) (.slice AB mb.allow.length ad) (.string mb.dest) OY NQ (by decide)
                have NQ := put6_blk (.int .i64 mb.kind) (.int .i64 mb.route) (.string mb.pat) (.slice PB mb.par.length pd) (.slice AB mb.allow.length ad) (.string mb.dest) NQ
                generalize (put6 wy w6.heap.size (.int .i64 mb.kind) (.int .i64 mb.route) (.string mb.pat) (.slice PB mb.par.length pd) (.slice AB mb.allow.length ad) (.string mb.dest)) = wz at *
                refine hK.out _ _ (.inl (by rfl)) (fun _ => ?_)
                clear hK K
                (try simp only [List.getElem_toArray, List.getElem_cons_succ, List.getElem_cons_zero, Act.put, List.setIfInBounds_toArray, List.set_cons_zero, List.set_cons_succ])
                refine anyT_done (by kernel_rfl) ?_ _
                have HTW := Lib.hid (show TwoM w6 ma mb _ _ wz from ⟨_, _, PA, pc, AA, ac, PB, pd, AB, ad, rfl, rfl, NP, NQ, own_row OX, own_row OY, own_max OX, HBc.out⟩)
                clear NP NQ OX OY hHeld hS0
                go_wp2_with fail
                go_meet
                exact HTW.out
          · go_simp
            have hl12 : w6.heap.size ≤ w32.heap.size := HBc.out.size
            have hne : w32.heap.size ≠ w6.heap.size := Nat.ne_of_gt (HQ2.out _ (Below.refl _ _)).lt
            have hb : Below w32.heap.size w32 (w32.alloc (.cells #[.int .i64 0, .int .i64 0, .string ⟨#[]⟩, .slice none 0 0, .slice none 0 0, .string ⟨#[]⟩] 47)) := (Below.refl _ _).alloc (Nat.le_refl _) _
            have hN : Blk (w32.alloc (.cells #[.int .i64 0, .int .i64 0, .string ⟨#[]⟩, .slice none 0 0, .slice none 0 0, .string ⟨#[]⟩] 47)) w32.heap.size 47 #[.int .i64 0, .int .i64 0, .string ⟨#[]⟩, .slice none 0 0, .slice none 0 0, .string ⟨#[]⟩] := Blk.new w32 _ _
            have HBc := Lib.hid (HBc.out.trans (hb.mono HBc.out.size))
            have HQ2 := Lib.hid (fun (W : World) (h : Below (w32.alloc (.cells #[.int .i64 0, .int .i64 0, .string ⟨#[]⟩, .slice none 0 0, .slice none 0 0, .string ⟨#[]⟩] 47)).heap.size (w32.alloc (.cells #[.int .i64 0, .int .i64 0, .string ⟨#[]⟩, .slice none 0 0, .slice none 0 0, .string ⟨#[]⟩] 47)) W) => HQ2.out W (hb.trans (h.mono hb.size)))
            have HP := Lib.hid (fun (W : World) (h : Below (w32.alloc (.cells #[.int .i64 0, .int .i64 0, .string ⟨#[]⟩, .slice none 0 0, .slice none 0 0, .string ⟨#[]⟩] 47)).heap.size (w32.alloc (.cells #[.int .i64 0, .int .i64 0, .string ⟨#[]⟩, .slice none 0 0, .slice none 0 0, .string ⟨#[]⟩] 47)) W) => hN.below h hN.lt)
            clear hb hN
            generalize (w32.alloc (.cells #[.int .i64 0, .int .i64 0, .string ⟨#[]⟩, .slice none 0 0, .slice none 0 0, .string ⟨#[]⟩] 47)) = w38 at *
            refine hK.out _ _ (.inr (HSC.out _ HBc.out)) (fun _ => ?_)
            clear hK K
            (try simp only [List.getElem_toArray, List.getElem_cons_succ, List.getElem_cons_zero, Act.put, List.setIfInBounds_toArray, List.set_cons_zero, List.set_cons_succ])
            refine anyT_ready (rs := [5]) (by kernel_rfl) (by simp) ?_
            refine (AllReadyT.cons rfl (fun K hK => ?_) AllReadyT.nil)
            · go_simp
              go_at_call 18
              (with_reducible refine (HM1.out _ HBc.out).mono ?_)
              rintro e w39 ⟨PA, pc, AA, ac, rfl, hop, hoa, hb⟩
              dsimp only
              have HBc := Lib.hid (HBc.out.trans (hb.mono HBc.out.size))
              have HQ2 := Lib.hid (fun (W : World) (h : Below w39.heap.size w39 W) => HQ2.out W (hb.trans (h.mono hb.size)))
              have HP := Lib.hid (fun (W : World) (h : Below w39.heap.size w39 W) => HP.out W (hb.trans (h.mono hb.size)))
              have HX := Lib.hid (fun (W : World) (h : Below w39.heap.size w39 W) => own_below hoa h)
              clear hb hop hoa
              refine hK.out _ _ (.inr (HSC.out _ HBc.out)) (fun _ => ?_)
              clear hK K
              (try simp only [List.getElem_toArray, List.getElem_cons_succ, List.getElem_cons_zero, Act.put, List.setIfInBounds_toArray, List.set_cons_zero, List.set_cons_succ])
              refine anyT_ready (rs := [11]) (by kernel_rfl) (by simp) ?_
              refine (AllReadyT.cons rfl (fun K hK => ?_) AllReadyT.nil)
              · go_simp
                go_at_call 18
                (with_reducible refine (HM2.out _ HBc.out).mono ?_)
                rintro e w40 ⟨PB, pd, AB, ad, rfl, hop, hoa, hb⟩
                dsimp only
                have HBc := Lib.hid (HBc.out.trans (hb.mono HBc.out.size))
                have HQ2 := Lib.hid (fun (W : World) (h : Below w40.heap.size w40 W) => HQ2.out W (hb.trans (h.mono hb.size)))
                have HP := Lib.hid (fun (W : World) (h : Below w40.heap.size w40 W) => HP.out W (hb.trans (h.mono hb.size)))
                have HX := Lib.hid (fun (W : World) (h : Below w40.heap.size w40 W) => HX.out W (hb.trans (h.mono hb.size)))
                have HY := Lib.hid (fun (W : World) (h : Below w40.heap.size w40 W) => own_below hoa h)
                clear hb hop hoa
                refine hK.out _ _ (.inr (HSC.out _ HBc.out)) (fun _ => ?_)
                clear hK K
                (try simp only [List.getElem_toArray, List.getElem_cons_succ, List.getElem_cons_zero, Act.put, List.setIfInBounds_toArray, List.set_cons_zero, List.set_cons_succ])
                refine anyT_ready (rs := [14]) (by kernel_rfl) (by simp) ?_
                refine AllReadyT.cons rfl (fun K hK => ?_) AllReadyT.nil
                have NP := HP.out _ (Below.refl _ _)
                have NQ := HQ2.out _ (Below.refl _ _)
                have OX := HX.out _ (Below.refl _ _)
                have OY := HY.out _ (Below.refl _ _)
                have p0 : w40.cell? ⟨w32.heap.size, 0, none⟩ = some (.int .i64 0) := NP.cell 0
                have z0 : w40.frozen? ⟨w32.heap.size, 0, none⟩ = false := NP.frozen 0
                have p1 : w40.cell? ⟨w32.heap.size, 1, none⟩ = some (.int .i64 0) := NP.cell 1
                have z1 : w40.frozen? ⟨w32.heap.size, 1, none⟩ = false := NP.frozen 1
                have p2 : w40.cell? ⟨w32.heap.size, 2, none⟩ = some (.string ⟨#[]⟩) := NP.cell 2
                have z2 : w40.frozen? ⟨w32.heap.size, 2, none⟩ = false := NP.frozen 2
                have p3 : w40.cell? ⟨w32.heap.size, 3, none⟩ = some (.slice none 0 0) := NP.cell 3
                have z3 : w40.frozen? ⟨w32.heap.size, 3, none⟩ = false := NP.frozen 3
                have p4 : w40.cell? ⟨w32.heap.size, 4, none⟩ = some (.slice none 0 0) := NP.cell 4
                have z4 : w40.frozen? ⟨w32.heap.size, 4, none⟩ = false := NP.frozen 4
                have p5 : w40.cell? ⟨w32.heap.size, 5, none⟩ = some (.string ⟨#[]⟩) := NP.cell 5
                have z5 : w40.frozen? ⟨w32.heap.size, 5, none⟩ = false := NP.frozen 5
                go_simp
                clear p0 p1 p2 p3 p4 p5 z0 z1 z2 z3 z4 z5
                show K _ (put6 w40 w32.heap.size (.int .i64 ma.kind) (.int .i64 ma.route) (.string ma.pat) (.slice PA ma.par.length pc) (.slice AA ma.allow.length ac) (.string ma.dest))
                have HBc := Lib.hid (put6_below (.int .i64 ma.kind) (.int .i64 ma.route) (.string ma.pat) (.slice PA ma.par.length pc) (.slice AA ma.allow.length ac) (.string ma.dest) HBc.out hl12)
                have NQ := put6_far (.int .i64 ma.kind) (.int .i64 ma.route) (.string ma.pat) (.slice PA ma.par.length pc) (.slice AA ma.allow.length ac) (.string ma.dest) NQ hne.symm
                have OX := put6_own (.int .i64 ma.kind) (.int .i64 ma.route) (.string ma.pat) (.slice PA ma.par.length pc) (.slice AA ma.allow.length ac) (.string ma.dest) OX NP (by decide)
                have OY := put6_own (.int .i64 ma.kind) (.int .i64 ma.route) (.string ma.pat) (.slice PA ma.par.length pc) (.slice AA ma.allow.length ac) (.string ma.dest) OY NP (by decide)
                have NP := put6_blk (.int .i64 ma.kind) (.int .i64 ma.route) (.string ma.pat) (.slice PA ma.par.length pc) (.slice AA ma.allow.length ac) (.string ma.dest) NP
                generalize (put6 w40 w32.heap.size (.int .i64 ma.kind) (.int .i64 ma.route) (.string ma.pat) (.slice PA ma.par.length pc) (.slice AA ma.allow.length ac) (.string ma.dest)) = wy at *
                refine hK.out _ _ (.inr (HSC.out _ HBc.out)) (fun _ => ?_)
                clear hK K
                (try simp only [List.getElem_toArray, List.getElem_cons_succ, List.getElem_cons_zero, Act.put, List.setIfInBounds_toArray, List.set_cons_zero, List.set_cons_succ])
                refine anyT_ready (rs := [15]) (by kernel_rfl) (by simp) ?_
                refine AllReadyT.cons rfl (fun K hK => ?_) AllReadyT.nil
                have p0 : wy.cell? ⟨w6.heap.size, 0, none⟩ = some (.int .i64 0) := NQ.cell 0
                have z0 : wy.frozen? ⟨w6.heap.size, 0, none⟩ = false := NQ.frozen 0
                have p1 : wy.cell? ⟨w6.heap.size, 1, none⟩ = some (.int .i64 0) := NQ.cell 1
                have z1 : wy.frozen? ⟨w6.heap.size, 1, none⟩ = false := NQ.frozen 1
                have p2 : wy.cell? ⟨w6.heap.size, 2, none⟩ = some (.string ⟨#[]⟩) := NQ.cell 2
                have z2 : wy.frozen? ⟨w6.heap.size, 2, none⟩ = false := NQ.frozen 2
                have p3 : wy.cell? ⟨w6.heap.size, 3, none⟩ = some (.slice none 0 0) := NQ.cell 3
                have z3 : wy.frozen? ⟨w6.heap.size, 3, none⟩ = false := NQ.frozen 3
                have p4 : wy.cell? ⟨w6.heap.size, 4, none⟩ = some (.slice none 0 0) := NQ.cell 4
                have z4 : wy.frozen? ⟨w6.heap.size, 4, none⟩ = false := NQ.frozen 4
                have p5 : wy.cell? ⟨w6.heap.size, 5, none⟩ = some (.string ⟨#[]⟩) := NQ.cell 5
                have z5 : wy.frozen? ⟨w6.heap.size, 5, none⟩ = false := NQ.frozen 5
                go_simp
                clear p0 p1 p2 p3 p4 p5 z0 z1 z2 z3 z4 z5
                show K _ (put6 wy w6.heap.size (.int .i64 mb.kind) (.int .i64 mb.route) (.string mb.pat) (.slice PB mb.par.length pd) (.slice AB mb.allow.length ad) (.string mb.dest))
                have HBc := Lib.hid (put6_below (.int .i64 mb.kind) (.int .i64 mb.route) (.string mb.pat) (.slice PB mb.par.length pd) (.slice AB mb.allow.length ad) (.string mb.dest) HBc.out hl13)
                have NP := put6_far (.int .i64 mb.kind) (.int .i64 mb.route) (.string mb.pat) (.slice PB mb.par.length pd) (.slice AB mb.allow.length ad) (.string mb.dest) NP hne
                have OX := put6_own (.int .i64 mb.kind) (.int .i64 mb.route) (.string mb.pat) (.slice PB mb.par.length pd) (.slice AB mb.allow.length ad) (.string mb.dest) OX NQ (by decide)
                have OY := put6_own (.int .i64 mb.kind) (.int .i64 mb.route) (.string mb.pat) (.slice PB mb.par.length pd) (.slice AB mb.allow.length ad) (.string mb.dest) OY NQ (by decide)
                have NQ := put6_blk (.int .i64 mb.kind) (.int .i64 mb.route) (.string mb.pat) (.slice PB mb.par.length pd) (.slice AB mb.allow.length ad) (.string mb.dest) NQ
                generalize (put6 wy w6.heap.size (.int .i64 mb.kind) (.int .i64 mb.route) (.string mb.pat) (.slice PB mb.par.length pd) (.slice AB mb.allow.length ad) (.string mb.dest)) = wz at *
                refine hK.out _ _ (.inl (by rfl)) (fun _ => ?_)
                clear hK K
                (try simp only [List.getElem_toArray, List.getElem_cons_succ, List.getElem_cons_zero, Act.put, List.setIfInBounds_toArray, List.set_cons_zero, List.set_cons_succ])
                refine anyT_done (by kernel_rfl) ?_ _
                have HTW := Lib.hid (show TwoM w6 ma mb _ _ wz from ⟨_, _, PA, pc, AA, ac, PB, pd, AB, ad, rfl, rfl, NP, NQ, own_row OX, own_row OY, own_max OX, HBc.out⟩)
                clear NP NQ OX OY hHeld hS0
                go_wp2_with fail
                go_meet
                exact HTW.out
      obtain ⟨n1, n2, PA, pc, AA, ac, PB, pd, AB, ad, rfl, rfl, N1, N2, RA, RB, _, hbx⟩ := hcut
      have HE := Lib.hid (HB0.out.trans ((HB60.out.trans (hbx.mono HB60.out.size)).mono HB0.out.size))
      clear hbx HM1 HM2 HSC HD hS0 HQ HU6 HT6
      obtain ⟨ka, ra, pa, para, ala, da⟩ := ma
      obtain ⟨kb, rb, pb, parb, alb, db⟩ := mb
      obtain ⟨e1, e2, e3, e4, e5, e6⟩ := HOL.out
      dsimp only at e1 e2 e3 e4 e5 e6 N1 N2 RA RB HAL
      subst e1
      subst e2
      subst e3
      subst e4
      rw [← e5] at N2
      have a0 : wc.cell? ⟨n1, 0, none⟩ = some (.int .i64 ka) := N1.cell 0
      have a1 : wc.cell? ⟨n1, 1, none⟩ = some (.int .i64 ra) := N1.cell 1
      have a2 : wc.cell? ⟨n1, 2, none⟩ = some (.string pa) := N1.cell 2
      have a3 : wc.cell? ⟨n1, 3, none⟩ = some (.slice PA para.length pc) := N1.cell 3
      have a4 : wc.cell? ⟨n1, 4, none⟩ = some (.slice AA ala.length ac) := N1.cell 4
      have a5 : wc.cell? ⟨n1, 5, none⟩ = some (.string da) := N1.cell 5
      have b0 : wc.cell? ⟨n2, 0, none⟩ = some (.int .i64 ka) := N2.cell 0
      have b1 : wc.cell? ⟨n2, 1, none⟩ = some (.int .i64 rb) := N2.cell 1
      have b2 : wc.cell? ⟨n2, 2, none⟩ = some (.string pa) := N2.cell 2
      have b3 : wc.cell? ⟨n2, 3, none⟩ = some (.slice PB para.length pd) := N2.cell 3
      have b4 : wc.cell? ⟨n2, 4, none⟩ = some (.slice AB ala.length ad) := N2.cell 4
      have b5 : wc.cell? ⟨n2, 5, none⟩ = some (.string da) := N2.cell 5
      have l1 := N1.lt
      have l2 := N2.lt
      have HTX := Lib.hid (textsSS_any ac ad ala wc RA RB (by have := HAL.out; omega))
      have t0 : (ka != ka) = false := by simp
      have t2 : (pa.toList == pa.toList) = true := by simp
      have t5 : (da.toList == da.toList) = true := by simp
      have t3 : ((para.length : Int) != (para.length : Int)) = false := by simp
      have HE6 := Lib.hid e6
      have HN1 := Lib.hid N1
      have HN2 := Lib.hid N2
      clear N1 N2 RA RB e5 e6 HOL HAL
      go_wp2_with fail
      refine HTX.out.mono ?_
      rintro e wd ⟨rfl, hbd⟩
      have N1 := HN1.out.below hbd HN1.out.lt
      have N2 := HN2.out.below hbd HN2.out.lt
      have c0 : wd.cell? ⟨n1, 0, none⟩ = some (.int .i64 ka) := N1.cell 0
      have c1 : wd.cell? ⟨n1, 1, none⟩ = some (.int .i64 ra) := N1.cell 1
      have c3 : wd.cell? ⟨n1, 3, none⟩ = some (.slice PA para.length pc) := N1.cell 3
      have d1 : wd.cell? ⟨n2, 1, none⟩ = some (.int .i64 rb) := N2.cell 1
      have d3 : wd.cell? ⟨n2, 3, none⟩ = some (.slice PB para.length pd) := N2.cell 3
      have m1 := N1.lt
      have m2 := N2.lt
      have HE2 := Lib.hid (HE.out.trans (hbd.mono HE.out.size))
      clear N1 N2 hbd HN1 HN2 a0 a1 a2 a3 a4 a5 b0 b1 b2 b3 b4 b5 l1 l2
      rcases HE6.out with ⟨hk1, e1, e2⟩ | ⟨hk1, kk, hkk, e1, e2⟩
      · subst e1
        subst e2
        have hk2 : (ka != 1) = true := bne_iff_ne.2 hk1
        clear hk1 HE6
        go_wp2
        go_ret
        exact ⟨rfl, HE2.out⟩
      · subst hk1
        subst e1
        subst e2
        rw [plA_length] at hkk
        have hrm := rot_mod hN hkk
        rw [plA_length] at d1
        have hkk2 : (kk : Int) < (la.length : Int) := by omega
        have s1 : -262144 ≤ (kk : Int) - (N : Int) := by omega
        have s2 : (kk : Int) - (N : Int) ≤ 262144 := by omega
        have s3 : 0 ≤ (kk : Int) - (N : Int) + (la.length : Int) := by omega
        have s4 : (kk : Int) - (N : Int) + (la.length : Int) ≤ 524288 := by omega
        generalize rotN N la.length kk = rr at *
        have hrr : ((rr : Int) == (rr : Int)) = true := by simp
        clear HE6
        go_wp2_with fail
        go_quiet (fail)
        go_wp2
        go_ret
        exact ⟨rfl, below_drewN HE2.out _⟩
end Go.Proofs.YtiohmnhbmmhnhaaGreatDoor
