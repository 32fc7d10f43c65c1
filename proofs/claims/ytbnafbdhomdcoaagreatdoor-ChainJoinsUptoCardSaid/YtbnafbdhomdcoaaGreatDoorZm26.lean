/-
  CjV, CjDb, without what the claim does not reach.
-/
import Derived.Test.YtbnafbdhomdcoaaGreatDoorZm20
import Derived.Test.YtbnafbdhomdcoaaGreatDoorZm21
import Derived.Test.YtbnafbdhomdcoaaGreatDoorZCjI
import Derived.Test.YtbnafbdhomdcoaaGreatDoorZTgAu
import Derived.Test.YtbnafbdhomdcoaaGreatDoorZm17
import Derived.Test.YtbnafbdhomdcoaaGreatDoorZm16
namespace Go.Proofs.YtbnafbdhomdcoaaGreatDoor
open Go.RowKit Go.Shelf Go.Lib
theorem Row.pre {w : World} {A : Option Addr} {xs ys : List Value} (h : Row w A (xs ++ ys)) : Row w A xs := fun hl => by
 obtain ⟨b, off, e, hb, hc⟩ := h (by rw [List.length_append]; omega)
 refine ⟨b, off, e, hb, fun j v hv => hc j v ?_⟩
 rw [List.getElem?_append_left (List.getElem?_eq_some_iff.1 hv).1]
 exact hv
theorem Row.upto {w : World} {A : Option Addr} {l : List ByteArray} (h : Row w A (l.map .string)) (k : Nat) : Row w A ((l.take k).map .string) := by
 have e : l.map Value.string = (l.take k).map Value.string ++ (l.drop k).map Value.string := by rw [← List.map_append, List.take_append_drop]
 rw [e] at h
 exact h.pre
theorem take_len {α : Type} {l : List α} {k : Nat} (h : k ≤ l.length) : (l.take k).length = k := by rw [List.length_take]; omega
theorem first_at {m : Mid} {s : ByteArray} (h : m.list[0]? = some s) : firstStar m = decide (s = starV) := by
 unfold firstStar
 rw [List.head?_eq_getElem?, h]
 by_cases e : s = starV
 ·rw [e]; simp
 ·rw [decide_eq_false e, decide_eq_false (fun g => e (Option.some.inj g))]
theorem star_eq (s : ByteArray) : (s.toList == [42]) = decide (s = starV) := by
 rw [Bool.eq_iff_iff, beq_iff_eq, decide_eq_true_eq]
 constructor
 ·intro h
  exact bytes_ext (by rw [← Lib.toList_data]; exact h)
 ·intro h
  rw [h, Lib.toList_data]; rfl
theorem own_vary (w : World) {n : Nat} (hn : n = w.heap.size) : (w.alloc (.cells #[.string ⟨#[86, 97, 114, 121]⟩, .string ⟨#[79, 114, 105, 103, 105, 110]⟩] 59)).ownsRow n 59 2 (.slice (some ⟨n, 0, none⟩) 1 1) 1 (flat [varyF]) := by
 subst hn
 exact World.ownsRow_lit w #[.string ⟨#[86, 97, 114, 121]⟩, .string ⟨#[79, 114, 105, 103, 105, 110]⟩] 1 (Nat.le_refl _) (by unfold maxLen; omega) rfl
set_option maxRecDepth 20000 in
theorem vary_any (m : Mid) (A : Option Addr) (c : Nat) (w : World) (hr : Row w A (m.list.map .string)) (h0 : 0 < m.list.length) :
  Calls Tryz.prog 111 #[midV m A c] w (GivesFl 59 w (varyP m)) := by
 obtain ⟨s, hs⟩ := some_of_lt h0
 obtain ⟨b, off, rfl, hb, hc⟩ := hr.str hs
 rw [Nat.add_zero] at hc
 have hst := star_eq s
 have HV := Lib.hid (show varyP m = if decide (s = starV) = true then [] else [varyF] by unfold varyP; rw [first_at hs])
 have hi0 : (0 : Int) < (m.list.length : Int) := by omega
 generalize varyP m = vp at *
 clear hs
 unfold midV
 cases hd : decide (s = starV)
 ·rw [hd] at HV hst
  have HO := Lib.hid (own_vary (w.alloc (.cells #[.int .i64 m.kind, .string m.name, .string m.value, .slice (some ⟨b, off, none⟩) m.list.length c, .int .i64 m.n] 24)) (n := w.heap.size + 1) (by simp))
  go_enter Tryz.func111, Tryz.ntmps111
  go_wp2
  go_ret
  have e := HV.out
  simp at e
  subst e
  exact ⟨_, 1, rfl, own_less HO.out (by omega), ((Below.refl _ w).alloc (Nat.le_refl _) _).alloc (by simp) _⟩
 ·rw [hd] at HV hst
  go_enter Tryz.func111, Tryz.ntmps111
  go_wp2
  go_ret
  have e := HV.out
  simp at e
  subst e
  exact ⟨none, 0, rfl, World.ownsRow_nil _ _ _ _, (Below.refl _ w).alloc (Nat.le_refl _) _⟩
set_option maxRecDepth 20000 in
set_option maxHeartbeats 1000000 in
theorem areTokens_any (A : Option Addr) (c : Nat) (l : List ByteArray) (w : World) (hr : Row w A (l.map .string)) (hc : l.length ≤ c) (hl : l.length ≤ 1048576) (hz : ∀ s ∈ l, s.size ≤ 1048576) (hg : Glob w) :
  Calls Tryz.prog 61 #[.slice A l.length c] w fun e w' => e = .returned (.bool (freshL [] l && decide (0 < l.length))) ∧ w = w' := by
 have HZ := Lib.hid hz
 have HT := Lib.hid (fun (s : ByteArray) (hs : s.size ≤ maxLen) => IsToken_any s w hs hg)
 have HC := Lib.hid (fun (k : Nat) (s : ByteArray) (hk : k ≤ l.length) => (show Calls Tryz.prog 95 #[.slice A k c, .string s] w fun e w' => e = .returned (.bool (isIn (l.take k) s)) ∧ w = w' by
  have h := Contains_any A c (l.take k) s w (hr.upto k) (by rw [take_len hk]; omega)
  rw [take_len hk] at h
  exact h))
 have HR := Lib.hid hr
 have hcl : (l.length : Int) ≤ c := by omega
 clear hz hr
 go_enter Tryz.func61, Tryz.ntmps61
 go_wp2
 go_loop [7] (fun i => ∃ k : Nat, k ≤ l.length ∧ i = .int .i64 k ∧ Hid (freshL (l.take k) (l.drop k) = freshL [] l)) (fun i => l.length - (RowKit.intOf i).toNat)
 case atStart => exact ⟨0, Nat.zero_le _, rfl, Lib.hid rfl⟩
 case round =>
  obtain ⟨k, hk, rfl, HF⟩ := hrel
  by_cases hlt : k < l.length
  ·obtain ⟨s, hs⟩ := some_of_lt hlt
   obtain ⟨b, off, rfl, hb, hcell⟩ := HR.out.str hs
   have hsz : s.size ≤ maxLen := by have := HZ.out s (List.mem_of_getElem? hs); unfold maxLen; omega
   have hf := fresh_at hs
   rw [HF.out] at hf
   have HF2 := Lib.hid hf
   have HTs := Lib.hid (HT.out s hsz)
   have HCs := Lib.hid (HC.out k s hk)
   have hkc : k ≤ c := by omega
   clear hf hs HF hsz
   cases h1 : isTok s
   ·rw [h1] at HTs HF2
    go_wp2_with fail
    refine HTs.out.mono ?_
    rintro e w1 ⟨rfl, rfl⟩
    go_wp2
    go_ret
    exact ⟨ret_bool (by rw [HF2.out]; simp), rfl⟩
   ·rw [h1] at HTs HF2
    go_wp2_with fail
    refine HTs.out.mono ?_
    rintro e w1 ⟨rfl, rfl⟩
    cases h2 : isIn (l.take k) s
    ·rw [h2] at HCs HF2
     go_wp2_with fail
     refine HCs.out.mono ?_
     rintro e w1 ⟨rfl, rfl⟩
     go_wp2
     go_round
     case rel => exact ⟨k + 1, by omega, by go_num, Lib.hid (by rw [HF2.out]; simp)⟩
     case measure => simp [RowKit.intOf]; omega
    ·rw [h2] at HCs HF2
     go_wp2_with fail
     refine HCs.out.mono ?_
     rintro e w1 ⟨rfl, rfl⟩
     go_wp2
     go_ret
     exact ⟨ret_bool (by rw [HF2.out]; simp), rfl⟩
  ·obtain rfl : k = l.length := by omega
   have hf := HF.out
   rw [fresh_end] at hf
   have HF2 := Lib.hid hf
   clear hf HF
   go_wp2
   go_ret
   exact ⟨ret_bool (by rw [← HF2.out]; simp), rfl⟩
end Go.Proofs.YtbnafbdhomdcoaaGreatDoor
namespace Go.Proofs.YtbnafbdhomdcoaaGreatDoor
open Go.RowKit Go.Shelf Go.Lib
theorem ahead_id {m : Mid} {r : Rq} (h : m.kind = 1 ∨ m.kind = 2 ∨ m.kind = 3 ∨ m.kind = 9) : aheadP m r = .inl r := by
 unfold aheadP
 rw [if_neg (by omega), if_neg (by omega), if_neg (by omega), if_neg (by omega), if_neg (by omega), if_neg (by omega)]
theorem behind_id {m : Mid} {r : Rq} (y : Rs) (h : m.kind = 4 ∨ m.kind = 5 ∨ m.kind = 6 ∨ m.kind = 7 ∨ m.kind = 10) : behindP m r y = y := by
 unfold behindP
 rw [if_neg (by omega), if_neg (by omega), if_neg (by omega), if_neg (by omega), if_neg (by omega)]
theorem behind3 {m : Mid} {r : Rq} (y : Rs) (h : m.kind = 3) : behindP m r y = { y with fields := removeL y.fields m.name } := by
 unfold behindP
 rw [if_neg (by omega), if_neg (by omega), if_pos h]
theorem do_drop {m : Mid} (hk : m.kind = 3) : DoAt m 59 := by
 refine ⟨fun args w => Tryz.call59 args w, fun D Pre n0 N T f w r A c FA fc TA tc hE hP hX _ _ hN _ _ hF hT hm hr => ?_⟩
 refine (drop_any D Pre n0 N T f w m r A c FA fc TA tc hE hP hX hN hF hT hm hr).mono fun e w' h => h.imp (by omega) fun x A c h => doT_inl (ahead_id (.inr (.inr (.inl hk)))) ?_
 have e : behindP m r = fun y => { y with fields := removeL y.fields m.name } := funext fun y => behind3 y hk
 rw [e]
 exact h
theorem nx_call {D : Nat → Prop} {Pre : World → Prop} {n0 N : Nat} {T : Ans} {w : World} {r : Rq} {FA TA : Option Addr} (fc tc : Nat) {g : FuncId} {lb : Array Value} (hE : Env D Pre w) (hP : Pre w)
  (hc : ∀ (W : World) (r : Rq) (FA : Option Addr) (fc : Nat) (TA : Option Addr) (tc : Nat), Keep D w W → Pre W → RowD D W FA (flat r.fields) → RowD D W TA (flat r.trailers) → FitQ r → Calls Tryz.prog g (#[rqV r FA fc TA tc] ++ lb) W (GivesX D n0 N (T r) W))
  (hF : RowD D w FA (flat r.fields)) (hT : RowD D w TA (flat r.trailers)) (hr : FitQ r) (W : World) (h : Below w.heap.size w W) : Calls Tryz.prog g (#[rqV r FA fc TA tc] ++ lb) W (GivesX D n0 N (T r) W) :=
 hc W r FA fc TA tc (Keep.of h) (hE.stays _ _ (Keep.refl _ _) hP h) (hF.below h) (hT.below h) hr
theorem Env.globC {D : Nat → Prop} {Pre : World → Prop} {w W : World} (hE : Env D Pre w) (h : Below w.heap.size w W) : GlobC W := hE.glob W (Keep.of h)
theorem X3_resF {D : Nat → Prop} {w W w' : World} {a b : Array Value} (hD : ∀ k, D k → k < w.heap.size) (h0 : Below (X3 w a b).heap.size (X3 w a b) W) (h : Keep D W w') :
  ((w'.cell? ⟨w.heap.size + 1 + 1, 0, none⟩ = some (.int .i64 0) ∧ w'.cell? ⟨w.heap.size + 1 + 1, 1, none⟩ = some (.string ⟨#[]⟩) ∧ w'.cell? ⟨w.heap.size + 1 + 1, 2, none⟩ = some (.slice none 0 0) ∧ w'.cell? ⟨w.heap.size + 1 + 1, 3, none⟩ = some (.string ⟨#[]⟩)) ∧
  (w'.frozen? ⟨w.heap.size + 1 + 1, 0, none⟩ = false ∧ w'.frozen? ⟨w.heap.size + 1 + 1, 1, none⟩ = false ∧ w'.frozen? ⟨w.heap.size + 1 + 1, 2, none⟩ = false ∧ w'.frozen? ⟨w.heap.size + 1 + 1, 3, none⟩ = false)) ∧ w.heap.size + 1 + 1 < w'.heap.size := by
 have hk : Keep D (X3 w a b) w' := Keep.ahead h0 h
 refine ⟨⟨⟨(X3_res hD hk 0).1, (X3_res hD hk 1).1, (X3_res hD hk 2).1, (X3_res hD hk 3).1⟩, (X3_res hD hk 0).2, (X3_res hD hk 1).2, (X3_res hD hk 2).2, (X3_res hD hk 3).2⟩, ?_⟩
 have := keep_size hk
 omega
theorem X3_lt {w W : World} {a b : Array Value} (h0 : Below (X3 w a b).heap.size (X3 w a b) W) : w.heap.size + 1 + 1 < W.heap.size := by
 have := h0.size
 rw [X3_size] at this
 omega
theorem X3_up {w W : World} {a b : Array Value} (h0 : Below (X3 w a b).heap.size (X3 w a b) W) : Below w.heap.size w W := (X3_below w a b).trans (h0.mono (X3_below w a b).size)
theorem list_ok {l : List ByteArray} (h : (l.map fun s => s.size + 1).sum ≤ 1048576) : l.length ≤ 1099511627776 ∧ (l.map (·.size)).sum + l.length * 3 ≤ 1099511627776 := by
 obtain ⟨h1, h2, _⟩ := list_sizes h
 exact ⟨by omega, by omega⟩
theorem ahead4 {m : Mid} {r : Rq} (hk : m.kind = 4) : aheadP m r = if isIn m.list r.method = true then .inl r else .inr (plainRs 405 [(allowN, joinR m.list)]) := by
 unfold aheadP
 rw [if_pos hk]
theorem ahead5 {m : Mid} {r : Rq} (hk : m.kind = 5) : aheadP m r = if m.n < r.body.size then .inr (plainRs 413 []) else .inl r := by
 unfold aheadP
 rw [if_neg (by omega), if_pos hk]
set_option maxRecDepth 20000 in
set_option maxHeartbeats 2000000 in
theorem do_body {m : Mid} (hkd : m.kind = 5) : DoAt m 64 := by
 refine ⟨fun args w => Tryz.call64 args w, fun D Pre n0 N T f w r A c FA fc TA tc hE hP hX hn0 hN8 hN hA hcap hF hT hm hr => ?_⟩
 obtain ⟨g, lb, rfl, he, hc⟩ := hX
 have HC := Lib.hid (nx_call fc tc hE hP hc hF hT hr)
 have HL := Lib.hid hE.low
 have HG := Lib.hid (fun W h => hE.globC (W := W) h)
 have HN0 := Lib.hid hn0
 have HN8 := Lib.hid hN8
 have HA5 := Lib.hid (ahead5 (r := r) hkd)
 have HB5 := Lib.hid (fun y => behind_id (r := r) y (.inr (.inl hkd)))
 have HZ := Lib.hid (hr.body)
 have hbz : (r.body.size : Int) ≤ 9223372036854775807 := by have := hr.body; unfold maxLen at this; omega
 clear hc hE hP hn0 hN8 hA hF hT hm hr hkd
 unfold midV rqV
 by_cases hlt : m.n < r.body.size
 ·have HAI := Lib.hid (show aheadP m r = .inr (plainRs 413 []) by rw [HA5.out, if_pos hlt])
  have HPL := Lib.hid (fun W hg => Plain_any 413 none 0 [] W (Row.nil _ _) (by decide) (by decide) (by decide) hg)
  have HBD := Lib.hid (show plainRs 413 [] = ⟨413, ⟨#[]⟩, [ctF], bodyP 413⟩ from rfl)
  generalize bodyP 413 = bd at *
  clear HC HA5 HB5
  go_enter Tryz.func64, Tryz.ntmps64
  go_wp2_with fail
  have hX0 := Below.refl (X3 w (midC m A c) (rqC r FA fc TA tc)).heap.size (X3 w (midC m A c) (rqC r FA fc TA tc))
  refine (HPL.out (X3 w (midC m A c) (rqC r FA fc TA tc)) (HG.out _ (X3_up hX0))).mono ?_
  rintro e w2 ⟨A1, c1, rfl, ho, hb⟩
  obtain ⟨⟨⟨r0, r1, r2, r3⟩, f0, f1, f2, f3⟩, hz2⟩ := X3_resF HL.out hX0 (Keep.of hb)
  have HO := Lib.hid ho
  have HBW := Lib.hid (X3_up hb)
  clear ho hb hX0
  go_wp2
  exact bodyPost_ret (v := rsV ⟨413, ⟨#[]⟩, [ctF], bd⟩ A1 c1) (by simp [results, Tryz.results64, go_sem, rsV, r0, r1, r2, r3]) rfl
   (fin_self (b := w.heap.size + 1 + 1) (x := ⟨413, ⟨#[]⟩, [ctF], bd⟩) HL.out (X3_below w (midC m A c) (rqC r FA fc TA tc)) (by omega) (by rw [X3_size]; omega) HBW.out HO.out (by rw [HAI.out, HBD.out]) ((show FitS 8 (⟨413, ⟨#[]⟩, [ctF], bd⟩ : Rs) by rw [← HBD.out]; exact plain_fit 413 wide_nil (by simp)).more (by have := HN8.out; omega)) _ _ _ _)
 ·have HAI := Lib.hid (show aheadP m r = .inl r by rw [HA5.out, if_neg hlt])
  clear HA5
  go_enter Tryz.func64, Tryz.ntmps64
  go_wp2_with fail
  have hX0 := Below.refl (X3 w (midC m A c) (rqC r FA fc TA tc)).heap.size (X3 w (midC m A c) (rqC r FA fc TA tc))
  refine (HC.out (X3 w (midC m A c) (rqC r FA fc TA tc)) (X3_up hX0)).mono ?_
  rintro e w2 ⟨y, A1, c1, rfl, hrow, hfit, hTT, hk⟩
  obtain ⟨⟨⟨r0, r1, r2, r3⟩, f0, f1, f2, f3⟩, hz2⟩ := X3_resF HL.out hX0 hk
  have HE := Lib.hid (fin_pass (F := behindP m r) (b := w.heap.size + 1 + 1) (M := N + 2) HN0.out (X3_up hX0) (by omega) (X3_lt hX0) hrow hfit (by omega) hTT hk (HB5.out y) (.int .i64 y.status) (.string y.reason) (.slice A1 y.fields.length c1) (.string y.body))
  clear hrow hfit hTT hk hX0 HC
  unfold rsV at *
  go_wp2
  exact bodyPost_ret (v := rsV y A1 c1) (by simp [results, Tryz.results64, go_sem, rsV, r0, r1, r2, r3]) rfl (HE.out.imp (Nat.le_refl _) fun _ _ _ h => doT_inl HAI.out h)
theorem row_field (w : World) (a b : ByteArray) {n : Nat} (hn : n = w.heap.size) : Row (w.alloc (.cells #[.string a, .string b] 59)) (some ⟨n, 0, none⟩) (flat [(a, b)]) := row_newc w #[.string a, .string b] 59 hn
theorem allowN_size : allowN.size ≤ maxLen := by unfold maxLen; decide +kernel
set_option maxRecDepth 20000 in
set_option maxHeartbeats 2000000 in
theorem do_methods {m : Mid} (hkd : m.kind = 4) : DoAt m 62 := by
 refine ⟨fun args w => Tryz.call62 args w, fun D Pre n0 N T f w r A c FA fc TA tc hE hP hX hn0 hN8 hN hA hcap hF hT hm hr => ?_⟩
 obtain ⟨g, lb, rfl, he, hc⟩ := hX
 have HC := Lib.hid (nx_call fc tc hE hP hc hF hT hr)
 have HL := Lib.hid hE.low
 have HG := Lib.hid (fun W h => hE.globC (W := W) h)
 have HN0 := Lib.hid hn0
 have HN8 := Lib.hid hN8
 have HA4 := Lib.hid (ahead4 (r := r) hkd)
 have HB4 := Lib.hid (fun y => behind_id (r := r) y (.inl hkd))
 obtain ⟨hl1, hl2⟩ := list_ok hm.list
 have HCT := Lib.hid (fun (W : World) (h : Below w.heap.size w W) => Contains_any A c m.list r.method W (hA.below h).row hl1)
 have HJ := Lib.hid (fun (W : World) (h : Below w.heap.size w W) => Join_any A c m.list W (hA.below h).row hcap hl2)
 have HJZ := Lib.hid (show (joinR m.list).size ≤ 4194304 by
  obtain ⟨l1, l2, _⟩ := list_sizes hm.list
  have := joinR_size m.list
  omega)
 have hX0 := Below.refl (X3 w (midC m A c) (rqC r FA fc TA tc)).heap.size (X3 w (midC m A c) (rqC r FA fc TA tc))
 clear hc hE hP hn0 hN8 hA hcap hF hT hm hr hkd hl1 hl2
 unfold midV rqV
 cases hin : isIn m.list r.method
 ·have HAI := Lib.hid (show aheadP m r = .inr (plainRs 405 [(allowN, joinR m.list)]) by rw [HA4.out, hin]; rfl)
  rw [hin] at HCT
  generalize joinR m.list = js at *
  have HPL := Lib.hid (fun W Z hr hg => Plain_any 405 (some ⟨Z, 0, none⟩) 1 [(allowN, js)] W hr (by simp) (by decide) (by decide) hg)
  have HBD := Lib.hid (show plainRs 405 [(allowN, js)] = ⟨405, ⟨#[]⟩, [ctF, (allowN, js)], bodyP 405⟩ from rfl)
  generalize bodyP 405 = bd at *
  clear HC HA4 HB4 hin
  go_enter Tryz.func62, Tryz.ntmps62
  go_wp2_with fail
  refine (HCT.out (X3 w (midC m A c) (rqC r FA fc TA tc)) (X3_up hX0)).mono ?_
  rintro e w1 ⟨rfl, rfl⟩
  obtain ⟨⟨⟨m0, m1, m2, m3, m4⟩, a0, a1, a2, a3, a4, a5, a6⟩, ⟨r0, r1, r2, r3⟩, f0, f1, f2, f3⟩ := X3_facts HL.out (Keep.of (D := D) hX0)
  have hz2 := X3_lt hX0
  go_wp2_with fail
  refine (HJ.out (X3 w (midC m A c) (rqC r FA fc TA tc)) (X3_up hX0)).mono ?_
  rintro e w1 ⟨rfl, hb1⟩
  clear m0 m1 m2 m3 m4 a0 a1 a2 a3 a4 a5 a6 r0 r1 r2 r3 f0 f1 f2 f3 hz2
  have hb2 := hb1.alloc hb1.size (.cells #[.string allowN, .string js] 59)
  have hrf := row_field w1 allowN js rfl
  clear hb1
  unfold allowN at hb2 hrf HPL
  go_wp2_with fail
  refine (HPL.out _ _ hrf (HG.out _ (X3_up hb2))).mono ?_
  rintro e w2 ⟨A1, c1, rfl, ho, hb⟩
  have hb3 := hb2.trans (hb.mono hb2.size)
  obtain ⟨⟨⟨r0, r1, r2, r3⟩, f0, f1, f2, f3⟩, hz2⟩ := X3_resF HL.out hX0 (Keep.of hb3)
  have HO := Lib.hid (own_less (b' := (X3 w (midC m A c) (rqC r FA fc TA tc)).heap.size) ho hb2.size)
  have HBW := Lib.hid (X3_up hb3)
  clear ho hb hb2 hb3 hX0 hrf
  go_wp2
  exact bodyPost_ret (v := rsV ⟨405, ⟨#[]⟩, [ctF, (allowN, js)], bd⟩ A1 c1) (by simp [results, Tryz.results62, go_sem, rsV, r0, r1, r2, r3]) rfl
   (fin_self (b := w.heap.size + 1 + 1) (x := ⟨405, ⟨#[]⟩, [ctF, (allowN, js)], bd⟩) HL.out (X3_below w (midC m A c) (rqC r FA fc TA tc)) (by omega) (by rw [X3_size]; omega) HBW.out HO.out (by rw [HAI.out, HBD.out]) ((show FitS 8 (⟨405, ⟨#[]⟩, [ctF, (allowN, js)], bd⟩ : Rs) by rw [← HBD.out]; exact plain_fit 405 (wide_cons allowN_size (by have := HJZ.out; unfold maxLen; show js.size ≤ _; omega) wide_nil) (by simp)).more (by have := HN8.out; omega)) _ _ _ _)
 ·have HAI := Lib.hid (show aheadP m r = .inl r by rw [HA4.out, hin]; rfl)
  rw [hin] at HCT
  clear HA4 hin HJ HJZ
  go_enter Tryz.func62, Tryz.ntmps62
  go_wp2_with fail
  refine (HCT.out (X3 w (midC m A c) (rqC r FA fc TA tc)) (X3_up hX0)).mono ?_
  rintro e w1 ⟨rfl, rfl⟩
  obtain ⟨⟨⟨m0, m1, m2, m3, m4⟩, a0, a1, a2, a3, a4, a5, a6⟩, ⟨r0, r1, r2, r3⟩, f0, f1, f2, f3⟩ := X3_facts HL.out (Keep.of (D := D) hX0)
  have hz2 := X3_lt hX0
  go_wp2_with fail
  refine (HC.out (X3 w (midC m A c) (rqC r FA fc TA tc)) (X3_up hX0)).mono ?_
  rintro e w2 ⟨y, A1, c1, rfl, hrow, hfit, hTT, hk⟩
  clear m0 m1 m2 m3 m4 a0 a1 a2 a3 a4 a5 a6 r0 r1 r2 r3 f0 f1 f2 f3 hz2
  obtain ⟨⟨⟨r0, r1, r2, r3⟩, f0, f1, f2, f3⟩, hz2⟩ := X3_resF HL.out hX0 hk
  have HE := Lib.hid (fin_pass (F := behindP m r) (b := w.heap.size + 1 + 1) (M := N + 2) HN0.out (X3_up hX0) (by omega) (X3_lt hX0) hrow hfit (by omega) hTT hk (HB4.out y) (.int .i64 y.status) (.string y.reason) (.slice A1 y.fields.length c1) (.string y.body))
  clear hrow hfit hTT hk hX0 HC
  unfold rsV at *
  go_wp2
  exact bodyPost_ret (v := rsV y A1 c1) (by simp [results, Tryz.results62, go_sem, rsV, r0, r1, r2, r3]) rfl (HE.out.imp (Nat.le_refl _) fun _ _ _ h => doT_inl HAI.out h)
end Go.Proofs.YtbnafbdhomdcoaaGreatDoor
