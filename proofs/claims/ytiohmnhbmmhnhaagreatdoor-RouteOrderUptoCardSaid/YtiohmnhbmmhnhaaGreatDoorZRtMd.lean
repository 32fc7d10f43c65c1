/-
  RtMd, without what this claim does not reach.
-/
import Derived.Test.YtiohmnhbmmhnhaaGreatDoorZRtL
namespace Go.Proofs.YtiohmnhbmmhnhaaGreatDoor
open Go.RowKit Go.Shelf Go.Lib
def GivesMade (w : World) (sl : Bool) (l : List Rt) (e : Ending) (w' : World) : Prop :=
  (¬ (newP l).2 = 0 ∧ e = .returned (.tuple #[.pointer none, .bool false, .bool true]) ∧ Below w.heap.size w w') ∨
  (newP l = (0, 0) ∧ ∃ t : Nat, e = .returned (.tuple #[.pointer (some ⟨t, 0, none⟩), .bool true, .bool true]) ∧ w.heap.size ≤ t ∧ TableAt w' t sl l ∧ Below w.heap.size w w')
theorem gives_made_no {w w' : World} {sl : Bool} {l : List Rt} (h : ¬ (newP l).2 = 0) (hb : Below w.heap.size w w') : GivesMade w sl l (.returned (.tuple #[.pointer none, .bool false, .bool true])) w' := .inl ⟨h, rfl, hb⟩
theorem gives_made_yes {w w' : World} {sl : Bool} {l : List Rt} {t : Nat} (h : newP l = (0, 0)) (ht : w.heap.size ≤ t) (hT : TableAt w' t sl l) (hb : Below w.heap.size w w') : GivesMade w sl l (.returned (.tuple #[.pointer (some ⟨t, 0, none⟩), .bool true, .bool true])) w' := .inr ⟨h, t, rfl, ht, hT, hb⟩
set_option maxRecDepth 100000 in
set_option maxHeartbeats 4000000 in
theorem made_any (A : Option Addr) (c : Nat) (la : List Ra) (sl : Bool) (w : World) (hr : Row w A (flatA la)) (hm : AOk w la) (hk : bulkRt (plA la) ≤ 1048576) (hg : GlobR w) :
    Calls Tryz.prog 17 #[.slice A la.length c, .bool sl] w (GivesMade w sl (plA la)) := by
  have HR := Lib.hid (fun (W : World) (h : Below w.heap.size w W) => hr.below h)
  have HM := Lib.hid (fun (W : World) (h : Below w.heap.size w W) => hm.below h)
  have HK := Lib.hid hk
  have HG := Lib.hid (fun (W : World) (h : Below w.heap.size w W) => hg.beyond h)
  have HRO := Lib.hid (routes_any A c la w hr hm hk)
  have HS := Lib.hid (new_same (plA la))
  clear hr hm hk hg
  go_enter Tryz.func17, Tryz.ntmps17
  go_wp2_with fail
  refine HRO.out.mono ?_
  rintro e w2 ⟨IA, ic, li, rfl, hO, hpl, hb2⟩
  have HB2 := Lib.hid hb2
  have HNW := Lib.hid (by have := rtNew_any IA ic li sl w2 (own_row hO.row) hO.ok (by rw [hpl]; exact HK.out) (HG.out w2 HB2.out); rw [hpl] at this; exact this)
  clear hb2 hO hpl HRO
  go_wp2_with fail
  refine HNW.out.mono ?_
  rintro e w3 h3
  have HB3 := Lib.hid (show Below w.heap.size w w3 by
    rcases h3 with ⟨_, _, h⟩ | ⟨_, _, _, _, _, h⟩
    · exact HB2.out.trans (h.mono HB2.out.size)
    · exact HB2.out.trans (h.mono HB2.out.size))
  have hv : ∃ (tp : Value) (i : Nat) (cd : Int), newP (plA la) = (i, cd) ∧ e = .returned (.tuple #[tp, .int .i64 (i : Nat), .int .i64 cd]) ∧ ((tp = .pointer none ∧ ¬ cd = 0) ∨ (∃ t : Nat, tp = .pointer (some ⟨t, 0, none⟩) ∧ (i, cd) = ((0 : Nat), (0 : Int)) ∧ w.heap.size ≤ t ∧ TableAt w3 t sl (plA la))) := by
    rcases h3 with ⟨h, rfl, _⟩ | ⟨h, t, rfl, ht, hT, _⟩
    · exact ⟨_, _, _, rfl, rfl, .inl ⟨rfl, h⟩⟩
    · exact ⟨_, 0, 0, h, rfl, .inr ⟨t, rfl, rfl, Nat.le_trans HB2.out.size ht, hT⟩⟩
  clear h3 HNW
  obtain ⟨tp, i, cd, hr, rfl, hcase⟩ := hv
  have HCS := Lib.hid hcase
  have HNP := Lib.hid hr
  have HPN := Lib.hid (plain_any A c la w3 (HR.out w3 HB3.out) (HM.out w3 HB3.out) HK.out)
  have HNR := Lib.hid (HS.out.symm.trans hr)
  clear hr hcase HS
  go_wp2_with fail
  refine HPN.out.mono ?_
  rintro e w4 ⟨PA, pc, lp, rfl, hO4, hpl4, hb4⟩
  have HB34 := Lib.hid hb4
  have HRN := Lib.hid (by have := rtRNew_any PA pc lp w4 (own_row hO4.row) (own_cap hO4.row) hO4.ok (by rw [hpl4]; exact HK.out); rw [hpl4, HNR.out] at this; exact this)
  clear hb4 hO4 hpl4 HPN
  go_wp2_with fail
  refine HRN.out.mono ?_
  rintro e w5 ⟨rfl, hb5⟩
  have HB35 := Lib.hid (HB34.out.trans (hb5.mono HB34.out.size))
  clear hb5 HRN
  dsimp only
  have hee : (cd == cd) = true := by simp
  rcases HCS.out with ⟨rfl, hc0⟩ | ⟨t, rfl, hc0, ht, hT⟩
  · have h1 : (cd == 0) = false := beq_eq_false_iff_ne.2 hc0
    have h2 : (cd != 0) = true := bne_iff_ne.2 hc0
    have HE := Lib.hid (gives_made_no (sl := sl) (w := w) (w' := w5) (l := plA la) (by rw [HNP.out]; exact hc0) (HB3.out.trans (HB35.out.mono HB3.out.size)))
    clear HCS hc0
    go_wp2
    refine bodyPost_ret (results_tmp3 rfl _ _ _) rfl ?_
    exact HE.out
  · injection hc0 with e1 e2
    subst e1
    subst e2
    have HE := Lib.hid (gives_made_yes (sl := sl) (w := w) (w' := w5) (l := plA la) HNP.out ht (hT.below HB35.out) (HB3.out.trans (HB35.out.mono HB3.out.size)))
    clear HCS ht hT
    go_wp2
    refine bodyPost_ret (results_tmp3 rfl _ _ _) rfl ?_
    exact HE.out
theorem TableAt.best {w : World} {t : Nat} {sl : Bool} {l : List Rt} (hT : TableAt w t sl l) (path : ByteArray) : IsBest cmpI (fitT path) (· ∈ l.map (·.2)) (patR l path) := by
  obtain ⟨q, es, S, A, c, rs, h⟩ := hT
  rw [← find_pat h.good h.mem path]
  have h1 := find_best (c := cmpI) (fit := fitT path) (texts_sort h.good)
  have e : (fun x => x ∈ es.map (·.1)) = (fun x => x ∈ l.map (·.2)) := by
    funext x
    refine propext ?_
    rw [List.mem_map, List.mem_map]
    exact h.mem x
  rw [e] at h1
  exact h1
theorem TableAt.split {w : World} {t : Nat} {sl : Bool} {l : List Rt} (hT : TableAt w t sl l) {p : ByteArray} (hp : p ∈ l.map (·.2)) : (splitP p).2.2 = true := by
  obtain ⟨q, es, S, A, c, rs, h⟩ := hT
  obtain ⟨r, hr, rfl⟩ := List.mem_map.1 hp
  obtain ⟨x, hx, e⟩ := (h.mem r.2).2 ⟨r, hr, rfl⟩
  rw [← e, h.good.pcs x hx]
theorem or3_pos {a b c : Option Nat} (h : 0 ≤ orElse3 a b c) : ∃ k : Nat, orElse3 a b c = (k : Int) ∧ (a = some k ∨ b = some k ∨ c = some k) := by
  unfold orElse3 at h ⊢
  cases a with
  | some k => exact ⟨k, rfl, .inl rfl⟩
  | none =>
    cases b with
    | some k => exact ⟨k, rfl, .inr (.inl rfl)⟩
    | none =>
      cases c with
      | some k => exact ⟨k, rfl, .inr (.inr rfl)⟩
      | none => exact absurd h (by decide)
theorem or3_neg {a b c : Option Nat} (h : ¬ 0 ≤ orElse3 a b c) : orElse3 a b c = -1 := by
  unfold orElse3 at h ⊢
  cases a with
  | some k => exact absurd (Int.natCast_nonneg k) h
  | none =>
    cases b with
    | some k => exact absurd (Int.natCast_nonneg k) h
    | none =>
      cases c with
      | some k => exact absurd (Int.natCast_nonneg k) h
      | none => rfl
theorem found_in {l : List Rt} {ns : List Nat} {m : ByteArray} (h : 0 ≤ foundP l ns m) : ∃ k : Nat, foundP l ns m = (k : Int) ∧ k ∈ ns := by
  obtain ⟨k, h1, h2⟩ := or3_pos h
  refine ⟨k, h1, ?_⟩
  rcases h2 with h2 | h2 | h2
  · exact List.mem_of_find?_eq_some h2
  · split at h2
    · exact List.mem_of_find?_eq_some h2
    · cases h2
  · exact List.mem_of_find?_eq_some h2
theorem own_max {w : World} {base : Nat} {e : TypeId} {size n cap : Nat} {A : Option Addr} {xs : List Value} (h : w.ownsRow base e size (.slice A n cap) n xs) : n ≤ maxLen := by
  rcases h.2 with ⟨_, h0⟩ | ⟨g, cap', cur, hv, _, _, hc, hm, _⟩
  · omega
  · exact Nat.le_trans hc hm
end Go.Proofs.YtiohmnhbmmhnhaaGreatDoor
