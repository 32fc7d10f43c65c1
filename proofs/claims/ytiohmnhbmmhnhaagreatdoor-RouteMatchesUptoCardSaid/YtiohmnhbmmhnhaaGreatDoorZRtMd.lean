/-
  RtMd, without what this claim does not reach.
-/
import Derived.Test.YtiohmnhbmmhnhaaGreatDoorZRtL
namespace Go.Proofs.YtiohmnhbmmhnhaaGreatDoor
open Go.RowKit Go.Shelf Go.Lib
def GivesMade (w : World) (sl : Bool) (l : List Rt) (e : Ending) (w' : World) : Prop :=
  (¬ (newP l).2 = 0 ∧ e = .returned (.tuple #[.pointer none, .bool false, .bool true]) ∧ Below w.heap.size w w') ∨
  (newP l = (0, 0) ∧ ∃ t : Nat, e = .returned (.tuple #[.pointer (some ⟨t, 0, none⟩), .bool true, .bool true]) ∧ w.heap.size ≤ t ∧ TableAt w' t sl l ∧ Below w.heap.size w w')
theorem gives_made_no {w w' : World} {sl : Bool} {l : List Rt} (h : ¬ (newP l).2 = 0) (hb : Below w.heap.size w w') : GivesMade w sl l (.returned (.tuple #[.pointer none, .bool false, .bool true])) w' := .inl ⟨h, rfl, hb⟩
theorem gives_made_yes {w w' : World} {sl : Bool} {l : List Rt} {t : Nat} (h : newP l = (0, 0)) (ht : w.heap.size ≤ t) (hT : TableAt w' t sl l) (hb : Below w.heap.size w w') : GivesMade w sl l (.returned (.tuple #[.pointer (some ⟨t, 0, none⟩), .bool true, .bool true])) w' := .inr ⟨h, t, rfl, ht, hT, hb⟩
set_option maxRecDepth 100000 in
set_option maxHeartbeats 4000000 in
theorem made_any (A : Option Addr) (c : Nat) (la : List Ra) (sl : Bool) (w : World) (hr : Row w A (flatA la)) (hm : AOk w la) (hk : bulkRt (plA la) ≤ 1048576) (hg : GlobR w) :
    Calls Tryz.prog 17 #[.slice A la.length c, .bool sl] w (GivesMade w sl (plA la)) := by
  have HR := Lib.hid (fun (W : World) (h : Below w.heap.size w W) => hr.below h)
  have HM := Lib.hid (fun (W : World) (h : Below w.heap.size w W) => hm.below h)
  have HK := Lib.hid hk
  have HG := Lib.hid (fun (W : World) (h : Below w.heap.size w W) => hg.beyond h)
  have HRO := Lib.hid (routes_any A c la w hr hm hk)
  have HS := Lib.hid (new_same (plA la))
  clear hr hm hk hg
  go_enter Tryz.func17, Tryz.ntmps17
  go_wp2_with fail
  refine HRO.out.mono ?_
  rintro e w2 ⟨IA, ic, li, rfl, hO, hpl, hb2⟩
  have HB2 := Lib.hid hb2
  have HNW := Lib.hid (by have := rtNew_any IA ic li sl w2 (own_row hO.row) hO.ok (by rw [hpl]; exact HK.out) (HG.out w2 HB2.out); rw [hpl] at this; exact this)
  clear hb2 hO hpl HRO
  go_wp2_with fail
  refine HNW.out.mono ?_
  rintro e w3 h3
  have HB3 := Lib.hid (show Below w.heap.size w w3 by
    rcases h3 with ⟨_, _, h⟩ | ⟨_, _, _, _, _, h⟩
    · exact HB2.out.trans (h.mono HB2.out.size)
    · exact HB2.out.trans (h.mono HB2.out.size))
  have hv : ∃ (tp : Value) (i : Nat) (cd : Int), newP (plA la) = (i, cd) ∧ e = .returned (.tuple #[tp, .int .i64 (i : Nat), .int .i64 cd]) ∧ ((tp = .pointer none ∧ ¬ cd = 0) ∨ (∃ t : Nat, tp = .pointer (some ⟨t, 0, none⟩) ∧ (i, cd) = ((0 : Nat), (0 : Int)) ∧ w.heap.size ≤ t ∧ TableAt w3 t sl (plA la))) := by
    rcases h3 with ⟨h, rfl, _⟩ | ⟨h, t, rfl, ht, hT, _⟩
    · exact ⟨_, _, _, rfl, rfl, .inl ⟨rfl, h⟩⟩
    · exact ⟨_, 0, 0, h, rfl, .inr ⟨t, rfl, rfl, Nat.le_trans HB2.out.size ht, hT⟩⟩
  clear h3 HNW
  obtain ⟨tp, i, cd, hr, rfl, hcase⟩ := hv
  have HCS := Lib.hid hcase
  have HNP := Lib.hid hr
  have HPN := Lib.hid (plain_any A c la w3 (HR.out w3 HB3.out) (HM.out w3 HB3.out) HK.out)
  have HNR := Lib.hid (HS.out.symm.trans hr)
  clear hr hcase HS
  go_wp2_with fail
  refine HPN.out.mono ?_
  rintro e w4 ⟨PA, pc, lp, rfl, hO4, hpl4, hb4⟩
  have HB34 := Lib.hid hb4
  have HRN := Lib.hid (by have := rtRNew_any PA pc lp w4 (own_row hO4.row) (own_cap hO4.row) hO4.ok (by rw [hpl4]; exact HK.out); rw [hpl4, HNR.out] at this; exact this)
  clear hb4 hO4 hpl4 HPN
  go_wp2_with fail
  refine HRN.out.mono ?_
  rintro e w5 ⟨rfl, hb5⟩
  have HB35 := Lib.hid (HB34.out.trans (hb5.mono HB34.out.size))
  clear hb5 HRN
  dsimp only
  have hee : (cd == cd) = true := by simp
  rcases HCS.out with ⟨rfl, hc0⟩ | ⟨t, rfl, hc0, ht, hT⟩
  · have h1 : (cd == 0) = false := beq_eq_false_iff_ne.2 hc0
    have h2 : (cd != 0) = true := bne_iff_ne.2 hc0
    have HE := Lib.hid (gives_made_no (sl := sl) (w := w) (w' := w5) (l := plA la) (by rw [HNP.out]; exact hc0) (HB3.out.trans (HB35.out.mono HB3.out.size)))
    clear HCS hc0
    go_wp2
    refine bodyPost_ret (results_tmp3 rfl _ _ _) rfl ?_
    exact HE.out
  · injection hc0 with e1 e2
    subst e1
    subst e2
    have HE := Lib.hid (gives_made_yes (sl := sl) (w := w) (w' := w5) (l := plA la) HNP.out ht (hT.below HB35.out) (HB3.out.trans (HB35.out.mono HB3.out.size)))
    clear HCS ht hT
    go_wp2
    refine bodyPost_ret (results_tmp3 rfl _ _ _) rfl ?_
    exact HE.out
theorem TableAt.best {w : World} {t : Nat} {sl : Bool} {l : List Rt} (hT : TableAt w t sl l) (path : ByteArray) : IsBest cmpI (fitT path) (· ∈ l.map (·.2)) (patR l path) := by
  obtain ⟨q, es, S, A, c, rs, h⟩ := hT
  rw [← find_pat h.good h.mem path]
  have h1 := find_best (c := cmpI) (fit := fitT path) (texts_sort h.good)
  have e : (fun x => x ∈ es.map (·.1)) = (fun x => x ∈ l.map (·.2)) := by
    funext x
    refine propext ?_
    rw [List.mem_map, List.mem_map]
    exact h.mem x
  rw [e] at h1
  exact h1
theorem TableAt.split {w : World} {t : Nat} {sl : Bool} {l : List Rt} (hT : TableAt w t sl l) {p : ByteArray} (hp : p ∈ l.map (·.2)) : (splitP p).2.2 = true := by
  obtain ⟨q, es, S, A, c, rs, h⟩ := hT
  obtain ⟨r, hr, rfl⟩ := List.mem_map.1 hp
  obtain ⟨x, hx, e⟩ := (h.mem r.2).2 ⟨r, hr, rfl⟩
  rw [← e, h.good.pcs x hx]
theorem first_none {w : World} {t : Nat} {sl : Bool} {l : List Rt} (hT : TableAt w t sl l) {path p q : ByteArray} (hp : patR l path = some p) (hq : q ∈ l.map (·.2)) (hf : fitT path q = true) : ∃ n : Int, cmpR q p = (n, 0) ∧ 0 ≤ n := by
  have hb := hT.best path
  rw [hp] at hb
  obtain ⟨h1, _, h3⟩ := hb
  have s1 := hT.split h1
  have s2 := hT.split hq
  refine ⟨cmpI q p, ?_, ?_⟩
  · unfold cmpI cmpR
    rw [if_pos ⟨s2, s1⟩]
  · rw [cmpI_ord s2 s1]
    rcases h3 q hq hf with rfl | h
    · rw [ordP_self]
      exact Int.le_refl _
    · rw [cmpI_ord s1 s2] at h
      have := ordP_anti (splitP p).1 (splitP q).1
      omega
theorem fit_no {w : World} {t : Nat} {sl : Bool} {l : List Rt} (hT : TableAt w t sl l) {path q : ByteArray} (hp : patR l path = none) (hq : q ∈ l.map (·.2)) : fitT path q = false := by
  have hb := hT.best path
  rw [hp] at hb
  exact hb q hq
theorem or3_pos {a b c : Option Nat} (h : 0 ≤ orElse3 a b c) : ∃ k : Nat, orElse3 a b c = (k : Int) ∧ (a = some k ∨ b = some k ∨ c = some k) := by
  unfold orElse3 at h ⊢
  cases a with
  | some k => exact ⟨k, rfl, .inl rfl⟩
  | none =>
    cases b with
    | some k => exact ⟨k, rfl, .inr (.inl rfl)⟩
    | none =>
      cases c with
      | some k => exact ⟨k, rfl, .inr (.inr rfl)⟩
      | none => exact absurd h (by decide)
theorem found_in {l : List Rt} {ns : List Nat} {m : ByteArray} (h : 0 ≤ foundP l ns m) : ∃ k : Nat, foundP l ns m = (k : Int) ∧ k ∈ ns := by
  obtain ⟨k, h1, h2⟩ := or3_pos h
  refine ⟨k, h1, ?_⟩
  rcases h2 with h2 | h2 | h2
  · exact List.mem_of_find?_eq_some h2
  · split at h2
    · exact List.mem_of_find?_eq_some h2
    · cases h2
  · exact List.mem_of_find?_eq_some h2
theorem or3_of1 {a b c : Option Nat} (h : a ≠ none) : 0 ≤ orElse3 a b c := by
  unfold orElse3
  cases a with
  | some k => exact Int.natCast_nonneg k
  | none => exact absurd rfl h
theorem or3_of2 {a b c : Option Nat} (h : b ≠ none) : 0 ≤ orElse3 a b c := by
  unfold orElse3
  cases a with
  | some k => exact Int.natCast_nonneg k
  | none =>
    cases b with
    | some k => exact Int.natCast_nonneg k
    | none => exact absurd rfl h
theorem found_met {l : List Rt} {ns : List Nat} {m : ByteArray} {k : Nat} {r : Rt} (hk : k ∈ ns) (hr : l[k]? = some r) (hm : m ∈ r.1) : 0 ≤ foundP l ns m := by
  unfold foundP
  refine or3_of1 fun h => ?_
  rw [List.find?_eq_none] at h
  refine h k hk ?_
  rw [hr]
  exact inL_iff.2 hm
theorem found_head {l : List Rt} {ns : List Nat} {k : Nat} {r : Rt} (hk : k ∈ ns) (hr : l[k]? = some r) (hm : mGet ∈ r.1) : 0 ≤ foundP l ns mHead := by
  unfold foundP
  refine or3_of2 fun h => ?_
  rw [if_pos rfl, List.find?_eq_none] at h
  refine h k hk ?_
  rw [hr]
  exact inL_iff.2 hm
theorem allow_mem {l : List Rt} {g : Rt → Bool} {s : ByteArray} : s ∈ allowOf l g ↔ InAllow l (placesOf g l 0) s := by
  obtain ⟨_, h2⟩ := rising_fold leS_lt leS_not ltS_trans (withL (allR l g)) [] List.Pairwise.nil
  rw [← with_mem]
  show s ∈ List.foldl _ [] _ ↔ _
  rw [h2]
  simp
theorem other_ne (s : ByteArray) : otherP s ≠ s := fun h => by
  have hs := congrArg ByteArray.size h
  by_cases hc : 0 < s.size ∧ bt s (s.size - 1) = 47
  · rw [other_yes hc, ByteArray.size_extract] at hs
    omega
  · rw [other_no hc, ByteArray.size_append] at hs
    have : (⟨#[47]⟩ : ByteArray).size = 1 := rfl
    omega
theorem kind_some (l : List Rt) (sl : Bool) (m path p : ByteArray) : (matchF l sl m path (some p)).kind = if 0 ≤ foundP l (plc p l) m then 1 else if m = mOpt then 3 else 2 := by
  by_cases h : 0 ≤ foundP l (plc p l) m
  · rw [matchF_found h, if_pos h]
  · rw [matchF_allow h, if_neg h]
def NoFit (l : List Rt) (path : ByteArray) : Prop := ∀ r ∈ l, fitT path r.2 = false
def SomeFit (l : List Rt) (path : ByteArray) : Prop := ∃ r ∈ l, fitT path r.2 = true
def FirstP (l : List Rt) (method path : ByteArray) (m : Mt) : Prop :=
  (m.kind = 0 ∧ NoFit l path) ∨
  (m.kind = 4 ∧ NoFit l path ∧ m.dest ≠ path ∧ m.dest.size ≤ path.size + 1 ∧ ((matchP l true method m.dest).kind = 1 ∨ (matchP l true method m.dest).kind = 2 ∨ (matchP l true method m.dest).kind = 3)) ∨
  (m.kind = 1 ∧ SomeFit l path ∧ ∃ (k : Nat) (r : Rt), m.route = (k : Int) ∧ l[k]? = some r ∧ r.2 = m.pat) ∨
  ((m.kind = 2 ∧ ¬ method = mOpt ∨ m.kind = 3 ∧ method = mOpt) ∧ SomeFit l path ∧ 0 < m.allow.length ∧
    ∀ s ∈ m.allow, ((matchP l true s path).kind = 1 ∨ (s = mOpt ∧ (matchP l true s path).kind = 3)) ∧ (s = method → s = mOpt))
theorem first_law {w : World} {t : Nat} {l : List Rt} (hT : TableAt w t true l) (method path : ByteArray) : FirstP l method path (matchP l true method path) := by
  unfold matchP
  cases hp : patR l path with
  | none =>
    have hno : NoFit l path := fun r hr => fit_no hT hp (List.mem_map.2 ⟨r, hr, rfl⟩)
    by_cases hs : (segR path).2 = 0 ∧ true = true
    · rw [matchF_near hs]
      cases ho : patR l (otherP path) with
      | none => exact .inl ⟨rfl, hno⟩
      | some q =>
        refine .inr (.inl ⟨rfl, hno, other_ne path, otherP_size path, ?_⟩)
        show (matchP l true method (otherP path)).kind = 1 ∨ (matchP l true method (otherP path)).kind = 2 ∨ (matchP l true method (otherP path)).kind = 3
        unfold matchP
        rw [ho, kind_some]
        by_cases h1 : 0 ≤ foundP l (plc q l) method
        · exact .inl (if_pos h1)
        · rw [if_neg h1]
          by_cases h2 : method = mOpt
          · exact .inr (.inr (if_pos h2))
          · exact .inr (.inl (if_neg h2))
    · rw [matchF_no hs]
      exact .inl ⟨rfl, hno⟩
  | some p =>
    obtain ⟨hp1, hp2⟩ := pat_some hp
    have hsf : SomeFit l path := by
      obtain ⟨r, hr, e⟩ := List.mem_map.1 hp1
      exact ⟨r, hr, by rw [e]; exact hp2⟩
    by_cases hf : 0 ≤ foundP l (plc p l) method
    · rw [matchF_found hf]
      refine .inr (.inr (.inl ⟨rfl, hsf, ?_⟩))
      obtain ⟨k, h1, h2⟩ := found_in hf
      obtain ⟨_, r, hr, hd⟩ := places_mem.1 h2
      rw [Nat.sub_zero] at hr
      exact ⟨k, r, h1, hr, of_decide_eq_true hd⟩
    · rw [matchF_allow hf]
      refine .inr (.inr (.inr ⟨?_, hsf, ?_, ?_⟩))
      · by_cases h2 : method = mOpt
        · exact .inr ⟨if_pos h2, h2⟩
        · exact .inl ⟨if_neg h2, h2⟩
      · exact List.length_pos_of_mem (allow_mem.2 (.inl rfl) : mOpt ∈ allowOf l (fun r : Rt => decide (r.2 = p)))
      · intro s hs
        have hin := allow_mem.1 hs
        have hfs : s = mOpt ∨ 0 ≤ foundP l (plc p l) s := by
          rcases hin with h | ⟨k, hk, r, hr, hm⟩ | ⟨rfl, k, hk, r, hr, hm⟩
          · exact .inl h
          · exact .inr (found_met hk hr hm)
          · exact .inr (found_head hk hr hm)
        constructor
        · unfold matchP
          rw [hp, kind_some]
          by_cases h1 : 0 ≤ foundP l (plc p l) s
          · exact .inl (if_pos h1)
          · rcases hfs with e | e
            · exact .inr ⟨e, by rw [if_neg h1, if_pos e]⟩
            · exact absurd e h1
        · intro e
          rcases hfs with e2 | e2
          · exact e2
          · rw [e] at e2
            exact absurd e2 hf
theorem emp_test (p : ByteArray) : (p.toList == ([] : List UInt8)) = decide (p = ⟨#[]⟩) := by rw [← eq_str]; rw [show (⟨#[]⟩ : ByteArray).toList = [] by decide +kernel]
theorem empty_test {p : ByteArray} (h : 0 < p.size) : (p.toList == ([] : List UInt8)) = false := by
  rw [emp_test]
  refine decide_eq_false fun e => ?_
  rw [e] at h
  exact absurd h (by decide)
theorem split_pos {p : ByteArray} (h : (splitP p).2.2 = true) : 0 < p.size := by
  rcases Nat.eq_zero_or_pos p.size with h0 | h0
  · have h1 := chk_none (s := p) (fun hc => by omega)
    rw [chk_yes' h] at h1
    cases h1
  · exact h0
end Go.Proofs.YtiohmnhbmmhnhaaGreatDoor
namespace Go.Proofs.YtiohmnhbmmhnhaaGreatDoor
open Go.RowKit Go.Shelf Go.Lib
theorem put_len {α : Type} {le : α → α → Bool} {x : α} : ∀ {l : List α}, (putIn le x l).length = l.length + 1
  | [] => rfl
  | y :: l => by
    unfold putIn
    split
    · rfl
    · rw [List.length_cons, put_len, List.length_cons]
theorem rising_len {α : Type} [DecidableEq α] {le : α → α → Bool} : ∀ (l out : List α), (l.foldl (fun out s => if out.contains s then out else putIn le s out) out).length ≤ out.length + l.length
  | [], _ => Nat.le_refl _
  | s :: l, out => by
    rw [List.foldl_cons, List.length_cons]
    have h := rising_len (le := le) l (if out.contains s then out else putIn le s out)
    have h2 : (if out.contains s then out else putIn le s out).length ≤ out.length + 1 := by
      split
      · omega
      · rw [put_len]
        exact Nat.le_refl _
    omega
theorem allR_len (g : Rt → Bool) : ∀ l : List Rt, (allR l g).length ≤ bulkRt l
  | [] => Nat.le_refl _
  | r :: l => by
    have h := allR_len g l
    have h1 := sum1_len r.1
    rw [bulkRt_cons]
    unfold allR at h ⊢
    unfold bulk1
    rw [List.filter_cons]
    split
    · rw [List.flatMap_cons, List.length_append]
      omega
    · omega
theorem allow_len {l : List Rt} (hk : bulkRt l ≤ 1048576) (g : Rt → Bool) : (allowOf l g).length ≤ 1048578 := by
  have h1 := rising_len (le := leS) (withL (allR l g)) []
  have h2 := allR_len g l
  have h3 : (withL (allR l g)).length ≤ (allR l g).length + 2 := by
    unfold withL
    rw [List.length_append, List.length_append]
    split <;> simp
  have h4 : (allowOf l g).length ≤ ([] : List ByteArray).length + (withL (allR l g)).length := h1
  rw [List.length_nil] at h4
  omega
theorem match_len {w : World} {t : Nat} {sl : Bool} {l : List Rt} (hT : TableAt w t sl l) (method path : ByteArray) : (matchP l sl method path).allow.length ≤ 1048578 := by
  obtain ⟨_, _, _, _, _, _, h⟩ := hT
  unfold matchP
  cases patR l path with
  | none =>
    by_cases hs : (segR path).2 = 0 ∧ sl = true
    · rw [matchF_near hs]
      cases patR l (otherP path) with
      | none => exact Nat.zero_le _
      | some q => exact Nat.zero_le _
    · rw [matchF_no hs]
      exact Nat.zero_le _
  | some p =>
    by_cases hf : 0 ≤ foundP l (plc p l) method
    · rw [matchF_found hf]
      exact Nat.zero_le _
    · rw [matchF_allow hf]
      exact allow_len h.bulk _
def put6 (w : World) (n : Nat) (a b c d e f : Value) : World := (((((w.setCell ⟨n, 0, none⟩ a).setCell ⟨n, 1, none⟩ b).setCell ⟨n, 2, none⟩ c).setCell ⟨n, 3, none⟩ d).setCell ⟨n, 4, none⟩ e).setCell ⟨n, 5, none⟩ f
section
variable {w : World} {n : Nat} {T : TypeId} {u0 u1 u2 u3 u4 u5 : Value} (a b c d e f : Value)
theorem put6_blk (h : Blk w n T #[u0, u1, u2, u3, u4, u5]) : Blk (put6 w n a b c d e f) n T #[a, b, c, d, e, f] := (((((h.set_ 0 a).set_ 1 b).set_ 2 c).set_ 3 d).set_ 4 e).set_ 5 f
theorem put6_below {B : Nat} {w0 : World} (h : Below B w0 w) (hn : B ≤ n) : Below B w0 (put6 w n a b c d e f) := (((((h.setCell hn a).setCell hn b).setCell hn c).setCell hn d).setCell hn e).setCell hn f
theorem set_own {base : Nat} {E : TypeId} {sz k : Nat} {v : Value} {xs : List Value} {cs : Array Value} (h : w.ownsRow base E sz v k xs) (hN : Blk w n T cs) (hne : E ≠ T) (i : Nat) (u : Value) : (w.setCell ⟨n, i, none⟩ u).ownsRow base E sz v k xs :=
  kept_none h (grownBy_cell w ⟨n, i, none⟩ u) (own_blk_ne h hN hne)
theorem put6_own {base : Nat} {E : TypeId} {sz k : Nat} {v : Value} {xs : List Value} {cs : Array Value} (h : w.ownsRow base E sz v k xs) (hN : Blk w n T cs) (hne : E ≠ T) : (put6 w n a b c d e f).ownsRow base E sz v k xs := by
  have h1 := set_own h hN hne 0 a
  have n1 := hN.set_ 0 a
  have h2 := set_own h1 n1 hne 1 b
  have n2 := n1.set_ 1 b
  have h3 := set_own h2 n2 hne 2 c
  have n3 := n2.set_ 2 c
  have h4 := set_own h3 n3 hne 3 d
  have n4 := n3.set_ 3 d
  have h5 := set_own h4 n4 hne 4 e
  have n5 := n4.set_ 4 e
  exact set_own h5 n5 hne 5 f
end
end Go.Proofs.YtiohmnhbmmhnhaaGreatDoor
