/-
 RtF, without what this claim does not reach.
-/
import Derived.Test.YtiohmnhbmmhnhaaGreatDoorZRtT
import Derived.Test.YtiohmnhbmmhnhaaGreatDoorZRxFr
namespace Go.Proofs.YtiohmnhbmmhnhaaGreatDoor
open Go.RowKit Go.Shelf Go.Lib
def fitT (path p : ByteArray) : Bool := (fitVal (fitsP p path)).2
theorem fitT_sym {es : List En} (hg : GoodE es) {path : ByteArray} {x : En} (hx : x ∈ es) : fitT path x.1 = (isPathB path && fitsS (symPat x.2.2.1) (bl (behindS path))) := by
 obtain ⟨h1, h2, _, h4⟩ := hg.wf hx
 have e := hg.pcs x hx
 unfold fitT fitsP
 rw [e]
 dsimp only
 cases hp : isPathB path
 ·rw [if_neg (by simp)]; rfl
 ·rw [if_pos ⟨rfl, rfl⟩, ← fit_sym x.2.2.1 (behindS path) [] h4 h1 h2]
  cases fitGo x.2.2.1 (behindS path) true [] <;> rfl
theorem fidx_congr {α : Type} {p q : α → Bool} : ∀ {l : List α}, (∀ x ∈ l, p x = q x) → l.findIdx? p = l.findIdx? q
 | [], _ => rfl
 | x :: l, h => by
  rw [List.findIdx?_cons, List.findIdx?_cons, h x (List.mem_cons_self ..), fidx_congr (l := l) fun y hy => h y (List.mem_cons_of_mem _ hy)]
theorem findE_fitT {es : List En} (hg : GoodE es) (path : ByteArray) : findE es path = es.findIdx? (fun x => fitT path x.1) := by
 unfold findE
 cases hp : isPathB path
 ·rw [if_neg (by simp)]
  refine (List.findIdx?_eq_none_iff.2 fun x hx => ?_).symm
  rw [fitT_sym hg hx, hp]
  rfl
 ·rw [if_pos rfl]
  refine fidx_congr fun x hx => ?_
  rw [fitT_sym hg hx, hp]
  rfl
def cmpI (a b : ByteArray) : Int := (cmpR a b).1
def patR (l : List Rt) (path : ByteArray) : Option ByteArray := bestR cmpI (fitT path) (l.map (·.2))
theorem cmpI_ord {a b : ByteArray} (ha : (splitP a).2.2 = true) (hb : (splitP b).2.2 = true) : cmpI a b = ordP (splitP a).1 (splitP b).1 := by
 unfold cmpI cmpR
 rw [if_pos ⟨ha, hb⟩]
theorem pair_total {α : Type} {R : α → α → Prop} : ∀ {l : List α}, l.Pairwise R → ∀ a b, a ∈ l → b ∈ l → a = b ∨ R a b ∨ R b a
 | [], _, a, _, h, _ => by cases h
 | x :: l, h, a, b, ha, hb => by
  obtain ⟨h1, h2⟩ := List.pairwise_cons.1 h
  rcases List.mem_cons.1 ha with e | ha2
  ·rcases List.mem_cons.1 hb with e2 | hb2
   ·exact .inl (e.trans e2.symm)
   ·rw [e]; exact .inr (.inl (h1 b hb2))
  ·rcases List.mem_cons.1 hb with e2 | hb2
   ·rw [e2]; exact .inr (.inr (h1 a ha2))
   ·exact pair_total h2 a b ha2 hb2
theorem texts_sort {es : List En} (h : GoodE es) : (es.map (·.1)).Pairwise fun s t => cmpI s t < 0 := by
 rw [List.pairwise_map]
 have h2 : es.Pairwise fun x y => ordP x.2.2.1 y.2.2.1 < 0 := h.sortE
 refine List.Pairwise.imp_of_mem (fun hx hy hlt => ?_) h2
 rename_i x y
 rw [cmpI_ord (by rw [h.pcs x hx]) (by rw [h.pcs y hy]), h.pcs x hx, h.pcs y hy]
 exact hlt
theorem find_pat {es : List En} {l : List Rt} (hg : GoodE es) (hm : MemE es l) (path : ByteArray) : (es.map (·.1)).find? (fitT path) = patR l path := by
 have hmem : ∀ x, x ∈ es.map (·.1) ↔ x ∈ l.map (·.2) := fun x => by
  rw [List.mem_map, List.mem_map]
  exact hm x
 have hgood : ∀ a, a ∈ l.map (·.2) → (splitP a).2.2 = true := fun a ha => by
  obtain ⟨x, hx, rfl⟩ := List.mem_map.1 ((hmem a).2 ha)
  rw [hg.pcs x hx]
 unfold patR
 refine find_same (texts_sort hg) hmem ?_ ?_ ?_
 ·intro a b ha hb
  exact pair_total (texts_sort hg) a b ((hmem a).2 ha) ((hmem b).2 hb)
 ·intro a b d ha hb hd h1 h2
  rw [cmpI_ord (hgood a ha) (hgood b hb)] at h1
  rw [cmpI_ord (hgood b hb) (hgood d hd)] at h2
  rw [cmpI_ord (hgood a ha) (hgood d hd)]
  exact ord_lt_trans h1 (by omega)
 ·intro a b ha hb h1 h2
  rw [cmpI_ord (hgood a ha) (hgood b hb)] at h1
  rw [cmpI_ord (hgood b hb) (hgood a ha), ordP_anti] at h2
  omega
theorem find_none {es : List En} {l : List Rt} (hg : GoodE es) (hm : MemE es l) {path : ByteArray} (h : findE es path = none) : patR l path = none := by
 rw [← find_pat hg hm]
 rw [findE_fitT hg, List.findIdx?_eq_none_iff] at h
 rw [List.find?_eq_none]
 intro s hs
 obtain ⟨x, hx, rfl⟩ := List.mem_map.1 hs
 rw [h x hx]
 decide
theorem find_some {es : List En} {l : List Rt} (hg : GoodE es) (hm : MemE es l) {path : ByteArray} {i : Nat} {x : En} (h : findE es path = some i) (hx : es[i]? = some x) : patR l path = some x.1 := by
 rw [← find_pat hg hm]
 rw [findE_fitT hg] at h
 obtain ⟨hi, h1, h2⟩ := List.findIdx?_eq_some_iff_getElem.1 h
 have e : es[i] = x := (List.getElem?_eq_some_iff.1 hx).2
 rw [List.find?_eq_some_iff_append]
 refine ⟨by rw [← e]; exact h1, (es.take i).map (·.1), (es.drop (i + 1)).map (·.1), ?_, ?_⟩
 ·rw [← List.map_cons, ← List.map_append, ← split_at hx]
 ·intro s hs
  obtain ⟨y, hy, rfl⟩ := List.mem_map.1 hs
  obtain ⟨j, hj, rfl⟩ := List.getElem_of_mem hy
  rw [List.length_take] at hj
  have := h2 j (by omega)
  rw [List.getElem_take]
  simpa using this
theorem pat_some {l : List Rt} {path p : ByteArray} (h : patR l path = some p) : p ∈ l.map (·.2) ∧ fitT path p = true := by
 unfold patR bestR at h
 have key : ∀ (l : List ByteArray) (o : Option ByteArray) (S : List ByteArray), (∀ q, o = some q → q ∈ S ∧ fitT path q = true) → ∀ q, l.foldl (bestStep cmpI (fitT path)) o = some q → (q ∈ S ∨ q ∈ l) ∧ fitT path q = true := by
  intro l
  induction l with
  | nil => intro o S ho q hq; exact ⟨.inl (ho q hq).1, (ho q hq).2⟩
  | cons x l ih =>
   intro o S ho q hq
   rw [List.foldl_cons] at hq
   have hstep : ∀ r, bestStep cmpI (fitT path) o x = some r → r ∈ x :: S ∧ fitT path r = true := fun r hr => by
    unfold bestStep at hr
    split at hr
    ·rename_i hf
     split at hr
     ·obtain rfl := Option.some.inj hr; exact ⟨List.mem_cons_self .., hf⟩
     ·rename_i b
      split at hr
      ·obtain rfl := Option.some.inj hr; exact ⟨List.mem_cons_self .., hf⟩
      ·obtain rfl := Option.some.inj hr; exact ⟨List.mem_cons_of_mem _ (ho _ rfl).1, (ho _ rfl).2⟩
    ·exact ⟨List.mem_cons_of_mem _ (ho r hr).1, (ho r hr).2⟩
   obtain ⟨h1, h2⟩ := ih _ (x :: S) hstep q hq
   refine ⟨?_, h2⟩
   rcases h1 with h1 | h1
   ·rcases List.mem_cons.1 h1 with rfl | h1
    ·exact .inr (List.mem_cons_self ..)
    ·exact .inl h1
   ·exact .inr (List.mem_cons_of_mem _ h1)
 obtain ⟨h1, h2⟩ := key (l.map (·.2)) none [] (fun q hq => by cases hq) p h
 rcases h1 with h1 | h1
 ·cases h1
 ·exact ⟨h1, h2⟩
def parP (p path : ByteArray) : List Prm := (fitVal (fitsP p path)).1
def GivesAt (w0 w : World) (l : List Rt) (path : ByteArray) (o : Option ByteArray) (e : Ending) (w' : World) : Prop :=
 (o = none ∧ e = .returned (.tuple #[.slice none 0 0, .string ⟨#[]⟩, .slice none 0 0]) ∧ Below w.heap.size w w') ∨
 (∃ (p : ByteArray) (NA : Option Addr) (nc : Nat) (PA : Option Addr) (pc : Nat), o = some p ∧ e = .returned (.tuple #[.slice NA (plc p l).length nc, .string p, .slice PA (parP p path).length pc]) ∧ Row w0 NA (numsV (plc p l)) ∧
  w'.ownsRow w.heap.size 68 3 (.slice PA (parP p path).length pc) (parP p path).length (flat3 (parP p path)) ∧ Below w.heap.size w w')
set_option maxRecDepth 20000 in
set_option maxHeartbeats 2000000 in
theorem at_any (t : Nat) (sl : Bool) (l : List Rt) (path : ByteArray) (w0 w : World) (hT : TableAt w0 t sl l) (hbw : Below w0.heap.size w0 w) (hp : path.size ≤ 4194304) (hg : GlobR w) :
  Calls Tryz.prog 44 #[.pointer (some ⟨t, 0, none⟩), .string path] w (GivesAt w0 w l path (patR l path)) := by
 obtain ⟨q, es, S, A, c, rs, h0⟩ := hT
 have h := h0.below hbw
 have HN0 := Lib.hid h0.nums
 clear h0
 have hes : ∀ x ∈ es, x.1.size ≤ 4194304 := fun x hx => by have := sumE_mem hx; have := h.sum; omega
 have hel : es.length ≤ 4194304 := by have := sumE_len es; have := h.sum; omega
 have HF := Lib.hid (Find_any S w q es path h.tree h.good hp hg.g hes hel)
 have q0 := h.c0
 have HNO := Lib.hid (fun hn => find_none h.good h.mem (path := path) hn)
 have HSO := Lib.hid (fun i x hi hx => find_some h.good h.mem (path := path) (i := i) (x := x) hi hx)
 clear h hes hel hg
 generalize findE es path = fe at *
 go_enter Tryz.func44, Tryz.ntmps44
 go_wp2_with fail
 refine HF.out.mono ?_
 rintro e w1 (⟨rfl, rfl, hb⟩ | ⟨i, x, rfl, hx, ⟨PA, pc, rfl, ho⟩, hb⟩)
 ·have HV := Lib.hid (HNO.out rfl)
  go_wp2
  refine bodyPost_ret (results_tmp3 rfl _ _ _) rfl ?_
  exact .inl ⟨HV.out, rfl, hb⟩
 ·have HV := Lib.hid (HSO.out i x rfl hx)
  have HX := Lib.hid (HN0.out x (List.mem_of_getElem? hx))
  have HO := Lib.hid ho
  have e2 := HX.out.2
  clear hx ho HN0 HNO HSO HF
  obtain ⟨p, xl, xp, ⟨NA, nn, nc⟩⟩ := x
  dsimp only at e2 HV HX HO ⊢
  subst e2
  go_wp2
  refine bodyPost_ret (results_tmp3 rfl _ _ _) rfl ?_
  exact .inr ⟨p, NA, nc, PA, pc, HV.out, rfl, HX.out.1, HO.out, hb⟩
set_option maxRecDepth 20000 in
theorem at_nil (path : ByteArray) (w : World) :
  Calls Tryz.prog 44 #[.pointer none, .string path] w fun e w' => e = .returned (.tuple #[.slice none 0 0, .string ⟨#[]⟩, .slice none 0 0]) ∧ w = w' := by
 go_enter Tryz.func44, Tryz.ntmps44
 go_wp2
 refine bodyPost_ret (results_tmp3 rfl _ _ _) rfl ?_
 exact ⟨rfl, rfl⟩
end Go.Proofs.YtiohmnhbmmhnhaaGreatDoor
namespace Go.Proofs.YtiohmnhbmmhnhaaGreatDoor
open Go.RowKit Go.Shelf Go.Lib
def hasM (l : List Rt) (m : ByteArray) (k : Nat) : Bool := (l[k]?).any fun r => inL r.1 m
def isAll (l : List Rt) (k : Nat) : Bool := (l[k]?).any fun r => decide (r.1.length = 0)
theorem first_find {ns : List Nat} {f : Nat → Bool} {j n : Nat} (hj : j < ns.length) (hn : ns[j]? = some n) (hh : f n = true) (hno : ∀ i m, i < j → ns[i]? = some m → f m = false) : ns.find? f = some n := by
 rw [List.find?_eq_some_iff_append]
 refine ⟨hh, ns.take j, ns.drop (j + 1), ?_, ?_⟩
 ·rw [← drop_some hn, List.take_append_drop]
 ·intro a ha
  obtain ⟨i, hi, rfl⟩ := List.getElem_of_mem ha
  rw [List.length_take] at hi
  have := hno i _ (by omega) (List.getElem?_eq_getElem (by omega))
  rw [List.getElem_take, this]
  rfl
theorem none_find {ns : List Nat} {f : Nat → Bool} (hno : ∀ i m, i < ns.length → ns[i]? = some m → f m = false) : ns.find? f = none := by
 rw [List.find?_eq_none]
 intro a ha
 obtain ⟨i, hi, rfl⟩ := List.getElem_of_mem ha
 rw [hno i _ hi (List.getElem?_eq_getElem hi)]
 decide
theorem foundP_eq (l : List Rt) (ns : List Nat) (m : ByteArray) : foundP l ns m = orElse3 (ns.find? (hasM l m)) (if m = mHead then ns.find? (hasM l mGet) else none) (ns.find? (isAll l)) := rfl
theorem get_test (m : ByteArray) : ([71, 69, 84] == m.toList) = decide (mGet = m) := by rw [← eq_str]; rw [show mGet.toList = [71, 69, 84] by decide +kernel]
theorem head_test (m : ByteArray) : (m.toList == [72, 69, 65, 68]) = decide (m = mHead) := by rw [← eq_str]; rw [show mHead.toList = [72, 69, 65, 68] by decide +kernel]
def Passed (l : List Rt) (ns : List Nat) (m : ByteArray) : Nat → Prop
 | 0 => True
 | 1 => ns.find? (hasM l m) = none
 | _ => ns.find? (hasM l m) = none ∧ (if m = mHead then ns.find? (hasM l mGet) else none) = none
set_option maxRecDepth 20000 in
set_option maxHeartbeats 4000000 in
theorem found_any (t : Nat) (sl : Bool) (l : List Rt) (NA : Option Addr) (nc : Nat) (ns : List Nat) (m : ByteArray) (w : World) (hT : TableAt w t sl l) (hN : Row w NA (numsV ns)) (hns : ∀ n ∈ ns, n < l.length) (hnl : ns.length ≤ 256) :
  Calls Tryz.prog 47 #[.pointer (some ⟨t, 0, none⟩), .slice NA ns.length nc, .string m] w fun e w' => e = .returned (.int .i64 (foundP l ns m)) ∧ Below w.heap.size w w' := by
 obtain ⟨q, es, S, A, c, rs, h⟩ := hT
 have hb1 : Below w.heap.size w (w.alloc (.cells #[.string m, .string ⟨#[71, 69, 84]⟩] 9)) := (Below.refl _ _).alloc (Nat.le_refl _) _
 have h1 := h.below hb1
 have HRS := Lib.hid (show ∀ n ∈ ns, ∃ x, rs[n]? = some x ∧ Hid ((∀ mt, inL x.1.2.1 mt = hasM l mt n) ∧ x.1.2.1.length ≤ 1099511627776) from fun n hn => by
  have hlt := hns n hn
  have hlr : n < rs.length := by rw [← plA_length rs, h.pl]; exact hlt
  obtain ⟨x, hx⟩ := some_of_lt hlr
  have hpx : l[n]? = some x.1.2 := by rw [← h.pl]; exact plA_get hx
  have hsl := (slim_mem h.bulk (List.mem_of_getElem? hpx)).num
  exact ⟨x, hx, Lib.hid ⟨fun mt => by unfold hasM; rw [hpx]; rfl, by omega⟩⟩)
 have HAL := Lib.hid (show ∀ n x, rs[n]? = some x → isAll l n = decide (x.1.2.1.length = 0) from fun n x hx => by
  have hpx : l[n]? = some x.1.2 := by rw [← h.pl]; exact plA_get hx
  unfold isAll
  rw [hpx]
  rfl)
 have q1 := h1.c1
 have HRR := Lib.hid h1.row
 have HOK := Lib.hid h1.ok
 have HNR := Lib.hid (hN.below hb1)
 have hrs : rs.length ≤ 256 := by rw [← plA_length rs, h.pl]; exact h.few
 have htl := h1.low
 have HFE := Lib.hid (foundP_eq l ns m)
 have HB1 := Lib.hid hb1
 have hlast : (w.alloc (.cells #[.string m, .string ⟨#[71, 69, 84]⟩] 9)).cell? ⟨w.heap.size, 0, none⟩ = some (.string m) := by simp
 have hlast1 : (w.alloc (.cells #[.string m, .string ⟨#[71, 69, 84]⟩] 9)).cell? ⟨w.heap.size, 1, none⟩ = some (.string ⟨#[71, 69, 84]⟩) := by simp
 generalize foundP l ns m = res at *
 clear h hb1 h1 hN hns
 obtain ⟨nb, hnb⟩ : ∃ nb : Nat, nb = w.heap.size := ⟨_, rfl⟩
 go_enter Tryz.func47, Tryz.ntmps47
 go_wp2
 rw [← hnb] at hlast hlast1
 rw [← hnb]
 obtain ⟨w1, hw1⟩ : ∃ w1 : World, w1 = w.alloc (.cells #[.string m, .string ⟨#[71, 69, 84]⟩] 9) := ⟨_, rfl⟩
 rw [← hw1] at hlast hlast1 q1 HRR HOK HNR htl HB1
 rw [← hw1]
 have hnb1 : nb < w1.heap.size := by rw [hw1, hnb]; simp
 clear hw1 hnb
 go_loop [16] (fun i => ∃ k : Nat, k ≤ 2 ∧ i = .int .i64 k ∧ Hid (Passed l ns m k)) (fun i => 2 - (RowKit.intOf i).toNat)
 case atStart => exact ⟨0, by omega, rfl, Lib.hid trivial⟩
 case round =>
  obtain ⟨k, hk, rfl, HP⟩ := hrel
  by_cases hk0 : k = 0
  ·have hcell : w1.cell? ⟨nb, k, none⟩ = some (.string m) := by rw [hk0]; exact hlast
   have hk2 : k < 2 := by omega
   have HK0 := Lib.hid hk0
   clear hk0 HP hlast hlast1
   have hc : (m.toList != m.toList) = false := by simp
   go_wp2
   go_loop [29] (fun v => ∃ j : Nat, j ≤ ns.length ∧ v = .int .i64 j ∧ Hid (∀ i n, i < j → ns[i]? = some n → hasM l m n = false)) (fun v => ns.length - (RowKit.intOf v).toNat)
   case atStart => exact ⟨0, by omega, rfl, Lib.hid (fun i n h => absurd h (Nat.not_lt_zero _))⟩
   case round =>
    obtain ⟨j, hj, rfl, HJ⟩ := hrel
    by_cases hjl : j < ns.length
    ·obtain ⟨n, hn⟩ := some_of_lt hjl
     obtain ⟨x, hx, HXL⟩ := HRS.out n (List.mem_of_getElem? hn)
     obtain ⟨bn, on, rfl, hbn, hcn⟩ := HNR.out.at_ (numsV_get hn)
     have hcn0 := hcn _ _ (numsV_get hn)
     obtain ⟨b, off, rfl, hb, f0, f1, f2, f3, f4, f5, f6, f7, f8⟩ := HRR.out.ra hx
     have hnl : n < rs.length := lt_of_some hx
     have hni : (n : Int) < (rs.length : Int) := by omega
     have hji : (j : Int) < (ns.length : Int) := by omega
     have HCO := Lib.hid (Contains_any x.1.1.1 x.1.1.2 x.1.2.1 m w1 (HOK.out x (List.mem_of_getElem? hx)).1 HXL.out.2)
     rw [HXL.out.1 m] at HCO
     have HX := Lib.hid hn
     clear hcn hn hx f1 f2 f3 f4 f5 f6 f7 f8 HXL
     cases hh : hasM l m n
     ·rw [hh] at HCO
      have HJ2 : Hid (∀ i n, i < j + 1 → ns[i]? = some n → hasM l m n = false) := Lib.hid (fun i m hi hm => by
       rcases Nat.lt_or_ge i j with h | h
       ·exact HJ.out i m h hm
       ·obtain rfl : i = j := by omega
        rw [HX.out] at hm
        rw [← Option.some.inj hm]
        exact hh)
      clear hh HJ
      go_wp2_with fail
      refine HCO.out.mono ?_
      rintro e w2 ⟨rfl, rfl⟩
      go_wp2
      go_round
      case rel => exact ⟨j + 1, by omega, by go_num, HJ2⟩
      case measure => simp [RowKit.intOf]; omega
     ·rw [hh] at HCO
      have HF := Lib.hid (first_find hjl HX.out hh HJ.out)
      clear hh HJ
      go_wp2_with fail
      refine HCO.out.mono ?_
      rintro e w2 ⟨rfl, rfl⟩
      go_wp2
      go_ret
      exact ⟨ret_int (by rw [HFE.out, HF.out]; rfl), HB1.out⟩
    ·obtain rfl : j = ns.length := by omega
     have HF := Lib.hid (none_find HJ.out)
     clear HJ hjl
     go_wp2
     go_round
     case rel => exact ⟨k + 1, by omega, by go_num, Lib.hid (by rw [HK0.out]; exact HF.out)⟩
     case measure => simp [RowKit.intOf]; omega
  by_cases hk1 : k = 1
  ·have hcell : w1.cell? ⟨nb, k, none⟩ = some (.string ⟨#[71, 69, 84]⟩) := by rw [hk1]; exact hlast1
   have hk2 : k < 2 := by omega
   have HP1 : Hid (ns.find? (hasM l m) = none) := Lib.hid (by have := HP.out; rw [hk1] at this; exact this)
   have HK1 := Lib.hid hk1
   clear hk0 hk1 HP hlast hlast1
   by_cases hg : m = mGet
   ·have hc : ([71, 69, 84] == m.toList) = true := by rw [get_test]; exact decide_eq_true hg.symm
    have HF1 := Lib.hid (show ns.find? (hasM l mGet) = none by rw [← hg]; exact HP1.out)
    have HI2 : Hid ((if m = mHead then ns.find? (hasM l mGet) else none) = none) := Lib.hid (by rw [HF1.out]; split <;> rfl)
    clear hg
    go_wp2
    go_loop [29] (fun v => ∃ j : Nat, j ≤ ns.length ∧ v = .int .i64 j ∧ Hid (∀ i n, i < j → ns[i]? = some n → hasM l mGet n = false)) (fun v => ns.length - (RowKit.intOf v).toNat)
    case atStart => exact ⟨0, by omega, rfl, Lib.hid (fun i n h => absurd h (Nat.not_lt_zero _))⟩
    case round =>
     obtain ⟨j, hj, rfl, HJ⟩ := hrel
     by_cases hjl : j < ns.length
     ·obtain ⟨n, hn⟩ := some_of_lt hjl
      obtain ⟨x, hx, HXL⟩ := HRS.out n (List.mem_of_getElem? hn)
      obtain ⟨bn, on, rfl, hbn, hcn⟩ := HNR.out.at_ (numsV_get hn)
      have hcn0 := hcn _ _ (numsV_get hn)
      obtain ⟨b, off, rfl, hb, f0, f1, f2, f3, f4, f5, f6, f7, f8⟩ := HRR.out.ra hx
      have hnl : n < rs.length := lt_of_some hx
      have hni : (n : Int) < (rs.length : Int) := by omega
      have hji : (j : Int) < (ns.length : Int) := by omega
      have HCO := Lib.hid (Contains_any x.1.1.1 x.1.1.2 x.1.2.1 mGet w1 (HOK.out x (List.mem_of_getElem? hx)).1 HXL.out.2)
      rw [HXL.out.1 mGet] at HCO
      have HX := Lib.hid hn
      clear hcn hn hx f1 f2 f3 f4 f5 f6 f7 f8 HXL
      cases hh : hasM l mGet n
      ·rw [hh] at HCO
       have HJ2 : Hid (∀ i n, i < j + 1 → ns[i]? = some n → hasM l mGet n = false) := Lib.hid (fun i m hi hm => by
        rcases Nat.lt_or_ge i j with h | h
        ·exact HJ.out i m h hm
        ·obtain rfl : i = j := by omega
         rw [HX.out] at hm
         rw [← Option.some.inj hm]
         exact hh)
       clear hh HJ
       go_wp2_with fail
       refine HCO.out.mono ?_
       rintro e w2 ⟨rfl, rfl⟩
       go_wp2
       go_round
       case rel => exact ⟨j + 1, by omega, by go_num, HJ2⟩
       case measure => simp [RowKit.intOf]; omega
      ·rw [hh] at HCO
       have HF := Lib.hid (first_find hjl HX.out hh HJ.out)
       clear hh HJ
       go_wp2_with fail
       refine HCO.out.mono ?_
       rintro e w2 ⟨rfl, rfl⟩
       go_wp2
       exact absurd (HF1.out.symm.trans HF.out) (by simp)
     ·obtain rfl : j = ns.length := by omega
      have HF := Lib.hid (none_find HJ.out)
      clear HJ hjl
      go_wp2
      go_round
      case rel => exact ⟨k + 1, by omega, by go_num, Lib.hid (by rw [HK1.out]; exact ⟨HP1.out, HI2.out⟩)⟩
      case measure => simp [RowKit.intOf]; omega
   by_cases hh : m = mHead
   ·have hc : ([71, 69, 84] == m.toList) = false := by rw [get_test]; exact decide_eq_false (fun e => hg e.symm)
    have hc2 : (m.toList == [72, 69, 65, 68]) = true := by rw [head_test]; exact decide_eq_true hh
    have HI2 : Hid ((if m = mHead then ns.find? (hasM l mGet) else none) = ns.find? (hasM l mGet)) := Lib.hid (if_pos hh)
    clear hg hh
    go_wp2
    go_loop [29] (fun v => ∃ j : Nat, j ≤ ns.length ∧ v = .int .i64 j ∧ Hid (∀ i n, i < j → ns[i]? = some n → hasM l mGet n = false)) (fun v => ns.length - (RowKit.intOf v).toNat)
    case atStart => exact ⟨0, by omega, rfl, Lib.hid (fun i n h => absurd h (Nat.not_lt_zero _))⟩
    case round =>
     obtain ⟨j, hj, rfl, HJ⟩ := hrel
     by_cases hjl : j < ns.length
     ·obtain ⟨n, hn⟩ := some_of_lt hjl
      obtain ⟨x, hx, HXL⟩ := HRS.out n (List.mem_of_getElem? hn)
      obtain ⟨bn, on, rfl, hbn, hcn⟩ := HNR.out.at_ (numsV_get hn)
      have hcn0 := hcn _ _ (numsV_get hn)
      obtain ⟨b, off, rfl, hb, f0, f1, f2, f3, f4, f5, f6, f7, f8⟩ := HRR.out.ra hx
      have hnl : n < rs.length := lt_of_some hx
      have hni : (n : Int) < (rs.length : Int) := by omega
      have hji : (j : Int) < (ns.length : Int) := by omega
      have HCO := Lib.hid (Contains_any x.1.1.1 x.1.1.2 x.1.2.1 mGet w1 (HOK.out x (List.mem_of_getElem? hx)).1 HXL.out.2)
      rw [HXL.out.1 mGet] at HCO
      have HX := Lib.hid hn
      clear hcn hn hx f1 f2 f3 f4 f5 f6 f7 f8 HXL
      cases hh : hasM l mGet n
      ·rw [hh] at HCO
       have HJ2 : Hid (∀ i n, i < j + 1 → ns[i]? = some n → hasM l mGet n = false) := Lib.hid (fun i m hi hm => by
        rcases Nat.lt_or_ge i j with h | h
        ·exact HJ.out i m h hm
        ·obtain rfl : i = j := by omega
         rw [HX.out] at hm
         rw [← Option.some.inj hm]
         exact hh)
       clear hh HJ
       go_wp2_with fail
       refine HCO.out.mono ?_
       rintro e w2 ⟨rfl, rfl⟩
       go_wp2
       go_round
       case rel => exact ⟨j + 1, by omega, by go_num, HJ2⟩
       case measure => simp [RowKit.intOf]; omega
      ·rw [hh] at HCO
       have HF := Lib.hid (first_find hjl HX.out hh HJ.out)
       clear hh HJ
       go_wp2_with fail
       refine HCO.out.mono ?_
       rintro e w2 ⟨rfl, rfl⟩
       go_wp2
       go_ret
       exact ⟨ret_int (by rw [HFE.out, HP1.out, HI2.out, HF.out]; rfl), HB1.out⟩
     ·obtain rfl : j = ns.length := by omega
      have HF := Lib.hid (none_find HJ.out)
      clear HJ hjl
      go_wp2
      go_round
      case rel => exact ⟨k + 1, by omega, by go_num, Lib.hid (by rw [HK1.out]; exact ⟨HP1.out, HI2.out.trans HF.out⟩)⟩
      case measure => simp [RowKit.intOf]; omega
   ·have hc : ([71, 69, 84] == m.toList) = false := by rw [get_test]; exact decide_eq_false (fun e => hg e.symm)
    have hc2 : (m.toList == [72, 69, 65, 68]) = false := by rw [head_test]; exact decide_eq_false hh
    have HI2 : Hid ((if m = mHead then ns.find? (hasM l mGet) else none) = none) := Lib.hid (if_neg hh)
    clear hg hh
    go_wp2
    go_round
    case rel => exact ⟨k + 1, by omega, by go_num, Lib.hid (by rw [HK1.out]; exact ⟨HP1.out, HI2.out⟩)⟩
    case measure => simp [RowKit.intOf]; omega
  have hk2 : ¬ k < 2 := by omega
  have HP2 : Hid (ns.find? (hasM l m) = none ∧ (if m = mHead then ns.find? (hasM l mGet) else none) = none) := Lib.hid (by have := HP.out; rw [show k = 2 by omega] at this; exact this)
  clear hk0 hk1 HP hlast hlast1
  go_wp2
  go_loop [48] (fun v => ∃ j : Nat, j ≤ ns.length ∧ v = .int .i64 j ∧ Hid (∀ i n, i < j → ns[i]? = some n → isAll l n = false)) (fun v => ns.length - (RowKit.intOf v).toNat)
  case atStart => exact ⟨0, by omega, rfl, Lib.hid (fun i n h => absurd h (Nat.not_lt_zero _))⟩
  case round =>
   obtain ⟨j, hj, rfl, HJ⟩ := hrel
   by_cases hjl : j < ns.length
   ·obtain ⟨n, hn⟩ := some_of_lt hjl
    obtain ⟨x, hx, HXL⟩ := HRS.out n (List.mem_of_getElem? hn)
    obtain ⟨bn, on, rfl, hbn, hcn⟩ := HNR.out.at_ (numsV_get hn)
    have hcn0 := hcn _ _ (numsV_get hn)
    obtain ⟨b, off, rfl, hb, f0, f1, f2, f3, f4, f5, f6, f7, f8⟩ := HRR.out.ra hx
    have hnl : n < rs.length := lt_of_some hx
    have hni : (n : Int) < (rs.length : Int) := by omega
    have hji : (j : Int) < (ns.length : Int) := by omega
    have HA := Lib.hid (HAL.out n x hx)
    have HX := Lib.hid hn
    clear hcn hn hx f1 f2 f3 f4 f5 f6 f7 f8 HXL
    by_cases hz : x.1.2.1.length = 0
    ·have hzb : ((x.1.2.1.length : Int) == 0) = true := beq_iff_eq.2 (by omega)
     have HF := Lib.hid (first_find hjl HX.out (by rw [HA.out]; exact decide_eq_true hz) HJ.out)
     clear hz HJ
     go_wp2
     go_ret
     exact ⟨ret_int (by rw [HFE.out, HP2.out.1, HP2.out.2, HF.out]; rfl), HB1.out⟩
    ·have hzb : ((x.1.2.1.length : Int) == 0) = false := beq_eq_false_iff_ne.2 (by omega)
     have HJ2 : Hid (∀ i n, i < j + 1 → ns[i]? = some n → isAll l n = false) := Lib.hid (fun i m hi hm => by
      rcases Nat.lt_or_ge i j with h | h
      ·exact HJ.out i m h hm
      ·obtain rfl : i = j := by omega
       rw [HX.out] at hm
       rw [← Option.some.inj hm, HA.out]
       exact decide_eq_false hz)
     clear hz HJ
     go_wp2
     go_round
     case rel => exact ⟨j + 1, by omega, by go_num, HJ2⟩
     case measure => simp [RowKit.intOf]; omega
   ·obtain rfl : j = ns.length := by omega
    have HF := Lib.hid (none_find HJ.out)
    clear HJ hjl
    go_wp2
    go_ret
    exact ⟨ret_int (by rw [HFE.out, HP2.out.1, HP2.out.2, HF.out]; rfl), HB1.out⟩
end Go.Proofs.YtiohmnhbmmhnhaaGreatDoor
