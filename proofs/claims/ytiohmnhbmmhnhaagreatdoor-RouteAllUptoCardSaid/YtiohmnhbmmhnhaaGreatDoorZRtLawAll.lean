/-
 RtLawAll, without what this claim does not reach.
-/
import Derived.Test.YtiohmnhbmmhnhaaGreatDoorZRlF
import Derived.Test.YtiohmnhbmmhnhaaGreatDoorZRxFr
import Derived.Test.YtiohmnhbmmhnhaaGreatDoorZRxCr
import Derived.Test.YtiohmnhbmmhnhaaGreatDoorZRlKs
import Derived.Test.YtiohmnhbmmhnhaaGreatDoorZTgMp
import Derived.Test.YtiohmnhbmmhnhaaGreatDoorZRtMd
import Derived.Test.YtiohmnhbmmhnhaaGreatDoorZRtL
import Derived.Test.YtiohmnhbmmhnhaaGreatDoorZRtRf
namespace Go.Proofs.YtiohmnhbmmhnhaaGreatDoor
open Go.RowKit Go.Shelf Go.Lib
abbrev KV := ByteArray × Int
def valI (x : En) : Int := (x.2.2.2.2.1 : Nat)
def keptE (es : List En) : List KV := es.map fun x => (x.1, valI x)
theorem keptE_length (es : List En) : (keptE es).length = es.length := List.length_map _
theorem keptE_get {es : List En} {k : Nat} {x : En} (h : es[k]? = some x) : (keptE es)[k]? = some (x.1, valI x) := by unfold keptE; rw [List.getElem?_map, h]; rfl
end Go.Proofs.YtiohmnhbmmhnhaaGreatDoor
namespace Go.Proofs.YtiohmnhbmmhnhaaGreatDoor
open Go.RowKit Go.Shelf Go.Lib
def kvV (x : KV) : List Value := [.string x.1, .int .i64 x.2]
def flatKV (l : List KV) : List Value := l.flatMap kvV
theorem flatKV_append (l m : List KV) : flatKV (l ++ m) = flatKV l ++ flatKV m := by simp [flatKV]
theorem flatKV_get {l : List KV} {k : Nat} {x : KV} (h : l[k]? = some x) : (flatKV l)[k * 2]? = some (.string x.1) ∧ (flatKV l)[k * 2 + 1]? = some (.int .i64 x.2) := by
 induction l generalizing k with
 | nil => simp at h
 | cons p l ih =>
  cases k with
  | zero =>
   simp at h
   subst h
   exact ⟨rfl, rfl⟩
  | succ k =>
   obtain ⟨h0, h1⟩ := ih (k := k) (by simpa using h)
   have e : flatKV (p :: l) = .string p.1 :: .int .i64 p.2 :: flatKV l := rfl
   rw [e, show (k + 1) * 2 = k * 2 + 1 + 1 by omega]
   simp only [List.getElem?_cons_succ]
   exact ⟨h0, h1⟩
theorem flatKV_oneCell (l : List KV) : ∀ u ∈ flatKV l, u.oneCell' = true := by
 intro u hu
 simp only [flatKV, List.mem_flatMap] at hu
 obtain ⟨p, _, hp⟩ := hu
 simp [kvV] at hp
 rcases hp with rfl | rfl <;> rfl
theorem Row.kv {w : World} {A : Option Addr} {l : List KV} {k : Nat} {x : KV} (h : Row w A (flatKV l)) (hk : l[k]? = some x) :
  ∃ b off, A = some ⟨b, off, none⟩ ∧ b < w.heap.size ∧ w.cell? ⟨b, off + k * 2, none⟩ = some (.string x.1) ∧ w.cell? ⟨b, off + k * 2 + 1, none⟩ = some (.int .i64 x.2) := by
 obtain ⟨h0, h1⟩ := flatKV_get hk
 obtain ⟨b, off, e, hb, hc⟩ := h.at_ h0
 exact ⟨b, off, e, hb, hc _ _ h0, by rw [Nat.add_assoc]; exact hc _ _ h1⟩
theorem info_kept : (Tryz.prog.info? 181).map (fun i => (i.zero, i.size, i.bytes)) = some (some (.agg #[.string ⟨#[]⟩, .int .i64 0]), 2, 24) := by kernel_rfl
def insK (es : List En) (pl : List Pc) (x : KV) : List KV := (keptE es).take (cntE es pl) ++ x :: (keptE es).drop (cntE es pl)
theorem keptE_ins (es : List En) (x : En) : keptE (insE es x) = insK es x.2.2.1 (x.1, valI x) := by
 unfold keptE insE insK keptE
 rw [List.map_append, List.map_take, List.map_cons, List.map_drop]
def accK (es : List En) (pl : List Pc) (x : KV) (k : Nat) : List KV := if k ≤ cntE es pl then (keptE es).take k else (keptE es).take (cntE es pl) ++ x :: ((keptE es).take k).drop (cntE es pl)
theorem accK_low {es : List En} {pl : List Pc} {x : KV} {k : Nat} (h : k ≤ cntE es pl) : accK es pl x k = (keptE es).take k := if_pos h
theorem accK_high {es : List En} {pl : List Pc} {x : KV} {k : Nat} (h : cntE es pl < k) : accK es pl x k = (keptE es).take (cntE es pl) ++ x :: ((keptE es).take k).drop (cntE es pl) := if_neg (by omega)
theorem accK_len {es : List En} {pl : List Pc} {x : KV} {k : Nat} (hk : k ≤ es.length) : (accK es pl x k).length = if k ≤ cntE es pl then k else k + 1 := by
 have hl := keptE_length es
 have hc := cntE_le es pl
 unfold accK
 split
 ·rw [List.length_take]; omega
 ·rw [List.length_append, List.length_take, List.length_cons, List.length_drop, List.length_take]; omega
theorem accK_a {es : List En} {pl : List Pc} {x : KV} {k : Nat} {y : KV} (h : k < cntE es pl) (hy : (keptE es)[k]? = some y) : accK es pl x (k + 1) = accK es pl x k ++ [y] := by
 rw [accK_low (by omega), accK_low (by omega)]
 exact take_snoc hy
theorem accK_b {es : List En} {pl : List Pc} {x : KV} {k : Nat} {y : KV} (h : k = cntE es pl) (hy : (keptE es)[k]? = some y) : accK es pl x (k + 1) = accK es pl x k ++ [x] ++ [y] := by
 have hk := (List.getElem?_eq_some_iff.1 hy).1
 have hl : ((keptE es).take k).length = k := by rw [List.length_take]; omega
 rw [accK_high (by omega), accK_low (by omega), take_snoc hy, ← h]
 rw [List.drop_left' hl]
 simp
theorem accK_c {es : List En} {pl : List Pc} {x : KV} {k : Nat} {y : KV} (h : cntE es pl < k) (hy : (keptE es)[k]? = some y) : accK es pl x (k + 1) = accK es pl x k ++ [y] := by
 have hk := (List.getElem?_eq_some_iff.1 hy).1
 have hl : ((keptE es).take k).length = k := by rw [List.length_take]; omega
 rw [accK_high (by omega), accK_high h, take_snoc hy, List.drop_append_of_le_length (by omega)]
 simp
theorem accK_end_low {es : List En} {pl : List Pc} {x : KV} (h : es.length ≤ cntE es pl) : accK es pl x es.length ++ [x] = insK es pl x := by
 have hl := keptE_length es
 rw [accK_low h]
 unfold insK
 rw [List.take_of_length_le (by omega), List.take_of_length_le (by omega), List.drop_of_length_le (by omega)]
theorem accK_end_high {es : List En} {pl : List Pc} {x : KV} (h : cntE es pl < es.length) : accK es pl x es.length = insK es pl x := by
 have hl := keptE_length es
 rw [accK_high h]
 unfold insK
 rw [List.take_of_length_le (l := keptE es) (i := es.length) (by omega)]
theorem insK_len (es : List En) (pl : List Pc) (x : KV) : (insK es pl x).length = es.length + 1 := by
 have hl := keptE_length es
 have hc := cntE_le es pl
 unfold insK
 rw [List.length_append, List.length_take, List.length_cons, List.length_drop]
 omega
theorem ord_place {es : List En} (hs : SortL (pcsE es)) {m : List Pc} {k : Nat} {y : En} (hy : es[k]? = some y) : (k < cntE es m → ordP y.2.2.1 m < 0) ∧ (cntE es m ≤ k → 0 ≤ ordP y.2.2.1 m) := by
 obtain ⟨h1, h2⟩ := sort_split hs m
 rw [← cntE_cntL] at h1 h2
 have hp := pcsE_get hy
 constructor
 ·intro h
  exact h1 _ (List.mem_of_getElem? (by rw [List.getElem?_take, if_pos h]; exact hp))
 ·intro h
  refine h2 _ (List.mem_of_getElem? (i := k - cntE es m) ?_)
  rw [List.getElem?_drop, show cntE es m + (k - cntE es m) = k by omega]
  exact hp
def GivesKi (r : Rd) (w : World) (A : Option Addr) (c : Nat) (es : List En) (s : ByteArray) (v : Int) (e : Ending) (w' : World) : Prop :=
 (r.2.2 = false ∧ e = .returned (.tuple #[.slice A es.length c, .int .i64 130]) ∧ Below w.heap.size w w') ∨
 (r.2.2 = true ∧ (∃ y ∈ es, ordP y.2.2.1 r.1 = 0) ∧ e = .returned (.tuple #[.slice A es.length c, .int .i64 131]) ∧ Below w.heap.size w w') ∨
 (r.2.2 = true ∧ (∀ y ∈ es, ordP y.2.2.1 r.1 ≠ 0) ∧ (∃ B d, e = .returned (.tuple #[.slice B (insK es r.1 (s, v)).length d, .int .i64 0]) ∧ w'.ownsRow w.heap.size 181 2 (.slice B (insK es r.1 (s, v)).length d) (insK es r.1 (s, v)).length (flatKV (insK es r.1 (s, v)))) ∧ Below w.heap.size w w')
theorem gives_ki {r : Rd} {w w' : World} {A : Option Addr} {c n : Nat} {es : List En} {s : ByteArray} {v : Int} {u : Value} (h : r.2.2 = true) (hn : ∀ y ∈ es, ordP y.2.2.1 r.1 ≠ 0) (ho : w'.ownsRow n 181 2 u (insK es r.1 (s, v)).length (flatKV (insK es r.1 (s, v)))) (hw : w.heap.size ≤ n) (hb : Below w.heap.size w w') :
  GivesKi r w A c es s v (.returned (.tuple #[u, .int .i64 0])) w' := by
 obtain ⟨B, d, rfl⟩ := own_slice ho
 exact .inr (.inr ⟨h, hn, ⟨B, d, rfl, own_less ho hw⟩, hb⟩)
set_option maxRecDepth 20000 in
set_option maxHeartbeats 8000000 in
theorem rInsert_any (A : Option Addr) (c : Nat) (es : List En) (s : ByteArray) (v : Int) (w : World) (hr : Row w A (flatKV (keptE es))) (hg : GoodE es) (hs : s.size ≤ 4194304) (hz : ∀ x ∈ es, x.1.size ≤ 4194304) (hl : es.length ≤ 4194304) :
  Calls Tryz.prog 68 #[.slice A es.length c, .string s, .int .i64 v] w (GivesKi (splitP s) w A c es s v) := by
 obtain ⟨i0, hi0, hz0, hz1, hz2⟩ := info_parts info_kept
 have HCH := Lib.hid (fun W => rCheck_any s W hs)
 have HCM := Lib.hid (fun W (x : En) (hx : x ∈ es) => rCompare_any s x.1 W hs (hz x hx))
 have hno := @chk_no s
 have hyes := @chk_yes s
 unfold chkVal at HCH
 obtain ⟨⟨pl, pa, pg⟩, hsp⟩ : ∃ r, r = splitP s := ⟨_, rfl⟩
 have hcmp : pg = true → ∀ x ∈ es, cmpR s x.1 = (ordP pl x.2.2.1, 0) := fun h x hx => by
  unfold cmpR
  rw [hg.pcs x hx, ← hsp, if_pos ⟨h, rfl⟩]
 rw [← hsp] at hno hyes ⊢
 dsimp only at hno hyes
 obtain ⟨⟨p, er⟩, hce⟩ : ∃ r, r = checkP s := ⟨_, rfl⟩
 rw [← hce] at HCH hno hyes
 dsimp only at HCH hno
 clear hsp hce
 cases pg
 ·obtain rfl : er = 130 := hno rfl
  clear hyes hno hcmp
  go_enter Tryz.func68, Tryz.ntmps68
  go_wp2_with fail
  refine (HCH.out _).mono ?_
  rintro e w1 ⟨rfl, hb1⟩
  go_wp2
  go_ret2
  exact .inl ⟨rfl, rfl, hb1⟩
 ·have h0 := hyes rfl
  obtain ⟨rfl, rfl⟩ : p = 0 ∧ er = 0 := ⟨congrArg Prod.fst h0, congrArg Prod.snd h0⟩
  have HCMP := Lib.hid (hcmp rfl)
  have HSORT := Lib.hid hg.sort
  have HR := Lib.hid hr
  have hcn := cntE_le es pl
  have HAL := Lib.hid (fun k h => @accK_len es pl (s, v) k h)
  clear hyes hno hcmp h0 hr hg hz
  go_enter Tryz.func68, Tryz.ntmps68
  go_wp2_with fail
  refine (HCH.out _).mono ?_
  rintro e w1 ⟨rfl, hb1⟩
  have HRW := Lib.hid (HR.out.below hb1)
  clear HR HCH
  go_wp2
  go_loopw [10, 11, 12] (fun r pv i wr => ∃ k : Nat, i = .int .i64 (k : Int) ∧ k ≤ es.length ∧ pv = .bool (decide (cntE es pl < k)) ∧ wr.ownsRow w1.heap.size 181 2 r (accK es pl (s, v) k).length (flatKV (accK es pl (s, v) k)) ∧ Below w1.heap.size w1 wr ∧ Hid (∀ j y, j < k → es[j]? = some y → ordP y.2.2.1 pl ≠ 0)) (fun _ _ i _ => es.length - (RowKit.intOf i).toNat)
  case atStart => exact ⟨0, rfl, by omega, by simp, World.ownsRow_lit _ #[] 0 (Nat.le_refl _) (by unfold maxLen; omega) rfl, (Below.refl _ _).alloc (Nat.le_refl _) _, Lib.hid (fun j y h => absurd h (Nat.not_lt_zero _))⟩
  case round =>
   obtain ⟨k, rfl, hk, rfl, hown, hbw, HNE⟩ := hrel
   have hal := HAL.out k hk
   by_cases hlt : k < es.length
   ·obtain ⟨x, hx⟩ := some_of_lt hlt
    have hmem := List.mem_of_getElem? hx
    obtain ⟨o1, o2⟩ := ord_place HSORT.out (m := pl) hx
    obtain ⟨b, off, rfl, hb, f0, f1⟩ := (HRW.out.below hbw).kv (keptE_get hx)
    have HC := Lib.hid (HCM.out wr x hmem)
    rw [HCMP.out x hmem, ordP_anti x.2.2.1 pl] at HC
    unfold chkVal at HC
    have hkl : (k : Int) < (es.length : Int) := by omega
    have hrange := ordP_range x.2.2.1 pl
    have hkx := keptE_get hx
    have HX := Lib.hid hx
    obtain ⟨xv, hxv⟩ : ∃ v : Int, v = valI x := ⟨_, rfl⟩
    rw [← hxv] at f1 hkx
    have HXV := Lib.hid hxv
    clear hxv
    obtain ⟨xs, xloc, xl, xw⟩ := x
    dsimp only at f0 f1 HC o1 o2 hrange hkx HXV
    clear hx
    obtain ⟨o, ho⟩ : ∃ o : Int, o = ordP xl pl := ⟨_, rfl⟩
    rw [← ho] at HC o1 o2 hrange
    have HO := Lib.hid ho
    clear ho
    by_cases ho0 : o = 0
    ·subst ho0
     have HEX := Lib.hid (show ∃ y ∈ es, ordP y.2.2.1 pl = 0 from ⟨_, hmem, HO.out.symm⟩)
     have hq : ((-0 : Int) == 0) = true := by rfl
     clear o1 o2 hrange hkx
     go_wp2_with fail
     refine HC.out.mono ?_
     rintro e w2 ⟨rfl, hb2⟩
     have hbe := hb1.trans ((hbw.trans (hb2.mono hbw.size)).mono hb1.size)
     go_wp2
     go_ret2
     exact .inr (.inl ⟨rfl, HEX.out, rfl, hbe⟩)
    ·have HNE2 : Hid (∀ j y, j < k + 1 → es[j]? = some y → ordP y.2.2.1 pl ≠ 0) := Lib.hid (fun j y hj hy => by
      rcases Nat.lt_or_ge j k with h | h
      ·exact HNE.out j y h hy
      ·obtain rfl : j = k := by omega
       have := HX.out.symm.trans hy
       obtain rfl := Option.some.inj this
       exact fun h0 => ho0 (HO.out.trans h0))
     have hq : ((-o : Int) == 0) = false := by simp; exact ho0
     by_cases hkc : k < cntE es pl
     ·have hneg := o1 hkc
      have hlt0 : ¬ (-o : Int) < 0 := by omega
      have HAC := Lib.hid (accK_a (x := (s, v)) hkc hkx)
      have hdk : decide (cntE es pl < k) = false := decide_eq_false (by omega)
      have hdk1 : decide (cntE es pl < k + 1) = false := decide_eq_false (by omega)
      rw [hdk]
      rw [if_pos (by omega)] at hal
      clear o1 o2 hrange hkx HNE ho0
      go_wp2_with fail
      refine HC.out.mono ?_
      rintro e w2 ⟨rfl, hb2⟩
      have hbw2 := hbw.trans (hb2.mono hbw.size)
      have hown2 := own_below hown hb2
      obtain ⟨c0, c1⟩ : w2.cell? ⟨b, off + k * 2, none⟩ = some (.string xs) ∧ w2.cell? ⟨b, off + k * 2 + 1, none⟩ = some (.int .i64 xv) := ⟨(hb2.cell (p := ⟨b, off + k * 2, none⟩) hb).trans f0, (hb2.cell (p := ⟨b, off + k * 2 + 1, none⟩) hb).trans f1⟩
      clear f0 f1 HC hb2 hown hbw
      go_wp2_with (at_builtin; refine wpList_append_any _ rfl (.tmp 55) (.tmp 60) 132 rfl w1.heap.size 181 i0 (.agg #[.string ⟨#[]⟩, .int .i64 0]) 2 24 Tryz.underlying132 hi0 hz0 hz1 hz2 rfl (by decide) _ _ _ rfl (hown2.alloc _) _ (some ⟨w2.heap.size, 0, none⟩) 1 1 [.string xs, .int .i64 xv] rfl (reads_of_row (row_newc _ _ 181 (by simp)) rfl (by decide)) (flatKV_oneCell [(xs, xv)]) (by unfold maxLen; omega) (by omega) (by simp; have := hbw2.size; omega) ?_; intro v' w3 hown3 hg3 _)
      have hb3 := (hbw2.alloc hbw2.size (.cells #[.string xs, .int .i64 xv] 181)).grown hg3 (by simp; have := hbw2.size; omega) (own_lt hown2)
      have hown4 : w3.ownsRow w1.heap.size 181 2 v' (accK es pl (s, v) (k + 1)).length (flatKV (accK es pl (s, v) (k + 1))) := by
       rw [HAC.out, flatKV_append, List.length_append]
       exact hown3
      have HO4 := Lib.hid hown4
      have HB3 := Lib.hid hb3
      clear hown3 hg3 hown4 hb3 hown2
      go_wp2
      go_roundw
      case rel => exact ⟨k + 1, by go_num, by omega, by rw [hdk1], HO4.out, HB3.out, HNE2⟩
      case measure => simp [RowKit.intOf]; omega
     ·have hpos := o2 (by omega)
      have hlt0 : 0 < o := by omega
      by_cases hke : k = cntE es pl
      ·have HAC := Lib.hid (accK_b (x := (s, v)) hke hkx)
       have hdk : decide (cntE es pl < k) = false := decide_eq_false (by omega)
       have hdk1 : decide (cntE es pl < k + 1) = true := decide_eq_true (by omega)
       rw [hdk]
       rw [if_pos (by omega)] at hal
       clear o1 o2 hrange hkx HNE ho0 hke
       go_wp2_with fail
       refine HC.out.mono ?_
       rintro e w2 ⟨rfl, hb2⟩
       have hbw2 := hbw.trans (hb2.mono hbw.size)
       have hown2 := own_below hown hb2
       have hrow2 := HRW.out.below hbw2
       obtain ⟨c0, c1⟩ : w2.cell? ⟨b, off + k * 2, none⟩ = some (.string xs) ∧ w2.cell? ⟨b, off + k * 2 + 1, none⟩ = some (.int .i64 xv) := ⟨(hb2.cell (p := ⟨b, off + k * 2, none⟩) hb).trans f0, (hb2.cell (p := ⟨b, off + k * 2 + 1, none⟩) hb).trans f1⟩
       clear f0 f1 HC hb2 hown hbw
       go_wp2_with (first | (at_builtin; refine wpList_append_any _ rfl (.tmp 49) (.tmp 53) 132 rfl w1.heap.size 181 i0 (.agg #[.string ⟨#[]⟩, .int .i64 0]) 2 24 Tryz.underlying132 hi0 hz0 hz1 hz2 rfl (by decide) _ _ _ rfl (hown2.alloc _) _ (some ⟨w2.heap.size, 0, none⟩) 1 1 [.string s, .int .i64 v] rfl (reads_of_row (row_newc _ _ 181 (by simp)) rfl (by decide)) (flatKV_oneCell [(s, v)]) (by unfold maxLen; omega) (by omega) (by simp; have := hbw2.size; omega) ?_; intro v' w3 hown3 hg3 _; have hb3 := (hbw2.alloc hbw2.size (.cells #[.string s, .int .i64 v] 181)).grown hg3 (by simp; have := hbw2.size; omega) (own_lt hown2); obtain ⟨b', off', he, hb', d0, d1⟩ := (HRW.out.below hb3).kv (keptE_get HX.out); cases he; dsimp only at d0 d1; rw [← HXV.out] at d1; have hl3 := hb3.size; clear hg3 hb' c0 c1 hown2 hrow2) | (at_builtin; refine wpList_append_any _ rfl (.tmp 55) (.tmp 60) 132 rfl w1.heap.size 181 i0 (.agg #[.string ⟨#[]⟩, .int .i64 0]) 2 24 Tryz.underlying132 hi0 hz0 hz1 hz2 rfl (by decide) _ _ _ rfl (hown3.alloc _) _ (some ⟨w3.heap.size, 0, none⟩) 1 1 [.string xs, .int .i64 xv] rfl (reads_of_row (row_newc _ _ 181 (by simp)) rfl (by decide)) (flatKV_oneCell [(xs, xv)]) (by unfold maxLen; omega) (by omega) (by simp; have := hb3.size; omega) ?_; intro v5 w5 hown5 hg5 _))
       have hb5 := (hb3.alloc hb3.size (.cells #[.string xs, .int .i64 xv] 181)).grown hg5 (by simp; have := hb3.size; omega) (own_lt hown3)
       have hown6 : w5.ownsRow w1.heap.size 181 2 v5 (accK es pl (s, v) (k + 1)).length (flatKV (accK es pl (s, v) (k + 1))) := by
        rw [HAC.out, flatKV_append, flatKV_append, List.length_append, List.length_append]
        exact hown5
       have HO6 := Lib.hid hown6
       have HB5 := Lib.hid hb5
       clear hown3 hown5 hg5 hown6 hb5
       go_wp2
       go_roundw
       case rel => exact ⟨k + 1, by go_num, by omega, by rw [hdk1], HO6.out, HB5.out, HNE2⟩
       case measure => simp [RowKit.intOf]; omega
      ·have HAC := Lib.hid (accK_c (x := (s, v)) (show cntE es pl < k by omega) hkx)
       have hdk : decide (cntE es pl < k) = true := decide_eq_true (by omega)
       have hdk1 : decide (cntE es pl < k + 1) = true := decide_eq_true (by omega)
       rw [hdk]
       rw [if_neg (by omega)] at hal
       clear o1 o2 hrange hkx HNE ho0
       go_wp2_with fail
       refine HC.out.mono ?_
       rintro e w2 ⟨rfl, hb2⟩
       have hbw2 := hbw.trans (hb2.mono hbw.size)
       have hown2 := own_below hown hb2
       obtain ⟨c0, c1⟩ : w2.cell? ⟨b, off + k * 2, none⟩ = some (.string xs) ∧ w2.cell? ⟨b, off + k * 2 + 1, none⟩ = some (.int .i64 xv) := ⟨(hb2.cell (p := ⟨b, off + k * 2, none⟩) hb).trans f0, (hb2.cell (p := ⟨b, off + k * 2 + 1, none⟩) hb).trans f1⟩
       clear f0 f1 HC hb2 hown hbw
       go_wp2_with (at_builtin; refine wpList_append_any _ rfl (.tmp 55) (.tmp 60) 132 rfl w1.heap.size 181 i0 (.agg #[.string ⟨#[]⟩, .int .i64 0]) 2 24 Tryz.underlying132 hi0 hz0 hz1 hz2 rfl (by decide) _ _ _ rfl (hown2.alloc _) _ (some ⟨w2.heap.size, 0, none⟩) 1 1 [.string xs, .int .i64 xv] rfl (reads_of_row (row_newc _ _ 181 (by simp)) rfl (by decide)) (flatKV_oneCell [(xs, xv)]) (by unfold maxLen; omega) (by omega) (by simp; have := hbw2.size; omega) ?_; intro v' w3 hown3 hg3 _)
       have hb3 := (hbw2.alloc hbw2.size (.cells #[.string xs, .int .i64 xv] 181)).grown hg3 (by simp; have := hbw2.size; omega) (own_lt hown2)
       have hown4 : w3.ownsRow w1.heap.size 181 2 v' (accK es pl (s, v) (k + 1)).length (flatKV (accK es pl (s, v) (k + 1))) := by
        rw [HAC.out, flatKV_append, List.length_append]
        exact hown3
       have HO4 := Lib.hid hown4
       have HB3 := Lib.hid hb3
       clear hown3 hg3 hown4 hb3 hown2
       go_wp2
       go_roundw
       case rel => exact ⟨k + 1, by go_num, by omega, by rw [hdk1], HO4.out, HB3.out, HNE2⟩
       case measure => simp [RowKit.intOf]; omega
   ·obtain rfl : k = es.length := by omega
    have HN := Lib.hid (show ∀ y ∈ es, ordP y.2.2.1 pl ≠ 0 from fun y hy => by
     obtain ⟨j, hj, rfl⟩ := List.getElem_of_mem hy
     exact HNE.out j _ hj (List.getElem?_eq_getElem hj))
    by_cases hlow : es.length ≤ cntE es pl
    ·have HAC := Lib.hid (accK_end_low (x := (s, v)) hlow)
     have hdk : decide (cntE es pl < es.length) = false := decide_eq_false (by omega)
     rw [hdk]
     rw [if_pos hlow] at hal
     clear HNE
     go_wp2_with (at_builtin; refine wpList_append_any _ rfl (.tmp 64) (.tmp 68) 132 rfl w1.heap.size 181 i0 (.agg #[.string ⟨#[]⟩, .int .i64 0]) 2 24 Tryz.underlying132 hi0 hz0 hz1 hz2 rfl (by decide) _ _ _ rfl (hown.alloc _) _ (some ⟨wr.heap.size, 0, none⟩) 1 1 [.string s, .int .i64 v] rfl (reads_of_row (row_newc _ _ 181 (by simp)) rfl (by decide)) (flatKV_oneCell [(s, v)]) (by unfold maxLen; omega) (by omega) (by simp; have := hbw.size; omega) ?_; intro v' w3 hown3 hg3 _)
     have hb3 := (hbw.alloc hbw.size (.cells #[.string s, .int .i64 v] 181)).grown hg3 (by simp; have := hbw.size; omega) (own_lt hown)
     have hown4 : w3.ownsRow w1.heap.size 181 2 v' (insK es pl (s, v)).length (flatKV (insK es pl (s, v))) := by
      rw [← HAC.out, flatKV_append, List.length_append]
      exact hown3
     have HGV := Lib.hid (gives_ki (r := (pl, pa, true)) (A := A) (c := c) rfl HN.out hown4 hb1.size (hb1.trans (hb3.mono hb1.size)))
     clear hown3 hg3 hown4 hb3 hown
     go_wp2
     go_ret2
     exact HGV.out
    ·have HAC := Lib.hid (accK_end_high (x := (s, v)) (show cntE es pl < es.length by omega))
     have hdk : decide (cntE es pl < es.length) = true := decide_eq_true (by omega)
     rw [hdk]
     rw [HAC.out] at hown
     have HGV := Lib.hid (gives_ki (r := (pl, pa, true)) (A := A) (c := c) rfl HN.out hown hb1.size (hb1.trans (hbw.mono hb1.size)))
     clear HNE hown
     go_wp2
     go_ret2
     exact HGV.out
end Go.Proofs.YtiohmnhbmmhnhaaGreatDoor
namespace Go.Proofs.YtiohmnhbmmhnhaaGreatDoor
open Go.RowKit Go.Shelf Go.Lib
def ints (l : List Nat) : List Value := l.map fun n : Nat => Value.int .i64 (n : Int)
theorem ints_append (a b : List Nat) : ints (a ++ b) = ints a ++ ints b := List.map_append
theorem ints_get {l : List Nat} {k n : Nat} (h : l[k]? = some n) : (ints l)[k]? = some (.int .i64 (n : Int)) := by unfold ints; rw [List.getElem?_map, h]; rfl
theorem info_intR : (Tryz.prog.info? 3).map (fun i => (i.zero, i.size, i.bytes)) = some (some (.int .i64 0), 1, 8) := by kernel_rfl
theorem info_intsR : (Tryz.prog.info? 82).map (fun i => (i.zero, i.size, i.bytes)) = some (some (.slice none 0 0), 1, 24) := by kernel_rfl
theorem Row.int {w : World} {A : Option Addr} {l : List Nat} {k n : Nat} (h : Row w A (ints l)) (hk : l[k]? = some n) : ∃ b off, A = some ⟨b, off, none⟩ ∧ b < w.heap.size ∧ w.cell? ⟨b, off + k, none⟩ = some (.int .i64 (n : Int)) := by
 obtain ⟨b, off, e, hb, hc⟩ := h.at_ (ints_get hk)
 exact ⟨b, off, e, hb, hc _ _ (ints_get hk)⟩
theorem symTail_append (a b : List Pc) : symTail (a ++ b) = symTail a ++ symTail b := by
 induction a with
 | nil => rfl
 | cons p a ih =>
  show 47 :: (symP p ++ symTail (a ++ b)) = 47 :: (symP p ++ symTail a) ++ symTail b
  rw [ih]
  simp
theorem symTail_take {l : List Pc} {k : Nat} {p : Pc} (h : l[k]? = some p) : symTail (l.take (k + 1)) = symTail (l.take k) ++ 47 :: symP p := by
 rw [take_snoc h, symTail_append]
 show _ ++ 47 :: (symP p ++ []) = _
 rw [List.append_nil]
theorem symP_len (p : Pc) : (symP p).length ≤ p.2.size + 1 := by
 unfold symP
 split
 ·simp
 ·split
  ·simp
  ·rw [bl_length]; omega
theorem symTail_len : ∀ l : List Pc, (symTail l).length ≤ 2 * totP l
 | [] => Nat.zero_le _
 | p :: l => by
  have h1 := symP_len p
  have h2 := symTail_len l
  show (symP p ++ symTail l).length + 1 ≤ _
  rw [List.length_append, totP_cons]
  omega
theorem symTail_take_len (l : List Pc) (k : Nat) : (symTail (l.take k)).length ≤ (symTail l).length := by
 have h := symTail_append (l.take k) (l.drop k)
 rw [List.take_append_drop] at h
 rw [h, List.length_append]
 omega
def GivesSym (w : World) (l : List Nat) (e : Ending) (w' : World) : Prop :=
 ∃ A c, e = .returned (.slice A l.length c) ∧ w'.ownsRow w.heap.size 3 1 (.slice A l.length c) l.length (ints l) ∧ Below w.heap.size w w'
theorem gives_sym {w w' : World} {l : List Nat} {v : Value} {n : Nat} (hn : w.heap.size ≤ n) (ho : w'.ownsRow n 3 1 v l.length (ints l)) (hb : Below w.heap.size w w') : GivesSym w l (.returned v) w' := by
 obtain ⟨A, c, rfl⟩ := own_slice ho
 exact ⟨A, c, rfl, own_less ho hn, hb⟩
theorem own_more {w3 : World} {n : Nat} {v : Value} {acc acc' : List Nat} {x : Nat} (h : acc' = acc ++ [x]) (ho : w3.ownsRow n 3 1 v (acc.length + 1) (ints acc ++ [.int .i64 (x : Int)])) : w3.ownsRow n 3 1 v acc'.length (ints acc') := by
 rw [h, ints_append, List.length_append]
 exact ho
theorem bl_get {s : ByteArray} {j n : Nat} (h : (bl s)[j]? = some n) : bt s j = (n : Int) := by
 unfold bl at h
 rw [List.getElem?_map, Option.map_eq_some_iff] at h
 obtain ⟨u, hu, rfl⟩ := h
 unfold bt
 rw [List.getD_eq_getElem?_getD, hu]
 rfl
theorem own_mid {w3 : World} {n m : Nat} {v : Value} {acc : List Nat} {x y : Nat} (ho : w3.ownsRow n 3 1 v (m + 1 + 1) (ints acc ++ [.int .i64 (x : Int)] ++ [.int .i64 (y : Int)])) (hm : m = acc.length := by rfl) : w3.ownsRow n 3 1 v ((acc ++ [x]).length + 1) (ints (acc ++ [x]) ++ [.int .i64 (y : Int)]) := by
 rw [ints_append, List.length_append]
 subst hm
 exact ho
set_option maxRecDepth 20000 in
set_option maxHeartbeats 8000000 in
theorem symbols_any (s : ByteArray) (w : World) (hg : (splitP s).2.2 = true) :
  Calls Tryz.prog 108 #[.string s] w (GivesSym w (rowP (splitP s).1)) := by
 obtain ⟨i0, hi0, hz0, hz1, hz2⟩ := info_parts info_intR
 obtain ⟨h1, _, h3, _, h5, _⟩ := split_wf hg
 have HPC := Lib.hid (fun W => rPieces_any s W (by omega))
 have hrp : rPieces s = (splitP s).1 := (split_segs hg).symm
 rw [hrp] at HPC
 have hkd : ∀ p ∈ (splitP s).1, p.1 = 0 ∨ p.1 = 1 ∨ p.1 = 2 := fun p hp => (h1 p hp).1
 unfold rowP
 have hsl := symTail_len (splitP s).1
 have hpl := totP_len (splitP s).1
 clear hrp h1 hg
 generalize (splitP s).1 = l at *
 have HTL := Lib.hid (symTail_take_len l)
 have HTK := Lib.hid (fun k p h => @symTail_take l k p h)
 have HKD := Lib.hid hkd
 clear hkd
 go_enter Tryz.func108, Tryz.ntmps108
 have hb0 := (Below.refl w.heap.size w).alloc (Nat.le_refl _) (.cells #[] 3)
 have hown0 : (w.alloc (.cells #[] 3)).ownsRow w.heap.size 3 1 (.slice (some ⟨w.heap.size, 0, none⟩) 0 0) 0 [] := World.ownsRow_lit w #[] 0 (Nat.le_refl _) (by unfold maxLen; omega) rfl
 go_wp2_with fail
 refine (HPC.out _).mono ?_
 rintro e w1 ⟨PA, pc, rfl, hop, hb1⟩
 have hbw1 := hb0.trans (hb1.mono hb0.size)
 have hop1 := own_less hop hb0.size
 have hown1 := own_below hown0 hb1
 clear hop hb1 hown0 hb0 HPC
 go_wp2
 go_loopw [3, 5] (fun r i wr => ∃ k : Nat, k ≤ l.length ∧ i = .int .i64 (k : Int) ∧ wr.ownsRow w.heap.size 3 1 r (symTail (l.take k)).length (ints (symTail (l.take k))) ∧ wr.ownsRow w.heap.size 175 2 (.slice PA l.length pc) l.length (flatP l) ∧ Below w.heap.size w wr) (fun _ i _ => l.length - (RowKit.intOf i).toNat)
 case atStart => exact ⟨0, by omega, rfl, hown1, hop1, hbw1⟩
 case round =>
  clear hown1 hop1 hbw1
  obtain ⟨k, hk, rfl, hown, hop, hbw⟩ := hrel
  have htk := HTL.out k
  by_cases hlt : k < l.length
  ·obtain ⟨⟨x, y⟩, hx⟩ := some_of_lt hlt
   have hkI : (k : Int) < (l.length : Int) := by omega
   have HX := Lib.hid hx
   have HTS := Lib.hid (HTK.out k _ hx)
   have htk1 := HTL.out (k + 1)
   have hkk := HKD.out _ (List.mem_of_getElem? hx)
   dsimp only at hkk
   clear hx
   generalize hac : symTail (l.take k) = acc at *
   clear hac
   rcases hkk with rfl | rfl | rfl
   ·have HTS2 := Lib.hid (show symTail (l.take (k + 1)) = acc ++ 47 :: bl y by rw [HTS.out]; rfl)
    have hlen : acc.length + 1 + y.size ≤ (symTail l).length := by
     have := htk1
     rw [HTS2.out, List.length_append, List.length_cons, bl_length] at this
     omega
    clear HTS htk1
    go_wp2_with (at_builtin; refine wpList_append_any _ rfl (.tmp 16) (.tmp 17) 82 rfl w.heap.size 3 i0 (.int .i64 0) 1 8 Tryz.underlying82 hi0 hz0 hz1 hz2 rfl (by decide) _ _ _ rfl (hown.alloc _) _ (some ⟨wr.heap.size, 0, none⟩) 1 1 [.int .i64 47] rfl (reads_of_row (row_newc _ _ 3 (by simp)) rfl (by decide)) (by intro u hu; simp at hu; rw [hu]; rfl) (by unfold maxLen; omega) (by omega) (by simp; have := hbw.size; omega) ?_; intro v1 w3 hown3 hg3 _; have hb3 := (hbw.alloc hbw.size (.cells #[.int .i64 47] 3)).grown hg3 (by simp; have := hbw.size; omega) (own_lt hown); have hop3 := own_other (hop.alloc (.cells #[.int .i64 47] 3)) hg3 (apart_types (hown.alloc (.cells #[.int .i64 47] 3)) (hop.alloc (.cells #[.int .i64 47] 3)) (by decide)); obtain ⟨b3, off3, rfl, hbl3, d0, d1⟩ := (own_row hop3).pc HX.out; clear hop hg3)
    have hown4 : w3.ownsRow w.heap.size 3 1 v1 (acc ++ [47]).length (ints (acc ++ [47])) := own_more rfl hown3
    have hlen2 : (acc ++ [47]).length + y.size ≤ (symTail l).length := by rw [List.length_append]; exact hlen
    have HTS3 := Lib.hid (show symTail (l.take (k + 1)) = acc ++ [47] ++ bl y by rw [HTS2.out]; simp)
    clear hown hown3 HTS2 hlen
    generalize acc ++ [47] = acc2 at *
    clear d0 d1
    go_loopw [3, 6] (fun r i wr => ∃ j : Nat, j ≤ y.size ∧ i = .int .i64 (j : Int) ∧ wr.ownsRow w.heap.size 3 1 r (acc2 ++ (bl y).take j).length (ints (acc2 ++ (bl y).take j)) ∧ wr.ownsRow w.heap.size 175 2 (.slice (some ⟨b3, off3, none⟩) l.length pc) l.length (flatP l) ∧ Below w.heap.size w wr) (fun _ i _ => y.size - (RowKit.intOf i).toNat)
    case atStart => exact ⟨0, by omega, rfl, by rw [List.take_zero, List.append_nil]; exact hown4, hop3, hb3⟩
    case round =>
     clear hown4 hop3 hb3
     obtain ⟨j, hj, rfl, hown, hop, hbw⟩ := hrel
     obtain ⟨b4, off4, he4, hbl4, c0, c1⟩ := (own_row hop).pc HX.out
     cases he4
     by_cases hjl : j < y.size
     ·have hjI : (j : Int) < (y.size : Int) := by omega
      obtain ⟨n, hn⟩ := some_of_lt (show j < (bl y).length by rw [bl_length]; exact hjl)
      have hbt := @bt_eq y j hjl
      have hbn : bt y j = (n : Int) := bl_get hn
      have hn256 : n < 256 := bl_lt (List.mem_of_getElem? hn)
      rw [hbn] at hbt
      have HTJ := Lib.hid (show acc2 ++ (bl y).take (j + 1) = acc2 ++ (bl y).take j ++ [n] by rw [take_snoc hn, List.append_assoc])
      have hzz : (acc2 ++ (bl y).take j).length ≤ acc2.length + j := by rw [List.length_append, List.length_take]; omega
      clear hn hbn
      generalize acc2 ++ (bl y).take j = acc3 at *
      go_wp2_with (at_builtin; refine wpList_append_any _ rfl (.tmp 47) (.tmp 56) 82 rfl w.heap.size 3 i0 (.int .i64 0) 1 8 Tryz.underlying82 hi0 hz0 hz1 hz2 rfl (by decide) _ _ _ rfl (hown.alloc _) _ (some ⟨wr.heap.size, 0, none⟩) 1 1 [.int .i64 (n : Int)] rfl (reads_of_row (row_newc _ _ 3 (by simp)) rfl (by decide)) (by intro u hu; simp at hu; rw [hu]; rfl) (by unfold maxLen; omega) (by omega) (by simp; have := hbw.size; omega) ?_; intro v5 w5 hown5 hg5 _)
      have hb5 := (hbw.alloc hbw.size (.cells #[.int .i64 (n : Int)] 3)).grown hg5 (by simp; have := hbw.size; omega) (own_lt hown)
      have hop5 := own_other (hop.alloc (.cells #[.int .i64 (n : Int)] 3)) hg5 (apart_types (hown.alloc (.cells #[.int .i64 (n : Int)] 3)) (hop.alloc (.cells #[.int .i64 (n : Int)] 3)) (by decide))
      have HO5 := Lib.hid (own_more HTJ.out hown5)
      have HB5 := Lib.hid hb5
      have HP5 := Lib.hid hop5
      clear hown hop hbw hown5 hg5 hb5 hop5 c0 c1
      go_wp2
      go_roundw
      case rel => exact ⟨j + 1, by omega, by go_num, HO5.out, HP5.out, HB5.out⟩
      case measure => simp [RowKit.intOf]; omega
     ·obtain rfl : j = y.size := by omega
      rw [List.take_of_length_le (by rw [bl_length]; exact Nat.le_refl _)] at hown
      have HO := Lib.hid hown
      have HP := Lib.hid hop
      clear hown hop
      go_wp2
      go_roundw
      case rel => exact ⟨k + 1, by omega, by go_num, by rw [HTS3.out]; exact HO.out, HP.out, hbw⟩
      case measure => simp [RowKit.intOf]; omega
   ·have HTS2 := Lib.hid (show symTail (l.take (k + 1)) = acc ++ [47] ++ [1000] by rw [HTS.out]; simp [symP])
    have hlen : acc.length + 2 ≤ (symTail l).length := by
     have := htk1
     rw [HTS2.out, List.length_append, List.length_append] at this
     simp at this
     omega
    clear HTS htk1
    go_wp2_with (first | (at_builtin; refine wpList_append_any _ rfl (.tmp 16) (.tmp 17) 82 rfl w.heap.size 3 i0 (.int .i64 0) 1 8 Tryz.underlying82 hi0 hz0 hz1 hz2 rfl (by decide) _ _ _ rfl (hown.alloc _) _ (some ⟨wr.heap.size, 0, none⟩) 1 1 [.int .i64 47] rfl (reads_of_row (row_newc _ _ 3 (by simp)) rfl (by decide)) (by intro u hu; simp at hu; rw [hu]; rfl) (by unfold maxLen; omega) (by omega) (by simp; have := hbw.size; omega) ?_; intro v1 w3 hown3 hg3 _; have hb3 := (hbw.alloc hbw.size (.cells #[.int .i64 47] 3)).grown hg3 (by simp; have := hbw.size; omega) (own_lt hown); have hop3 := own_other (hop.alloc (.cells #[.int .i64 47] 3)) hg3 (apart_types (hown.alloc (.cells #[.int .i64 47] 3)) (hop.alloc (.cells #[.int .i64 47] 3)) (by decide)); obtain ⟨b3, off3, rfl, hbl3, d0, d1⟩ := (own_row hop3).pc HX.out; clear hown hop hg3) | (at_builtin; refine wpList_append_any _ rfl (.tmp 25) (.tmp 26) 82 rfl w.heap.size 3 i0 (.int .i64 0) 1 8 Tryz.underlying82 hi0 hz0 hz1 hz2 rfl (by decide) _ _ _ rfl (hown3.alloc _) _ (some ⟨w3.heap.size, 0, none⟩) 1 1 [.int .i64 1000] rfl (reads_of_row (row_newc _ _ 3 (by simp)) rfl (by decide)) (by intro u hu; simp at hu; rw [hu]; rfl) (by unfold maxLen; omega) (by omega) (by simp; have := hb3.size; omega) ?_; intro v5 w5 hown5 hg5 _))
    have hb5 := (hb3.alloc hb3.size (.cells #[.int .i64 1000] 3)).grown hg5 (by simp; have := hb3.size; omega) (own_lt hown3)
    have hop5 := own_other (hop3.alloc (.cells #[.int .i64 1000] 3)) hg5 (apart_types (hown3.alloc (.cells #[.int .i64 1000] 3)) (hop3.alloc (.cells #[.int .i64 1000] 3)) (by decide))
    have HO5 := Lib.hid (own_more (acc := acc ++ [47]) HTS2.out (own_mid hown5))
    have HB5 := Lib.hid hb5
    have HP5 := Lib.hid hop5
    clear hown3 hop3 hb3 hown5 hg5 hb5 hop5
    go_wp2
    go_roundw
    case rel => exact ⟨k + 1, by omega, by go_num, HO5.out, HP5.out, HB5.out⟩
    case measure => simp [RowKit.intOf]; omega
   ·have HTS2 := Lib.hid (show symTail (l.take (k + 1)) = acc ++ [47] ++ [1001] by rw [HTS.out]; simp [symP])
    have hlen : acc.length + 2 ≤ (symTail l).length := by
     have := htk1
     rw [HTS2.out, List.length_append, List.length_append] at this
     simp at this
     omega
    clear HTS htk1
    go_wp2_with (first | (at_builtin; refine wpList_append_any _ rfl (.tmp 16) (.tmp 17) 82 rfl w.heap.size 3 i0 (.int .i64 0) 1 8 Tryz.underlying82 hi0 hz0 hz1 hz2 rfl (by decide) _ _ _ rfl (hown.alloc _) _ (some ⟨wr.heap.size, 0, none⟩) 1 1 [.int .i64 47] rfl (reads_of_row (row_newc _ _ 3 (by simp)) rfl (by decide)) (by intro u hu; simp at hu; rw [hu]; rfl) (by unfold maxLen; omega) (by omega) (by simp; have := hbw.size; omega) ?_; intro v1 w3 hown3 hg3 _; have hb3 := (hbw.alloc hbw.size (.cells #[.int .i64 47] 3)).grown hg3 (by simp; have := hbw.size; omega) (own_lt hown); have hop3 := own_other (hop.alloc (.cells #[.int .i64 47] 3)) hg3 (apart_types (hown.alloc (.cells #[.int .i64 47] 3)) (hop.alloc (.cells #[.int .i64 47] 3)) (by decide)); obtain ⟨b3, off3, rfl, hbl3, d0, d1⟩ := (own_row hop3).pc HX.out; clear hown hop hg3) | (at_builtin; refine wpList_append_any _ rfl (.tmp 34) (.tmp 35) 82 rfl w.heap.size 3 i0 (.int .i64 0) 1 8 Tryz.underlying82 hi0 hz0 hz1 hz2 rfl (by decide) _ _ _ rfl (hown3.alloc _) _ (some ⟨w3.heap.size, 0, none⟩) 1 1 [.int .i64 1001] rfl (reads_of_row (row_newc _ _ 3 (by simp)) rfl (by decide)) (by intro u hu; simp at hu; rw [hu]; rfl) (by unfold maxLen; omega) (by omega) (by simp; have := hb3.size; omega) ?_; intro v5 w5 hown5 hg5 _))
    have hb5 := (hb3.alloc hb3.size (.cells #[.int .i64 1001] 3)).grown hg5 (by simp; have := hb3.size; omega) (own_lt hown3)
    have hop5 := own_other (hop3.alloc (.cells #[.int .i64 1001] 3)) hg5 (apart_types (hown3.alloc (.cells #[.int .i64 1001] 3)) (hop3.alloc (.cells #[.int .i64 1001] 3)) (by decide))
    have HO5 := Lib.hid (own_more (acc := acc ++ [47]) HTS2.out (own_mid hown5))
    have HB5 := Lib.hid hb5
    have HP5 := Lib.hid hop5
    clear hown3 hop3 hb3 hown5 hg5 hb5 hop5
    go_wp2
    go_roundw
    case rel => exact ⟨k + 1, by omega, by go_num, HO5.out, HP5.out, HB5.out⟩
    case measure => simp [RowKit.intOf]; omega
  ·obtain rfl : k = l.length := by omega
   rw [List.take_length] at hown
   have HO := Lib.hid hown
   clear hown hop
   go_wp2
   go_ret
   exact gives_sym (Nat.le_refl _) HO.out hbw
set_option maxRecDepth 20000 in
set_option maxHeartbeats 4000000 in
theorem rcommon_any (A : Option Addr) (c : Nat) (x : List Nat) (B : Option Addr) (d : Nat) (y : List Nat) (w : World) (hx : Row w A (ints x)) (hy : Row w B (ints y)) (hxl : x.length ≤ 4194304) (hyl : y.length ≤ 4194304) :
  Calls Tryz.prog 109 #[.slice A x.length c, .slice B y.length d] w fun e w' => e = .returned (.int .i64 (comN x y : Nat)) ∧ Drawn w w' := by
 have HX := Lib.hid hx
 have HY := Lib.hid hy
 clear hx hy
 go_enter Tryz.func109, Tryz.ntmps109
 go_wp2
 go_loopw [5] (fun i wr => ∃ k : Nat, k ≤ x.length ∧ k ≤ y.length ∧ i = .int .i64 (k : Int) ∧ Hid (∀ j, j < k → x[j]? = y[j]?) ∧ Hid (Drawn w wr)) (fun i _ => x.length - (RowKit.intOf i).toNat)
 case atStart => exact ⟨0, by omega, by omega, rfl, Lib.hid (fun j h => absurd h (Nat.not_lt_zero _)), Lib.hid (Drawn.refl _)⟩
 case round =>
  obtain ⟨k, hk1, hk2, rfl, HE, HD⟩ := hrel
  by_cases hlx : k < x.length
  ·have hdx : decide (k < x.length) = true := decide_eq_true hlx
   by_cases hly : k < y.length
   ·have hdy : decide (k < y.length) = true := decide_eq_true hly
    obtain ⟨a, ha⟩ := some_of_lt hlx
    obtain ⟨b, hb⟩ := some_of_lt hly
    obtain ⟨ba, oa, rfl, hba, ca⟩ := (HX.out.below HD.out.below).int ha
    obtain ⟨bb, ob, rfl, hbb, cb⟩ := (HY.out.below HD.out.below).int hb
    have hlxI : (k : Int) < (x.length : Int) := by omega
    have hlyI : (k : Int) < (y.length : Int) := by omega
    by_cases hab : a = b
    ·subst hab
     have HE2 : Hid (∀ j, j < k + 1 → x[j]? = y[j]?) := Lib.hid (fun j hj => by
      rcases Nat.lt_or_ge j k with h | h
      ·exact HE.out j h
      ·obtain rfl : j = k := by omega
       rw [ha, hb])
     have hq : ((a : Int) == (a : Int)) = true := by simp
     clear ha hb HE
     go_wp2_with fail
     go_quiet (fail)
     go_wp2
     go_roundw
     case rel => exact ⟨k + 1, by omega, by omega, by go_num, HE2, Lib.hid (HD.out.drew _)⟩
     case measure => simp [RowKit.intOf]; omega
    ·have hq : ((a : Int) == (b : Int)) = false := by simp; omega
     have HV := Lib.hid (show comN x y = k from comN_eq hk1 hk2 HE.out (.inr (.inr (by rw [ha, hb]; intro e; exact hab (Option.some.inj e)))))
     clear ha hb HE hab
     go_wp2_with fail
     go_quiet (fail)
     go_wp2
     go_ret
     exact ⟨ret_int (by rw [HV.out]), HD.out.drew _⟩
   ·have hdy : decide (k < y.length) = false := decide_eq_false hly
    have HV := Lib.hid (show comN x y = k from comN_eq hk1 hk2 HE.out (.inr (.inl (by omega))))
    clear HE
    go_wp2_with fail
    go_quiet (fail)
    go_wp2
    go_ret
    exact ⟨ret_int (by rw [HV.out]), HD.out.drew _⟩
  ·have hdx : decide (k < x.length) = false := decide_eq_false hlx
   have HV := Lib.hid (show comN x y = k from comN_eq hk1 hk2 HE.out (.inl (by omega)))
   clear HE
   go_wp2_with fail
   go_quiet (fail)
   go_wp2
   go_ret
   exact ⟨ret_int (by rw [HV.out]), HD.out.drew _⟩
end Go.Proofs.YtiohmnhbmmhnhaaGreatDoor
namespace Go.Proofs.YtiohmnhbmmhnhaaGreatDoor
open Go.RowKit Go.Shelf Go.Lib
def TabAt (w : World) (OA : Option Addr) (rows : List (List Nat)) : Prop := ∃ vals : List Value, Row w OA vals ∧ ∀ (i : Nat) x, rows[i]? = some x → ∃ UA uc, vals[i]? = some (.slice UA x.length uc) ∧ Row w UA (ints x)
theorem TabAt.below {w w' : World} {OA : Option Addr} {rows : List (List Nat)} (h : TabAt w OA rows) (hb : Below w.heap.size w w') : TabAt w' OA rows := by
 obtain ⟨vals, h1, h2⟩ := h
 refine ⟨vals, h1.below hb, fun i x hx => ?_⟩
 obtain ⟨UA, uc, h3, h4⟩ := h2 i x hx
 exact ⟨UA, uc, h3, h4.below hb⟩
theorem TabAt.at_ {w : World} {OA : Option Addr} {rows : List (List Nat)} (h : TabAt w OA rows) {i : Nat} {x : List Nat} (hx : rows[i]? = some x) : ∃ b off UA uc, OA = some ⟨b, off, none⟩ ∧ b < w.heap.size ∧ w.cell? ⟨b, off + i, none⟩ = some (.slice UA x.length uc) ∧ Row w UA (ints x) := by
 obtain ⟨vals, h1, h2⟩ := h
 obtain ⟨UA, uc, h3, h4⟩ := h2 i x hx
 obtain ⟨b, off, e, hb, hc⟩ := h1.at_ h3
 exact ⟨b, off, UA, uc, e, hb, hc _ _ h3, h4⟩
theorem TabAt.of_tab {w : World} {base n : Nat} {OA : Option Addr} {oc : Nat} {vals : List Value} {ps : List (Value × List Nat)} {rows : List (List Nat)} (h : TabG ints 82 3 1 w base (.slice OA n oc) vals ps) (hv : ps.map (·.1) = vals) (hp : ps.map (·.2) = rows) : TabAt w OA rows := by
 refine ⟨vals, ?_, fun i x hx => ?_⟩
 ·have ho := h.own
  obtain ⟨A, c, e⟩ := own_slice ho
  injection e with e1 e2 e3
  subst e1 e2 e3
  exact own_row ho
 ·rw [← hp, List.getElem?_map, Option.map_eq_some_iff] at hx
  obtain ⟨⟨u, x'⟩, hx, rfl⟩ := hx
  have ho := h.at_ hx
  obtain ⟨A, c, rfl⟩ := own_slice ho
  exact ⟨A, c, by rw [← hv, List.getElem?_map, hx]; rfl, own_row ho⟩
def is0 (x : List Nat) (n : Nat) : Bool := decide (n = x.length) || (decide (1000 ≤ x.getD (n - 1) 0) || decide (1000 ≤ x.getD n 0))
def pj (rows : List (List Nat)) (x : List Nat) (i n j : Nat) : Bool := decide (comN x (rows.getD j []) = n) && (decide ((rows.getD j []).length = n) || !decide (j = i))
def isTo (rows : List (List Nat)) (x : List Nat) (i n j : Nat) : Bool := is0 x n || (List.range j).any (pj rows x i n)
theorem isTo_zero (rows : List (List Nat)) (x : List Nat) (i n : Nat) : isTo rows x i n 0 = is0 x n := by unfold isTo; simp
theorem isTo_succ (rows : List (List Nat)) (x : List Nat) (i n j : Nat) : isTo rows x i n (j + 1) = (isTo rows x i n j || pj rows x i n j) := by
 unfold isTo
 rw [List.range_succ, List.any_append, ← Bool.or_assoc]
 simp
theorem isTo_up {rows : List (List Nat)} {x : List Nat} {i n j : Nat} (h : isTo rows x i n j = true) : ∀ d, isTo rows x i n (j + d) = true
 | 0 => h
 | d + 1 => by rw [← Nat.add_assoc, isTo_succ, isTo_up h d]; rfl
theorem isN_to {rows : List (List Nat)} {i n : Nat} {x : List Nat} (hx : rows[i]? = some x) : isN rows i n = isTo rows x i n rows.length := by
 unfold isN isTo is0
 rw [hx, Bool.or_assoc, Bool.or_assoc]
 rfl
def allTo (rows : List (List Nat)) (x : List Nat) (n j : Nat) : Bool := (List.range j).all fun j => decide (comN x (rows.getD j []) < n)
theorem allTo_succ (rows : List (List Nat)) (x : List Nat) (n j : Nat) : allTo rows x n (j + 1) = (allTo rows x n j && decide (comN x (rows.getD j []) < n)) := by
 unfold allTo
 rw [List.range_succ, List.all_append]
 simp
theorem firstN_to {rows : List (List Nat)} {i n : Nat} {x : List Nat} (hx : rows[i]? = some x) : firstN rows i n = allTo rows x n i := by
 unfold firstN allTo
 rw [getD_some hx]
theorem cntN_small (rows : List (List Nat)) (i : Nat) : ∀ n, n ≤ 2 → cntN rows i n = 0
 | 0, _ => rfl
 | n + 1, h => by
  unfold cntN
  rw [cntN_small rows i n (by omega), if_neg (by unfold hitB; rw [decide_eq_false (show ¬ 2 ≤ n by omega)]; simp)]
theorem cntN_le (rows : List (List Nat)) (i : Nat) : ∀ n, cntN rows i n ≤ n
 | 0 => Nat.le_refl _
 | n + 1 => by
  have := cntN_le rows i n
  unfold cntN
  split <;> omega
theorem totN_le {rows : List (List Nat)} {M : Nat} (h : ∀ x ∈ rows, x.length ≤ M) : ∀ i, totN rows i ≤ 1 + i * (M + 1)
 | 0 => by unfold totN; omega
 | i + 1 => by
  have h1 := totN_le h i
  have h2 := cntN_le rows i ((rows.getD i []).length + 1)
  have h3 : (rows.getD i []).length ≤ M := by
   rw [List.getD_eq_getElem?_getD]
   cases e : rows[i]? with
   | none => exact Nat.zero_le _
   | some x => exact h x (List.mem_of_getElem? e)
  unfold totN
  rw [Nat.succ_mul]
  omega
theorem rows_small {es : List En} (hg : GoodE es) : ∀ x ∈ (pcsE es).map rowP, x.length ≤ 2048 := fun x hx => by
 obtain ⟨l, hl, rfl⟩ := List.mem_map.1 hx
 obtain ⟨y, hy, rfl⟩ := List.mem_map.1 hl
 have h1 := symTail_len y.2.2.1
 have h2 := (hg.wf hy).2.2.1
 have h3 := (split_wf (s := y.1) (by rw [hg.pcs y hy])).2.2.2.2.1
 unfold rowP
 omega
set_option maxRecDepth 100000 in
set_option maxHeartbeats 16000000 in
theorem rNodes_any (A : Option Addr) (c : Nat) (es : List En) (w : World) (hr : Row w A (flatKV (keptE es))) (hg : GoodE es) (hl : es.length ≤ 4194304) :
  Calls Tryz.prog 69 #[.slice A es.length c] w fun e w' => e = .returned (.int .i64 (nodesE es : Nat)) ∧ Below w.heap.size w w' := by
 obtain ⟨i0, hi0, hz0, hz1, hz2⟩ := info_parts info_intsR
 have HNR := Lib.hid (show nodesR ((pcsE es).map rowP) = nodesE es from nodes_ref (pcsE es) fun l hl => by
  obtain ⟨x, hx, rfl⟩ := List.mem_map.1 hl
  exact ⟨(hg.wf hx).2.2.2, fun p hp => ((hg.wf hx).1 p hp).1⟩)
 have HSM := Lib.hid (rows_small hg)
 have HSY := Lib.hid (fun W (x : En) (hx : x ∈ es) => symbols_any x.1 W (by rw [hg.pcs x hx]))
 have HRG := Lib.hid (fun (k : Nat) (x : En) (hx : es[k]? = some x) => (show ((pcsE es).map rowP)[k]? = some (rowP (splitP x.1).1) by
  rw [List.getElem?_map, pcsE_get hx, hg.pcs x (List.mem_of_getElem? hx)]
  rfl))
 have hrl : ((pcsE es).map rowP).length = es.length := by rw [List.length_map]; exact List.length_map _
 have HR := Lib.hid hr
 generalize (pcsE es).map rowP = rows at *
 have HRL := Lib.hid hrl
 clear hr hg hrl
 go_enter Tryz.func69, Tryz.ntmps69
 go_wp2
 go_loopw [3, 4] (fun r i wr => ∃ (k : Nat) (vals : List Value) (ps : List (Value × List Nat)), k ≤ es.length ∧ i = .int .i64 (k : Int) ∧ Hid (TabG ints 82 3 1 wr w.heap.size r vals ps) ∧ Hid (ps.map (·.1) = vals) ∧ Hid (ps.map (·.2) = rows.take k) ∧ Hid (vals.length = k) ∧ Below w.heap.size w wr) (fun _ i _ => es.length - (RowKit.intOf i).toNat)
 case atStart => exact ⟨0, [], [], by omega, rfl, Lib.hid (TabG.start w w.heap.size (Nat.le_refl _)), Lib.hid rfl, Lib.hid (by simp), Lib.hid rfl, (Below.refl _ _).alloc (Nat.le_refl _) _⟩
 case round =>
  obtain ⟨k, vals, ps, hk, rfl, HT, HV, HP, HVL, hbw⟩ := hrel
  have hvz : vals.length ≤ 4194304 := by have := HVL.out; omega
  obtain ⟨TA, tc, htv⟩ := own_slice HT.out.own
  subst htv
  by_cases hlt : k < es.length
  ·obtain ⟨x, hx⟩ := some_of_lt hlt
   have hkI : (k : Int) < (es.length : Int) := by omega
   have hmem := List.mem_of_getElem? hx
   obtain ⟨b, off, rfl, hb, f0, f1⟩ := (HR.out.below hbw).kv (keptE_get hx)
   have HS := Lib.hid (HSY.out wr x hmem)
   have HROW := Lib.hid (HRG.out k x hx)
   dsimp only at f0 f1
   generalize x.1 = xp at *
   generalize rowP (splitP xp).1 = row at *
   clear hx hmem f1
   go_wp2_with fail
   refine HS.out.mono ?_
   rintro e w2 ⟨SA, sc, rfl, hos, hb2⟩
   have HT2 := Lib.hid (HT.out.pend hb2 hos hbw.size)
   have hbw2 := hbw.trans (hb2.mono hbw.size)
   clear hos hb2 f0 HS
   have hto : w2.ownsRow w.heap.size 82 1 (.slice TA vals.length tc) vals.length vals := HT2.out.own
   go_wp2_with (at_builtin; refine wpList_append_any _ rfl (.tmp 20) (.tmp 27) 182 rfl w.heap.size 82 i0 (.slice none 0 0) 1 24 Tryz.underlying182 hi0 hz0 hz1 hz2 rfl (by decide) _ _ _ rfl (hto.alloc _) _ (some ⟨w2.heap.size, 0, none⟩) 1 1 [.slice SA row.length sc] rfl (reads_of_row (row_newc _ _ 82 (by simp)) rfl (by decide)) (by intro u hu; simp at hu; rw [hu]; rfl) (by unfold maxLen; omega) (by omega) (by simp; have := hbw2.size; omega) ?_; intro v' w3 hown3 hg3 _)
   have hb3 := (hbw2.alloc hbw2.size (.cells #[.slice SA row.length sc] 82)).grown hg3 (by simp; have := hbw2.size; omega) (own_lt hto)
   have HT3 := Lib.hid ((HT2.out.alloc (.cells #[.slice SA row.length sc] 82)).grow (by decide) hg3 (v' := v') (vals' := vals ++ [.slice SA row.length sc]) (by rw [List.length_append]; exact hown3))
   have HV3 := Lib.hid (show (ps ++ [(Value.slice SA row.length sc, row)]).map (·.1) = vals ++ [.slice SA row.length sc] by rw [List.map_append, HV.out]; rfl)
   have HP3 := Lib.hid (show (ps ++ [(Value.slice SA row.length sc, row)]).map (·.2) = rows.take (k + 1) by rw [List.map_append, HP.out, take_snoc HROW.out]; rfl)
   have HB3 := Lib.hid hb3
   clear hto hown3 hg3 hb3
   go_wp2
   go_roundw
   case rel => exact ⟨k + 1, _, _, by omega, by go_num, HT3, HV3, HP3, Lib.hid (by rw [List.length_append, HVL.out]; rfl), HB3.out⟩
   case measure => simp [RowKit.intOf]; omega
  ·obtain rfl : k = es.length := by omega
   have hPs := HP.out
   rw [List.take_of_length_le (by rw [HRL.out]; exact Nat.le_refl _)] at hPs
   have HTA := Lib.hid (TabAt.of_tab HT.out HV.out hPs)
   have hvl := HVL.out
   have hrle := HRL.out
   have hrz : rows.length ≤ 4194304 := by omega
   have hvr : vals.length = rows.length := by omega
   clear HT HV HP hPs HSY HRG HR hk hlt hvl hrle hvz HVL HRL
   obtain ⟨w1, rfl⟩ : ∃ w1 : World, w1 = wr := ⟨_, rfl⟩
   generalize vals.length = vn at *
   subst hvr
   have HTN := Lib.hid (fun i => @totN_le rows 2048 HSM.out i)
   have HCN := Lib.hid (cntN_le rows)
   go_wp2
   go_loopw [5, 6] (fun nv i wr => ∃ k : Nat, k ≤ rows.length ∧ i = .int .i64 (k : Int) ∧ nv = .int .i64 (totN rows k : Nat) ∧ Hid (Drawn w1 wr)) (fun _ i _ => rows.length - (RowKit.intOf i).toNat)
   case atStart => exact ⟨0, by omega, rfl, rfl, Lib.hid (Drawn.refl _)⟩
   case round =>
    obtain ⟨i, hi, rfl, rfl, HD⟩ := hrel
    have htn := HTN.out i
    by_cases hil : i < rows.length
    ·obtain ⟨x, hx⟩ := some_of_lt hil
     have hiI : (i : Int) < (rows.length : Int) := by omega
     have hxz := HSM.out x (List.mem_of_getElem? hx)
     have HX := Lib.hid hx
     have HTT := Lib.hid (show totN rows (i + 1) = totN rows i + cntN rows i (x.length + 1) by
      show totN rows i + cntN rows i ((rows.getD i []).length + 1) = _
      rw [getD_some hx])
     have hcs := cntN_small rows i 2 (Nat.le_refl _)
     clear hx
     generalize totN rows i = ti at *
     obtain ⟨wo, rfl⟩ : ∃ wo : World, wo = wr := ⟨_, rfl⟩
     go_wp2
     go_loopw [5, 7] (fun nv m wr => ∃ n : Nat, 2 ≤ n ∧ n ≤ x.length + 2 ∧ (2 < n → n ≤ x.length + 1) ∧ m = .int .i64 (n : Int) ∧ nv = .int .i64 ((ti + cntN rows i n : Nat) : Int) ∧ Hid (Drawn w1 wr)) (fun _ m _ => x.length + 2 - (RowKit.intOf m).toNat)
     case atStart => exact ⟨2, by omega, by omega, fun h => absurd h (by omega), rfl, by rw [hcs]; rfl, HD⟩
     case round =>
      clear hcs HD
      obtain ⟨n, hn2, hnl, hnx, rfl, rfl, HD⟩ := hrel
      have hcn := HCN.out i n
      obtain ⟨b, off, UA, uc, rfl, hb, hcW, hxrW⟩ := HTA.out.at_ HX.out
      have HBW := Lib.hid hb
      have HCW := Lib.hid hcW
      have HXW := Lib.hid hxrW
      have hc := (HD.out.below.cell (p := ⟨b, off + i, none⟩) hb).trans hcW
      have HXR := Lib.hid (hxrW.below HD.out.below)
      clear hcW hxrW hb
      by_cases hle : n ≤ x.length
      ·have hleI : (n : Int) ≤ (x.length : Int) := by omega
       obtain ⟨a, ha⟩ := some_of_lt (show n - 1 < x.length by omega)
       obtain ⟨ub, uo, hUA, hub, ca⟩ := HXR.out.int ha
       have hga : x.getD (n - 1) 0 = a := getD_some ha
       have hw1 : IntKind.i64.wrap ((n : Int) - 1) = (n : Int) - 1 := by rw [IntKind.wrap_i64]; omega
       have hw2 : (0 : Int) ≤ (n : Int) - 1 := by omega
       have hw3 : ((n : Int) - 1).toNat = n - 1 := by omega
       have hw4 : (n : Int) - 1 < (x.length : Int) := by omega
       obtain ⟨x3, rfl⟩ : ∃ x3 : World, x3 = wr := ⟨_, rfl⟩
       subst hUA
       obtain ⟨tn, htk⟩ : ∃ tn, ti + cntN rows i n = tn := ⟨_, rfl⟩
       rw [htk]
       have htb : tn ≤ 1 + i * (2048 + 1) + n := by omega
       have HTK := Lib.hid htk
       clear htk
       go_upto_region 13 with (fail)
       go_cut [8] (fun v wx => v = .bool (is0 x n) ∧ x3 = wx)
       case first =>
        by_cases hnl2 : n = x.length
        ·have hq : ((n : Int) == (x.length : Int)) = true := by simp; omega
         have HI0 := Lib.hid (show is0 x n = true by unfold is0; rw [decide_eq_true hnl2]; rfl)
         clear hnl2
         go_wp2_with (fail)
         go_meet
         exact ⟨by rw [HI0.out], rfl⟩
        ·have hq : ((n : Int) == (x.length : Int)) = false := by simp; omega
         obtain ⟨bv, hbv⟩ := some_of_lt (show n < x.length by omega)
         obtain ⟨ub2, uo2, hUA2, hub2, cb⟩ := HXR.out.int hbv
         cases hUA2
         have hgb : x.getD n 0 = bv := getD_some hbv
         have hnI : (n : Int) < (x.length : Int) := by omega
         by_cases ha1 : 1000 ≤ a
         ·have haI : (1000 : Int) ≤ (a : Int) := by omega
          have HI0 := Lib.hid (show is0 x n = true by unfold is0; rw [hga, decide_eq_true ha1]; simp)
          clear hnl2 ha hbv hga hgb ha1
          go_wp2_with (fail)
          go_meet
          exact ⟨by rw [HI0.out], rfl⟩
         ·have haI : ¬ (1000 : Int) ≤ (a : Int) := by omega
          by_cases hb1 : 1000 ≤ bv
          ·have hbI : (1000 : Int) ≤ (bv : Int) := by omega
           have HI0 := Lib.hid (show is0 x n = true by unfold is0; rw [hgb, decide_eq_true hb1]; simp)
           clear hnl2 ha hbv hga hgb ha1 hb1
           go_wp2_with (fail)
           go_meet
           exact ⟨by rw [HI0.out], rfl⟩
          ·have hbI : ¬ (1000 : Int) ≤ (bv : Int) := by omega
           have HI0 := Lib.hid (show is0 x n = false by unfold is0; rw [hga, hgb, decide_eq_false hnl2, decide_eq_false ha1, decide_eq_false hb1]; rfl)
           clear hnl2 ha hbv hga hgb ha1 hb1
           go_wp2_with (fail)
           go_meet
           exact ⟨by rw [HI0.out], rfl⟩
       obtain ⟨rfl, rfl⟩ := hcut
       clear hw1 hw2 hw3 hw4 ca ha hga
       go_wp2
       go_loopw [8, 9] (fun iv jv wr => ∃ j : Nat, j ≤ rows.length ∧ jv = .int .i64 (j : Int) ∧ iv = .bool (isTo rows x i n j) ∧ Hid (Drawn w1 wr)) (fun _ jv _ => rows.length - (RowKit.intOf jv).toNat)
       case atStart => exact ⟨0, by omega, rfl, by rw [isTo_zero], HD⟩
       case round =>
        clear HD hc
        obtain ⟨j, hj, rfl, rfl, HD4⟩ := hrel
        by_cases hgo : j < rows.length ∧ isTo rows x i n j = false
        ·obtain ⟨hjl, hfalse⟩ := hgo
         have hjI : (j : Int) < (rows.length : Int) := by omega
         obtain ⟨y, hy⟩ := some_of_lt hjl
         obtain ⟨b5, off5, YA, yc, he5, hb5, hc5, hyr⟩ := (HTA.out.below HD4.out.below).at_ hy
         cases he5
         have hcx := (HD4.out.below.cell (p := ⟨b, off + i, none⟩) HBW.out).trans HCW.out
         have HAS := Lib.hid (show isTo rows x i n (j + 1) = (decide (comN x y = n) && (decide (y.length = n) || !decide (j = i))) by
          rw [isTo_succ, hfalse]
          unfold pj
          rw [getD_some hy]
          rfl)
         have hyz := HSM.out y (List.mem_of_getElem? hy)
         have HCM := Lib.hid (fun (W : World) (h : Drawn wr W) => rcommon_any (some ⟨ub, uo, none⟩) uc x YA yc y W ((HXW.out.below HD4.out.below).below h.below) (hyr.below h.below) (by omega) (by omega))
         have HDR := Lib.hid (fun (W : World) (h : Drawn wr W) => (h.below.cell (p := ⟨b, off + j, none⟩) hb5).trans hc5)
         clear hyr hy
         rw [hfalse]
         clear hfalse
         generalize comN x y = cm at *
         generalize y.length = yl at *
         have fin : ∀ v : Bool, (decide (cm = n) && (decide (yl = n) || !decide (j = i))) = v → isTo rows x i n (j + 1) = v := fun v h => HAS.out.trans h
         have FIN := Lib.hid fin
         clear fin
         by_cases c1 : cm = n
         ·have q1 : ((cm : Int) == (n : Int)) = true := by simp; omega
          by_cases c2 : yl = n
          ·have q2 : ((yl : Int) == (n : Int)) = true := by simp; omega
           have HA2 := Lib.hid (FIN.out true (by rw [decide_eq_true c1, decide_eq_true c2]; rfl))
           clear c1 c2
           go_wp2_with fail
           go_quiet (first | (go_at_call 109; exact Calls.quiet_of ((HCM.out _ (by first | exact Drawn.refl _ | exact (Drawn.refl _).drew _)).mono fun e' w' h => ⟨h.1, h.2⟩)))
           have d5 := HDR.out (wr.drewN nq) ⟨nq, rfl⟩
           go_wp2
           go_roundw
           case rel => exact ⟨j + 1, by omega, by go_num, by rw [HA2.out], Lib.hid (HD4.out.drew _)⟩
           case measure => simp [RowKit.intOf]; omega
          ·have q2 : ((yl : Int) == (n : Int)) = false := by simp; omega
           by_cases c3 : j = i
           ·have q3 : ((j : Int) != (i : Int)) = false := by simp; omega
            have HA2 := Lib.hid (FIN.out false (by rw [decide_eq_true c1, decide_eq_false c2, decide_eq_true c3]; rfl))
            clear c1 c2 c3
            go_wp2_with fail
            go_quiet (first | (go_at_call 109; exact Calls.quiet_of ((HCM.out _ (by first | exact Drawn.refl _ | exact (Drawn.refl _).drew _)).mono fun e' w' h => ⟨h.1, h.2⟩)))
            have d5 := HDR.out (wr.drewN nq) ⟨nq, rfl⟩
            go_wp2
            go_roundw
            case rel => exact ⟨j + 1, by omega, by go_num, by rw [HA2.out], Lib.hid (HD4.out.drew _)⟩
            case measure => simp [RowKit.intOf]; omega
           ·have q3 : ((j : Int) != (i : Int)) = true := by simp; omega
            have HA2 := Lib.hid (FIN.out true (by rw [decide_eq_true c1, decide_eq_false c2, decide_eq_false c3]; rfl))
            clear c1 c2 c3
            go_wp2_with fail
            go_quiet (first | (go_at_call 109; exact Calls.quiet_of ((HCM.out _ (by first | exact Drawn.refl _ | exact (Drawn.refl _).drew _)).mono fun e' w' h => ⟨h.1, h.2⟩)))
            have d5 := HDR.out (wr.drewN nq) ⟨nq, rfl⟩
            go_wp2
            go_roundw
            case rel => exact ⟨j + 1, by omega, by go_num, by rw [HA2.out], Lib.hid (HD4.out.drew _)⟩
            case measure => simp [RowKit.intOf]; omega
         ·have q1 : ((cm : Int) == (n : Int)) = false := by simp; omega
          have HA2 := Lib.hid (FIN.out false (by rw [decide_eq_false c1]; rfl))
          clear c1
          go_wp2_with fail
          go_quiet (first | (go_at_call 109; exact Calls.quiet_of ((HCM.out _ (by first | exact Drawn.refl _ | exact (Drawn.refl _).drew _)).mono fun e' w' h => ⟨h.1, h.2⟩)))
          go_wp2
          go_roundw
          case rel => exact ⟨j + 1, by omega, by go_num, by rw [HA2.out], Lib.hid (HD4.out.drew _)⟩
          case measure => simp [RowKit.intOf]; omega
        ·have hfin : isTo rows x i n j = isN rows i n := by
          rw [isN_to HX.out]
          by_cases hjl : j < rows.length
          ·have ht : isTo rows x i n j = true := by
            cases h : isTo rows x i n j
            ·exact absurd ⟨hjl, h⟩ hgo
            ·rfl
           have := isTo_up ht (rows.length - j)
           rw [show j + (rows.length - j) = rows.length by omega] at this
           rw [ht, this]
          ·have : j = rows.length := by omega
           rw [this]
         have hend : (j < rows.length ∧ isN rows i n = true) ∨ ¬ j < rows.length := by
          by_cases hjl : j < rows.length
          ·refine .inl ⟨hjl, ?_⟩
           rw [← hfin]
           cases h : isTo rows x i n j
           ·exact absurd ⟨hjl, h⟩ hgo
           ·rfl
          ·exact .inr hjl
         rw [hfin]
         clear hfin hgo
         rcases hend with ⟨hjl, hv⟩ | hjl
         ·have hjI : (j : Int) < (rows.length : Int) := by omega
          rw [hv]
          have HVV := Lib.hid hv
          clear hv
          obtain ⟨x4, rfl⟩ : ∃ x4 : World, x4 = wr := ⟨_, rfl⟩
          skip
          go_wp2
          go_loopw [11, 12] (fun fv jv wr => ∃ j : Nat, j ≤ i ∧ jv = .int .i64 (j : Int) ∧ fv = .bool (allTo rows x n j) ∧ Hid (Drawn w1 wr)) (fun _ jv _ => i - (RowKit.intOf jv).toNat)
          case atStart => exact ⟨0, by omega, rfl, rfl, HD4⟩
          case round =>
           clear HD4
           obtain ⟨j, hj, rfl, rfl, HD5⟩ := hrel
           by_cases hji : j < i
           ·have hjI : (j : Int) < (i : Int) := by omega
            have hjr : (j : Int) < (rows.length : Int) := by omega
            obtain ⟨y, hy⟩ := some_of_lt (show j < rows.length by omega)
            obtain ⟨b5, off5, YA, yc, he5, hb5, hc5, hyr⟩ := (HTA.out.below HD5.out.below).at_ hy
            cases he5
            have hcx := (HD5.out.below.cell (p := ⟨b, off + i, none⟩) HBW.out).trans HCW.out
            have HAS := Lib.hid (show allTo rows x n (j + 1) = (allTo rows x n j && decide (comN x y < n)) by rw [allTo_succ, getD_some hy])
            have hyz := HSM.out y (List.mem_of_getElem? hy)
            have HCM := Lib.hid (fun (W : World) (h : Drawn wr W) => rcommon_any (some ⟨ub, uo, none⟩) uc x YA yc y W ((HXW.out.below HD5.out.below).below h.below) (hyr.below h.below) (by omega) (by omega))
            clear hyr hy
            generalize comN x y = cm at *
            cases hal : allTo rows x n j
            ·have HA2 := Lib.hid (show allTo rows x n (j + 1) = false by rw [HAS.out, hal]; rfl)
             clear HAS hal
             go_wp2_with fail
             go_quiet (fail)
             go_wp2
             go_roundw
             case rel => exact ⟨j + 1, by omega, by go_num, by first | (rw [HA2.out]; done) | (rw [HA2.out]; congr 1; exact decide_eq_false (by omega)) | (rw [HA2.out]; congr 1; exact decide_eq_true (by omega)), Lib.hid (HD5.out.drew _)⟩
             case measure => simp [RowKit.intOf]; omega
            ·by_cases hcn2 : cm < n
             ·have hci : (cm : Int) < (n : Int) := by omega
              have HA2 := Lib.hid (show allTo rows x n (j + 1) = true by rw [HAS.out, hal, decide_eq_true hcn2]; rfl)
              clear HAS hal hcn2
              go_wp2_with fail
              go_quiet (first | (go_at_call 109; exact Calls.quiet_of ((HCM.out _ (by first | exact Drawn.refl _ | exact (Drawn.refl _).drew _)).mono fun e' w' h => ⟨h.1, h.2⟩)))
              go_wp2
              go_roundw
              case rel => exact ⟨j + 1, by omega, by go_num, by first | (rw [HA2.out]; done) | (rw [HA2.out]; congr 1; exact decide_eq_false (by omega)) | (rw [HA2.out]; congr 1; exact decide_eq_true (by omega)), Lib.hid (HD5.out.drew _)⟩
              case measure => simp [RowKit.intOf]; omega
             ·have hci : ¬ (cm : Int) < (n : Int) := by omega
              have HA2 := Lib.hid (show allTo rows x n (j + 1) = false by rw [HAS.out, hal, decide_eq_false hcn2]; rfl)
              clear HAS hal hcn2
              go_wp2_with fail
              go_quiet (first | (go_at_call 109; exact Calls.quiet_of ((HCM.out _ (by first | exact Drawn.refl _ | exact (Drawn.refl _).drew _)).mono fun e' w' h => ⟨h.1, h.2⟩)))
              go_wp2
              go_roundw
              case rel => exact ⟨j + 1, by omega, by go_num, by first | (rw [HA2.out]; done) | (rw [HA2.out]; congr 1; exact decide_eq_false (by omega)) | (rw [HA2.out]; congr 1; exact decide_eq_true (by omega)), Lib.hid (HD5.out.drew _)⟩
              case measure => simp [RowKit.intOf]; omega
           ·obtain rfl : j = i := by omega
            have hfj := firstN_to (n := n) HX.out
            cases hal : allTo rows x n j
            ·have HC2 := Lib.hid (show cntN rows j (n + 1) = cntN rows j n by
              show cntN rows j n + _ = _
              rw [if_neg (by unfold hitB; rw [hfj, hal]; simp)]
              rfl)
             clear hfj hal
             go_wp2
             go_roundw
             case rel => exact ⟨n + 1, by omega, by omega, fun _ => by omega, by go_num, by rw [HC2.out, HTK.out], HD5⟩
             case measure => simp [RowKit.intOf]; omega
            ·have HC2 := Lib.hid (show cntN rows j (n + 1) = cntN rows j n + 1 by
              show cntN rows j n + _ = _
              rw [if_pos (by unfold hitB; rw [hfj, hal, HVV.out, decide_eq_true hn2]; rfl)])
             clear hfj hal
             go_wp2
             go_roundw
             case rel => exact ⟨n + 1, by omega, by omega, fun _ => by omega, by go_num, by rw [HC2.out, ← Nat.add_assoc, HTK.out]; go_num, HD5⟩
             case measure => simp [RowKit.intOf]; omega
         ·have hjI : ¬ (j : Int) < (rows.length : Int) := by omega
          obtain ⟨x4, rfl⟩ : ∃ x4 : World, x4 = wr := ⟨_, rfl⟩
          cases hv : isN rows i n
          ·skip
           have HC2 := Lib.hid (show cntN rows i (n + 1) = cntN rows i n by
            show cntN rows i n + _ = _
            rw [if_neg (by unfold hitB; rw [hv]; simp)]
            rfl)
           clear hv
           go_wp2
           go_roundw
           case rel => exact ⟨n + 1, by omega, by omega, fun _ => by omega, by go_num, by rw [HC2.out, HTK.out], HD4⟩
           case measure => simp [RowKit.intOf]; omega
          ·have HVV := Lib.hid hv
           clear hv
           go_wp2
           go_loopw [11, 12] (fun fv jv wr => ∃ j : Nat, j ≤ i ∧ jv = .int .i64 (j : Int) ∧ fv = .bool (allTo rows x n j) ∧ Hid (Drawn w1 wr)) (fun _ jv _ => i - (RowKit.intOf jv).toNat)
           case atStart => exact ⟨0, by omega, rfl, rfl, HD4⟩
           case round =>
            clear HD4
            obtain ⟨j, hj, rfl, rfl, HD5⟩ := hrel
            by_cases hji : j < i
            ·have hjI : (j : Int) < (i : Int) := by omega
             have hjr : (j : Int) < (rows.length : Int) := by omega
             obtain ⟨y, hy⟩ := some_of_lt (show j < rows.length by omega)
             obtain ⟨b5, off5, YA, yc, he5, hb5, hc5, hyr⟩ := (HTA.out.below HD5.out.below).at_ hy
             cases he5
             have hcx := (HD5.out.below.cell (p := ⟨b, off + i, none⟩) HBW.out).trans HCW.out
             have HAS := Lib.hid (show allTo rows x n (j + 1) = (allTo rows x n j && decide (comN x y < n)) by rw [allTo_succ, getD_some hy])
             have hyz := HSM.out y (List.mem_of_getElem? hy)
             have HCM := Lib.hid (fun (W : World) (h : Drawn wr W) => rcommon_any (some ⟨ub, uo, none⟩) uc x YA yc y W ((HXW.out.below HD5.out.below).below h.below) (hyr.below h.below) (by omega) (by omega))
             clear hyr hy
             generalize comN x y = cm at *
             cases hal : allTo rows x n j
             ·have HA2 := Lib.hid (show allTo rows x n (j + 1) = false by rw [HAS.out, hal]; rfl)
              clear HAS hal
              go_wp2_with fail
              go_quiet (fail)
              go_wp2
              go_roundw
              case rel => exact ⟨j + 1, by omega, by go_num, by first | (rw [HA2.out]; done) | (rw [HA2.out]; congr 1; exact decide_eq_false (by omega)) | (rw [HA2.out]; congr 1; exact decide_eq_true (by omega)), Lib.hid (HD5.out.drew _)⟩
              case measure => simp [RowKit.intOf]; omega
             ·by_cases hcn2 : cm < n
              ·have hci : (cm : Int) < (n : Int) := by omega
               have HA2 := Lib.hid (show allTo rows x n (j + 1) = true by rw [HAS.out, hal, decide_eq_true hcn2]; rfl)
               clear HAS hal hcn2
               go_wp2_with fail
               go_quiet (first | (go_at_call 109; exact Calls.quiet_of ((HCM.out _ (by first | exact Drawn.refl _ | exact (Drawn.refl _).drew _)).mono fun e' w' h => ⟨h.1, h.2⟩)))
               go_wp2
               go_roundw
               case rel => exact ⟨j + 1, by omega, by go_num, by first | (rw [HA2.out]; done) | (rw [HA2.out]; congr 1; exact decide_eq_false (by omega)) | (rw [HA2.out]; congr 1; exact decide_eq_true (by omega)), Lib.hid (HD5.out.drew _)⟩
               case measure => simp [RowKit.intOf]; omega
              ·have hci : ¬ (cm : Int) < (n : Int) := by omega
               have HA2 := Lib.hid (show allTo rows x n (j + 1) = false by rw [HAS.out, hal, decide_eq_false hcn2]; rfl)
               clear HAS hal hcn2
               go_wp2_with fail
               go_quiet (first | (go_at_call 109; exact Calls.quiet_of ((HCM.out _ (by first | exact Drawn.refl _ | exact (Drawn.refl _).drew _)).mono fun e' w' h => ⟨h.1, h.2⟩)))
               go_wp2
               go_roundw
               case rel => exact ⟨j + 1, by omega, by go_num, by first | (rw [HA2.out]; done) | (rw [HA2.out]; congr 1; exact decide_eq_false (by omega)) | (rw [HA2.out]; congr 1; exact decide_eq_true (by omega)), Lib.hid (HD5.out.drew _)⟩
               case measure => simp [RowKit.intOf]; omega
            ·obtain rfl : j = i := by omega
             have hfj := firstN_to (n := n) HX.out
             cases hal : allTo rows x n j
             ·have HC2 := Lib.hid (show cntN rows j (n + 1) = cntN rows j n by
               show cntN rows j n + _ = _
               rw [if_neg (by unfold hitB; rw [hfj, hal]; simp)]
               rfl)
              clear hfj hal
              go_wp2
              go_roundw
              case rel => exact ⟨n + 1, by omega, by omega, fun _ => by omega, by go_num, by rw [HC2.out, HTK.out], HD5⟩
              case measure => simp [RowKit.intOf]; omega
             ·have HC2 := Lib.hid (show cntN rows j (n + 1) = cntN rows j n + 1 by
               show cntN rows j n + _ = _
               rw [if_pos (by unfold hitB; rw [hfj, hal, HVV.out, decide_eq_true hn2]; rfl)])
              clear hfj hal
              go_wp2
              go_roundw
              case rel => exact ⟨n + 1, by omega, by omega, fun _ => by omega, by go_num, by rw [HC2.out, ← Nat.add_assoc, HTK.out]; go_num, HD5⟩
              case measure => simp [RowKit.intOf]; omega
      ·have hleI : ¬ (n : Int) ≤ (x.length : Int) := by omega
       have HTF := Lib.hid (show totN rows (i + 1) = ti + cntN rows i n by
        rw [HTT.out]
        congr 1
        by_cases h2 : 2 < n
        ·have := hnx h2
         rw [show n = x.length + 1 by omega]
        ·rw [cntN_small rows i n (by omega), cntN_small rows i (x.length + 1) (by omega)])
       go_wp2
       go_roundw
       case rel => exact ⟨i + 1, by omega, by go_num, by rw [HTF.out], HD⟩
       case measure => simp [RowKit.intOf]; omega
    ·obtain rfl : i = rows.length := by omega
     have HF := Lib.hid (show totN rows rows.length = nodesE es from HNR.out)
     have hbF := hbw.trans (HD.out.below.mono hbw.size)
     go_wp2
     go_ret
     exact ⟨ret_int (by rw [HF.out]), hbF⟩
end Go.Proofs.YtiohmnhbmmhnhaaGreatDoor
namespace Go.Proofs.YtiohmnhbmmhnhaaGreatDoor
open Go.RowKit Go.Shelf Go.Lib
theorem Nodes_nil (w : World) : Calls Tryz.prog 31 #[.pointer none] w fun e w' => e = .returned (.int .i64 0) ∧ w = w' := by
 go_enter Tryz.func31, Tryz.ntmps31
 go_wp2
 go_ret
 exact ⟨rfl, rfl⟩
theorem Allow_nil (path : ByteArray) (w : World) : Calls Tryz.prog 24 #[.pointer none, .string path] w fun e w' => e = .returned (.slice none 0 0) ∧ w = w' := by
 go_enter Tryz.func24, Tryz.ntmps24
 go_wp2_with fail
 refine (at_nil path w).mono ?_
 rintro e w1 ⟨rfl, rfl⟩
 go_wp2
 go_ret
 exact ⟨rfl, rfl⟩
theorem Path_nil (i : Int) (A : Option Addr) (n c : Nat) (w : World) : Calls Tryz.prog 28 #[.pointer none, .int .i64 i, .slice A n c] w fun e w' => e = .returned (.tuple #[.string ⟨#[]⟩, .int .i64 140]) ∧ w = w' := by
 go_enter Tryz.func28, Tryz.ntmps28
 go_wp2
 go_ret2
 exact ⟨rfl, rfl⟩
set_option maxRecDepth 100000 in
set_option maxHeartbeats 4000000 in
theorem Match_nil (m path : ByteArray) (w : World) (hp : path.size ≤ 4194303) (hg : GlobR w) :
  Calls Tryz.prog 18 #[.pointer none, .string m, .string path] w (GivesMt w mNone) := by
 have hbW : Below w.heap.size w ((w.alloc (.cells #[.int .i64 0, .int .i64 0, .string ⟨#[]⟩, .slice none 0 0, .slice none 0 0, .string ⟨#[]⟩] 47)).alloc (.cells #[.int .i64 0, .int .i64 (-1), .string ⟨#[]⟩, .slice none 0 0, .slice none 0 0, .string ⟨#[]⟩] 47)) := ((Below.refl _ w).alloc (Nat.le_refl _) _).alloc (by simp) _
 have hbZ : Blk ((w.alloc (.cells #[.int .i64 0, .int .i64 0, .string ⟨#[]⟩, .slice none 0 0, .slice none 0 0, .string ⟨#[]⟩] 47)).alloc (.cells #[.int .i64 0, .int .i64 (-1), .string ⟨#[]⟩, .slice none 0 0, .slice none 0 0, .string ⟨#[]⟩] 47)) w.heap.size 47 #[.int .i64 0, .int .i64 0, .string ⟨#[]⟩, .slice none 0 0, .slice none 0 0, .string ⟨#[]⟩] := (Blk.new w _ _).alloc _
 have hbO : Blk ((w.alloc (.cells #[.int .i64 0, .int .i64 0, .string ⟨#[]⟩, .slice none 0 0, .slice none 0 0, .string ⟨#[]⟩] 47)).alloc (.cells #[.int .i64 0, .int .i64 (-1), .string ⟨#[]⟩, .slice none 0 0, .slice none 0 0, .string ⟨#[]⟩] 47)) (w.heap.size + 1) 47 #[.int .i64 0, .int .i64 (-1), .string ⟨#[]⟩, .slice none 0 0, .slice none 0 0, .string ⟨#[]⟩] := by
  have := Blk.new (w.alloc (.cells #[.int .i64 0, .int .i64 0, .string ⟨#[]⟩, .slice none 0 0, .slice none 0 0, .string ⟨#[]⟩] 47)) 47 #[.int .i64 0, .int .i64 (-1), .string ⟨#[]⟩, .slice none 0 0, .slice none 0 0, .string ⟨#[]⟩]
  simpa using this
 have hwz : ((w.alloc (.cells #[.int .i64 0, .int .i64 0, .string ⟨#[]⟩, .slice none 0 0, .slice none 0 0, .string ⟨#[]⟩] 47)).alloc (.cells #[.int .i64 0, .int .i64 (-1), .string ⟨#[]⟩, .slice none 0 0, .slice none 0 0, .string ⟨#[]⟩] 47)).heap.size = w.heap.size + 2 := by simp
 have HSG := Lib.hid (fun (W : World) (h : Below w.heap.size w W) => Segments_any path W (by omega) (hg.beyond h))
 have HAN := Lib.hid (fun W => at_nil path W)
 have HWZ := Lib.hid hwz
 clear hg hwz
 go_enter Tryz.func18, Tryz.ntmps18
 go_wp2_with fail
 obtain ⟨rb, hrb⟩ : ∃ rb : Nat, rb = w.heap.size := ⟨_, rfl⟩
 have HRB := Lib.hid hrb
 obtain ⟨W2, hW2⟩ : ∃ W2 : World, W2 = (w.alloc (.cells #[.int .i64 0, .int .i64 0, .string ⟨#[]⟩, .slice none 0 0, .slice none 0 0, .string ⟨#[]⟩] 47)).alloc (.cells #[.int .i64 0, .int .i64 (-1), .string ⟨#[]⟩, .slice none 0 0, .slice none 0 0, .string ⟨#[]⟩] 47) := ⟨_, rfl⟩
 rw [← hW2] at hbW hbZ hbO HWZ
 rw [← hrb] at hbZ hbO
 rw [← hW2, ← hrb]
 have HBW := Lib.hid hbW
 have HBZ := Lib.hid hbZ
 have HBO := Lib.hid hbO
 have hle : w.heap.size ≤ rb := by omega
 clear hbW hbZ hbO hW2 hrb
 refine (HAN.out W2).mono ?_
 rintro e w3 ⟨rfl, rfl⟩
 go_wp2_with fail
 refine (HSG.out W2 HBW.out).mono ?_
 rintro e w4 ⟨SA, sc, rfl, hos, hb4⟩
 have HBB := Lib.hid (HBW.out.trans (hb4.mono HBW.out.size))
 have HZ4 := Lib.hid (HBZ.out.below hb4 HBZ.out.lt)
 have HO4 := Lib.hid (HBO.out.below hb4 HBO.out.lt)
 obtain ⟨sg, hsg⟩ : ∃ sg, (segR path).2 = sg := ⟨_, rfl⟩
 rw [hsg]
 clear hos hb4 HSG hsg
 have hrz : rb < w4.heap.size := HZ4.out.lt
 have hro : rb + 1 < w4.heap.size := HO4.out.lt
 have z0 : w4.cell? ⟨rb, 0, none⟩ = some (.int .i64 0) := HZ4.out.cell 0
 have z1 : w4.cell? ⟨rb, 1, none⟩ = some (.int .i64 0) := HZ4.out.cell 1
 have z2 : w4.cell? ⟨rb, 2, none⟩ = some (.string ⟨#[]⟩) := HZ4.out.cell 2
 have z3 : w4.cell? ⟨rb, 3, none⟩ = some (.slice none 0 0) := HZ4.out.cell 3
 have z4 : w4.cell? ⟨rb, 4, none⟩ = some (.slice none 0 0) := HZ4.out.cell 4
 have z5 : w4.cell? ⟨rb, 5, none⟩ = some (.string ⟨#[]⟩) := HZ4.out.cell 5
 have y0 : w4.frozen? ⟨rb, 0, none⟩ = false := HZ4.out.frozen 0
 have y1 : w4.frozen? ⟨rb, 1, none⟩ = false := HZ4.out.frozen 1
 have y2 : w4.frozen? ⟨rb, 2, none⟩ = false := HZ4.out.frozen 2
 have y3 : w4.frozen? ⟨rb, 3, none⟩ = false := HZ4.out.frozen 3
 have y4 : w4.frozen? ⟨rb, 4, none⟩ = false := HZ4.out.frozen 4
 have y5 : w4.frozen? ⟨rb, 5, none⟩ = false := HZ4.out.frozen 5
 have o0 : w4.cell? ⟨rb + 1, 0, none⟩ = some (.int .i64 0) := HO4.out.cell 0
 have o1 : w4.cell? ⟨rb + 1, 1, none⟩ = some (.int .i64 (-1)) := HO4.out.cell 1
 have o2 : w4.cell? ⟨rb + 1, 2, none⟩ = some (.string ⟨#[]⟩) := HO4.out.cell 2
 have o3 : w4.cell? ⟨rb + 1, 3, none⟩ = some (.slice none 0 0) := HO4.out.cell 3
 have o4 : w4.cell? ⟨rb + 1, 4, none⟩ = some (.slice none 0 0) := HO4.out.cell 4
 have o5 : w4.cell? ⟨rb + 1, 5, none⟩ = some (.string ⟨#[]⟩) := HO4.out.cell 5
 have x0 : w4.frozen? ⟨rb + 1, 0, none⟩ = false := HO4.out.frozen 0
 have x1 : w4.frozen? ⟨rb + 1, 1, none⟩ = false := HO4.out.frozen 1
 have x2 : w4.frozen? ⟨rb + 1, 2, none⟩ = false := HO4.out.frozen 2
 have x3 : w4.frozen? ⟨rb + 1, 3, none⟩ = false := HO4.out.frozen 3
 have x4 : w4.frozen? ⟨rb + 1, 4, none⟩ = false := HO4.out.frozen 4
 have x5 : w4.frozen? ⟨rb + 1, 5, none⟩ = false := HO4.out.frozen 5
 by_cases hs0 : sg = 0
 ·subst hs0
  go_wp2
  exact bodyPost_ret (v := .agg #[.int .i64 0, .int .i64 (-1), .string ⟨#[]⟩, .slice none 0 0, .slice none 0 0, .string ⟨#[]⟩]) (by simp [results, Tryz.results18, go_sem, z0, z1, z2, z3, z4, z5]) rfl (gives_mNone rfl (by (repeat (first | (refine Below.setCell ?_ hle _) | (refine Below.setCell ?_ (Nat.le_succ_of_le hle) _))); exact HBB.out))
 ·have hsn : (sg != 0) = true := by simpa using hs0
  clear hs0
  go_wp2
  exact bodyPost_ret (v := .agg #[.int .i64 0, .int .i64 (-1), .string ⟨#[]⟩, .slice none 0 0, .slice none 0 0, .string ⟨#[]⟩]) (by simp [results, Tryz.results18, go_sem, z0, z1, z2, z3, z4, z5]) rfl (gives_mNone rfl (by (repeat (first | (refine Below.setCell ?_ hle _) | (refine Below.setCell ?_ (Nat.le_succ_of_le hle) _))); exact HBB.out))
end Go.Proofs.YtiohmnhbmmhnhaaGreatDoor
namespace Go.Proofs.YtiohmnhbmmhnhaaGreatDoor
open Go.RowKit Go.Shelf Go.Lib
theorem sorted_same {α : Type} {R : α → α → Prop} (hi : ∀ a, ¬ R a a) (ha : ∀ a b, R a b → R b a → False) : ∀ {a b : List α}, a.Pairwise R → b.Pairwise R → (∀ x, x ∈ a ↔ x ∈ b) → a = b
 | [], [], _, _, _ => rfl
 | [], y :: b, _, _, h => absurd ((h y).2 (List.mem_cons_self ..)) (by simp)
 | x :: a, [], _, _, h => absurd ((h x).1 (List.mem_cons_self ..)) (by simp)
 | x :: a, y :: b, h1, h2, h => by
  rw [List.pairwise_cons] at h1 h2
  have e : x = y := by
   rcases List.mem_cons.1 ((h x).1 (List.mem_cons_self ..)) with hx | hx
   ·exact hx
   ·rcases List.mem_cons.1 ((h y).2 (List.mem_cons_self ..)) with hy | hy
    ·exact hy.symm
    ·exact (ha x y (h1.1 y hy) (h2.1 x hx)).elim
  subst e
  congr 1
  refine sorted_same hi ha h1.2 h2.2 fun z => ?_
  have hz := h z
  rw [List.mem_cons, List.mem_cons] at hz
  constructor
  ·intro hm
   rcases hz.1 (.inr hm) with rfl | h3
   ·exact absurd (h1.1 z hm) (hi z)
   ·exact h3
  ·intro hm
   rcases hz.2 (.inr hm) with rfl | h3
   ·exact absurd (h2.1 z hm) (hi z)
   ·exact h3
theorem pcs_of {es : List En} (hg : GoodE es) : pcsE es = (es.map (·.1)).map fun s => (splitP s).1 := by
 unfold pcsE
 rw [List.map_map]
 refine List.map_congr_left fun x hx => ?_
 show x.2.2.1 = (splitP x.1).1
 rw [hg.pcs x hx]
theorem nodes_of_mem {es es' : List En} {l : List Rt} (hg : GoodE es) (hg' : GoodE es') (hm : MemE es l) (hm' : MemE es' l) : nodesE es = nodesE es' := by
 have e : es.map (·.1) = es'.map (·.1) := by
  have hlt : ∀ {es : List En}, GoodE es → (es.map (·.1)).Pairwise fun s t => ordP (splitP s).1 (splitP t).1 < 0 := fun {es} hg => by
   rw [List.pairwise_map]
   refine List.Pairwise.imp_of_mem (fun hx hy hlt => ?_) hg.sortE
   rw [hg.pcs _ hx, hg.pcs _ hy]
   exact hlt
  refine sorted_same (R := fun s t => ordP (splitP s).1 (splitP t).1 < 0) (fun a h => by have := ord_self (splitP a).1; omega) (fun a b h1 h2 => by rw [ordP_anti] at h2; omega) (hlt hg) (hlt hg') fun p => ?_
  rw [List.mem_map, List.mem_map]
  exact (hm p).trans (hm' p).symm
 unfold nodesE
 rw [pcs_of hg, pcs_of hg', e]
theorem rtNodes_any (t : Nat) (sl : Bool) (l : List Rt) (w : World) (hT : TableAt w t sl l) :
  ∃ es : List En, GoodE es ∧ MemE es l ∧ nodesE es ≤ 4194305 ∧ ∀ W, Below w.heap.size w W → Calls Tryz.prog 31 #[.pointer (some ⟨t, 0, none⟩)] W fun e w' => e = .returned (.int .i64 (nodesE es : Nat)) ∧ Below W.heap.size W w' := by
 obtain ⟨q, es, S, A, c, rs, h⟩ := hT
 have hld : 3 * loadP (pcsE es) ≤ 4194304 := by
  have h1 := h.good.load
  have h2 := h.sum
  omega
 refine ⟨es, h.good, h.mem, nodes_load h.good hld, fun W hb => ?_⟩
 have h2 := h.below hb
 have HN := Lib.hid (Nodes_any S W q es h2.tree h2.good hld)
 have c0 := h2.c0
 have hlow := h2.low
 clear h h2 hb hld
 generalize nodesE es = ne at *
 go_enter Tryz.func31, Tryz.ntmps31
 go_wp2_with fail
 refine HN.out.mono ?_
 rintro e w1 ⟨rfl, hd⟩
 have HB := Lib.hid hd.below
 clear hd
 go_wp2
 go_ret
 exact ⟨rfl, HB.out⟩
theorem len_take_succ {l : List Rt} {k : Nat} {x : Rt} (h : l[k]? = some x) : l.take (k + 1) = l.take k ++ [x] := take_snoc h
theorem memE_here {es : List En} {l : List Rt} {r : Rt} {x : En} (h : MemE es l) (hx : x ∈ es) (e : x.1 = r.2) : MemE es (l ++ [r]) := fun p => by
 constructor
 ·intro hp
  obtain ⟨y, hy, ey⟩ := (h p).1 hp
  exact ⟨y, List.mem_append_left _ hy, ey⟩
 ·rintro ⟨y, hy, rfl⟩
  rcases List.mem_append.1 hy with hy | hy
  ·exact (h _).2 ⟨y, hy, rfl⟩
  ·rw [List.mem_singleton.1 hy]
   exact ⟨x, hx, e⟩
theorem same_pat {l : List Rt} (hl : GoodL l) {k : Nat} {r : Rt} (hr : l[k]? = some r) {es : List En} (hg : GoodE es) (hm : MemE es (l.take k)) {y : En} (hy : y ∈ es) (h0 : ordP y.2.2.1 (splitP r.2).1 = 0) : y.1 = r.2 := by
 obtain ⟨z, hz, ez⟩ := (hm y.1).1 ⟨y, hy, rfl⟩
 refine Classical.byContradiction fun hne => ?_
 obtain ⟨j, hj, hjz⟩ := List.mem_take_iff_getElem.1 hz
 have hkl := (List.getElem?_eq_some_iff.1 hr)
 obtain ⟨hk, hkr⟩ := hkl
 have hp := (List.pairwise_iff_getElem.1 hl.two) j k (by omega) hk (by omega)
 rw [hkr] at hp
 have hjz' : l[j] = z := hjz
 rw [hjz'] at hp
 have h1 := hl.one z (List.mem_of_mem_take hz)
 have h2 := hl.one r (List.mem_of_getElem? hr)
 refine clash_ord h1 h2 hp (by rw [ez]; exact hne) ?_
 rw [ez, hg.pcs y hy]
 exact h0
set_option maxRecDepth 100000 in
set_option maxHeartbeats 4000000 in
theorem rtRNodes_any (A : Option Addr) (c : Nat) (ls : List Rv) (w : World) (hr : Row w A (flatR ls)) (hk : bulkRt (plR ls) ≤ 1048576) (hgl : GoodL (plR ls)) (hfew : ls.length ≤ 256) {es0 : List En} (hg0 : GoodE es0) (hm0 : MemE es0 (plR ls)) :
  Calls Tryz.prog 32 #[.slice A ls.length c] w fun e w' => e = .returned (.int .i64 (nodesE es0 : Nat)) ∧ Below w.heap.size w w' := by
 have HR := Lib.hid (fun (W : World) (h : Below w.heap.size w W) => hr.below h)
 obtain ⟨l, hl⟩ : ∃ l, plR ls = l := ⟨_, rfl⟩
 rw [hl] at hk hgl hm0
 have HLL := Lib.hid (show l.length = ls.length by rw [← hl, plR_length])
 have HPL := Lib.hid (fun (k : Nat) (x : Rv) (h : ls[k]? = some x) => (show l[k]? = some x.2 ∧ Slim x.2 from ⟨by rw [← hl]; exact plR_get h, slim_mem hk (by rw [← hl]; exact List.mem_of_getElem? (plR_get h))⟩))
 have HGL := Lib.hid hgl
 have HTS := Lib.hid (show ∀ (es : List En) (k : Nat), MemE es (l.take k) → ∀ x ∈ es, x.1.size ≤ 4194304 from fun es k hm x hx => by
  obtain ⟨z, hz, ez⟩ := (hm x.1).1 ⟨x, hx, rfl⟩
  have := (slim_mem hk (List.mem_of_mem_take hz)).pat
  rw [ez] at this
  omega)
 have HN0 := Lib.hid (fun (es : List En) (hg : GoodE es) (hm : MemE es l) => nodes_of_mem hg hg0 hm hm0)
 have HB1 := Lib.hid (Below.refl w.heap.size w)
 generalize nodesE es0 = n0 at *
 clear hr hk hl hgl hg0 hm0
 go_enter Tryz.func32, Tryz.ntmps32
 go_wp2
 go_loopw [3, 10] (fun v i wr => ∃ (k : Nat) (es : List En) (KA : Option Addr) (kc : Nat), k ≤ ls.length ∧ i = .int .i64 k ∧ v = .slice KA es.length kc ∧ Hid (Row wr KA (flatKV (keptE es))) ∧ Hid (GoodE es ∧ MemE es (l.take k)) ∧ es.length ≤ k ∧ Hid (Below w.heap.size w wr)) (fun _ i _ => ls.length - (RowKit.intOf i).toNat)
 case atStart => exact ⟨0, [], none, 0, by omega, rfl, rfl, Lib.hid (fun h => absurd h (by simp [keptE, flatKV])), Lib.hid ⟨GoodE.nil, fun p => by simp⟩, Nat.le_refl _, HB1⟩
 case round =>
  obtain ⟨k, es, KA, kc, hkl, rfl, rfl, HRK, HGM, hel, HB⟩ := hrel
  by_cases hlt : k < ls.length
  ·obtain ⟨x, hx⟩ := some_of_lt hlt
   obtain ⟨hpk, hslim⟩ := HPL.out k x hx
   obtain ⟨b, off, rfl, hbl, f0, f1⟩ := (HR.out wr HB.out).rv hx
   have hki : (k : Int) < (ls.length : Int) := by omega
   clear hx
   obtain ⟨⟨MA, mc⟩, ml, p⟩ := x
   dsimp only at f0 f1 hslim hpk
   have hps := hslim.pat
   dsimp only at hps
   have HPK := Lib.hid hpk
   have hb5 : Below wr.heap.size wr (wr.alloc (.cells #[.slice MA ml.length mc, .string p] 93)) := (Below.refl _ _).alloc (Nat.le_refl _) _
   have hN5 : Blk (wr.alloc (.cells #[.slice MA ml.length mc, .string p] 93)) wr.heap.size 93 #[.slice MA ml.length mc, .string p] := Blk.new wr _ _
   have HB5 := Lib.hid (HB.out.trans (hb5.mono HB.out.size))
   have r0 : (wr.alloc (.cells #[.slice MA ml.length mc, .string p] 93)).cell? ⟨wr.heap.size, 0, none⟩ = some (.slice MA ml.length mc) := hN5.cell 0
   have r1 : (wr.alloc (.cells #[.slice MA ml.length mc, .string p] 93)).cell? ⟨wr.heap.size, 1, none⟩ = some (.string p) := hN5.cell 1
   have rlt := hN5.lt
   have HRX := Lib.hid (HRK.out.below hb5)
   have HI := Lib.hid (rInsert_any KA kc es p (k : Int) _ HRX.out HGM.out.1 (by omega) (HTS.out es k HGM.out.2) (by omega))
   have HSP := Lib.hid (chk_split (wrong_chk (HGL.out.one _ (List.mem_of_getElem? hpk))))
   have HTK := Lib.hid (len_take_succ hpk)
   clear hb5 hN5 hslim hpk HRK
   go_wp2_with fail
   refine HI.out.mono ?_
   rintro e w6 (⟨hbad, _, _⟩ | ⟨_, ⟨y, hy, hy0⟩, rfl, hb6⟩ | ⟨_, hne, ⟨B, d, rfl, ho6⟩, hb6⟩)
   ·rw [HSP.out] at hbad
    cases hbad
   ·have HY := Lib.hid (same_pat HGL.out HPK.out HGM.out.1 HGM.out.2 hy hy0)
    have HGM2 := Lib.hid (show GoodE es ∧ MemE es (l.take (k + 1)) from ⟨HGM.out.1, by rw [HTK.out]; exact memE_here HGM.out.2 hy HY.out⟩)
    have HR6 := Lib.hid (HRX.out.below hb6)
    have HB6 := Lib.hid (HB5.out.trans (hb6.mono HB5.out.size))
    clear hb6 hy hy0 HI
    go_wp2
    go_roundw
    case rel => exact ⟨k + 1, es, KA, kc, by omega, by go_num, rfl, HR6, HGM2, by omega, HB6⟩
    case measure => simp [RowKit.intOf]; omega
   ·have HGI := Lib.hid (HGM.out.1.ins (s := p) (loc := (none, 0)) (v := (none, k, 0)) HSP.out hne)
    have HKI := Lib.hid (show keptE (insE es (p, (none, 0), (splitP p).1, (none, k, 0))) = insK es (splitP p).1 (p, (k : Int)) from keptE_ins es _)
    have HMI := Lib.hid (memE_step (es1 := es) (r := (ml, p)) (loc := (none, 0)) (pl := (splitP p).1) (v := (none, k, 0)) HGM.out.2 (fun x => ⟨fun hx => ⟨hx, fun e => hne x hx (by rw [← show (splitP x.1).1 = x.2.2.1 by rw [HGM.out.1.pcs x hx], e]; exact ord_self _)⟩, fun h => h.1⟩))
    have hil : (insK es (splitP p).1 (p, (k : Int))).length = es.length + 1 := insK_len es _ _
    have hie : (insE es (p, (none, 0), (splitP p).1, (none, k, 0))).length = es.length + 1 := insE_length es _
    have HGM2 := Lib.hid (show GoodE (insE es (p, (none, 0), (splitP p).1, (none, k, 0))) ∧ MemE (insE es (p, (none, 0), (splitP p).1, (none, k, 0))) (l.take (k + 1)) from ⟨HGI.out, by rw [HTK.out]; exact HMI.out⟩)
    have hro := own_row ho6
    rw [← HKI.out] at hro
    have HR6 := Lib.hid hro
    have HB6 := Lib.hid (HB5.out.trans (hb6.mono HB5.out.size))
    rw [hil]
    have HIE := Lib.hid hie
    clear hb6 ho6 hro hil hie hne HGI HMI HKI HI
    generalize insE es (p, (none, 0), (splitP p).1, (none, k, 0)) = es2 at *
    go_wp2
    go_roundw
    case rel => exact ⟨k + 1, es2, B, d, by omega, by go_num, by rw [HIE.out], HR6, HGM2, by have := HIE.out; omega, HB6⟩
    case measure => simp [RowKit.intOf]; omega
  ·obtain rfl : k = ls.length := by omega
   have hgm := HGM.out
   rw [show l.take ls.length = l by rw [← HLL.out, List.take_length]] at hgm
   have HNE := Lib.hid (HN0.out es hgm.1 hgm.2)
   have HRN := Lib.hid (rNodes_any KA kc es wr HRK.out hgm.1 (by omega))
   rw [HNE.out] at HRN
   clear hgm
   go_wp2_with fail
   refine HRN.out.mono ?_
   rintro e w6 ⟨rfl, hb6⟩
   have HB6 := Lib.hid (HB.out.trans (hb6.mono HB.out.size))
   clear hb6
   go_wp2
   go_ret
   exact ⟨rfl, HB6.out⟩
end Go.Proofs.YtiohmnhbmmhnhaaGreatDoor
namespace Go.Proofs.YtiohmnhbmmhnhaaGreatDoor
open Go.RowKit Go.Shelf Go.Lib
set_option maxRecDepth 100000 in
set_option maxHeartbeats 8000000 in
theorem RouteAll_walk (A : Option Addr) (c : Nat) (la : List Ra) (w : World) (hr : Row w A (flatA la)) (hm : AOk w la) (hk : bulkRt (plA la) ≤ 1048576) (hg : GlobR w) :
  Calls Tryz.prog 10 #[.slice A la.length c] w fun e w' => e = .returned (.bool true) ∧ Below w.heap.size w w' := by
 have HR := Lib.hid (fun (W : World) (h : Below w.heap.size w W) => hr.below h)
 have HM := Lib.hid (fun (W : World) (h : Below w.heap.size w W) => hm.below h)
 have HK := Lib.hid hk
 have HG := Lib.hid (fun (W : World) (h : Below w.heap.size w W) => hg.beyond h)
 have HAW := Lib.hid (awake_any w hg)
 clear hr hm hk hg
 go_enter Tryz.func10, Tryz.ntmps10
 go_wp2_with fail
 refine HAW.out.mono ?_
 rintro e w1 ⟨rfl, hb1⟩
 have HB1 := Lib.hid hb1
 have HMA := Lib.hid (made_any A c la false w1 (HR.out w1 hb1) (HM.out w1 hb1) HK.out (HG.out w1 hb1))
 clear hb1 HAW
 go_wp2_with fail
 refine HMA.out.mono ?_
 rintro e w2 (⟨_, rfl, hb2⟩ | ⟨_, t, rfl, _, hT, hb2⟩)
 ·have HB2 := Lib.hid (HB1.out.trans (hb2.mono HB1.out.size))
  have HMN := Lib.hid (Match_nil ⟨#[71, 69, 84]⟩ ⟨#[47]⟩ w2 (by decide) (HG.out w2 HB2.out))
  clear hb2 HMA
  go_wp2_with fail
  refine HMN.out.mono ?_
  rintro e w3 ⟨PA, pc, AA, ac, rfl, _, _, hb3⟩
  have HB3 := Lib.hid (HB2.out.trans (hb3.mono HB2.out.size))
  clear hb3 HMN
  dsimp only [mNone, List.length_nil]
  have HBN := Lib.hid (Blk.new w3 47 #[.int .i64 0, .int .i64 (-1), .string ⟨#[]⟩, .slice PA 0 pc, .slice AA 0 ac, .string ⟨#[]⟩])
  have HB4 := Lib.hid (HB3.out.alloc HB3.out.size (.cells #[.int .i64 0, .int .i64 (-1), .string ⟨#[]⟩, .slice PA 0 pc, .slice AA 0 ac, .string ⟨#[]⟩] 47))
  go_upto_region 8 with (fail)
  obtain ⟨nb, hnb⟩ : ∃ nb : Nat, nb = w3.heap.size := ⟨_, rfl⟩
  rw [← hnb] at HBN
  rw [← hnb]
  generalize (w3.alloc (.cells #[.int .i64 0, .int .i64 (-1), .string ⟨#[]⟩, .slice PA 0 pc, .slice AA 0 ac, .string ⟨#[]⟩] 47)) = w4 at *
  have g0 : w4.cell? ⟨nb, 0, none⟩ = some (.int .i64 0) := HBN.out.cell 0
  have g1 : w4.cell? ⟨nb, 1, none⟩ = some (.int .i64 (-1)) := HBN.out.cell 1
  clear hnb
  go_wp2_with (first
   | (go_at_call 28; refine (Path_nil 0 none 0 0 w4).mono ?_; rintro e w5 ⟨rfl, rfl⟩)
   | (go_at_call 30; refine (Len_nil w4).mono ?_; rintro e w5 ⟨rfl, rfl⟩)
   | (go_at_call 31; refine (Nodes_nil w4).mono ?_; rintro e w5 ⟨rfl, rfl⟩)
   | (go_at_call 25; refine (All_nil w4).mono ?_; rintro e w5 ⟨rfl, rfl⟩)
   | (go_at_call 24; refine (Allow_nil ⟨#[47]⟩ w4).mono ?_; rintro e w5 ⟨rfl, rfl⟩))
  go_ret
  exact ⟨rfl, HB4.out⟩
 ·have HB2 := Lib.hid (HB1.out.trans (hb2.mono HB1.out.size))
  obtain ⟨es, hges, hmes, hnb, hnod⟩ := rtNodes_any t false (plA la) w2 hT
  have HNO := Lib.hid hnod
  have HT := Lib.hid hT
  have HBW := Lib.hid (fun (W : World) (h : Below w2.heap.size w2 W) => HB2.out.trans (h.mono HB2.out.size))
  have hgl := hT.goodL
  have HRN := Lib.hid (fun (W : World) (QA : Option Addr) (qc : Nat) (lp : List Rv) (ho : Row W QA (flatR lp)) (hp : plR lp = plA la) => (show Calls Tryz.prog 32 #[.slice QA lp.length qc] W (fun e w' => e = .returned (.int .i64 (nodesE es : Nat)) ∧ Below W.heap.size W w') from
   rtRNodes_any QA qc lp W ho (by rw [hp]; exact HK.out) (by rw [hp]; exact hgl.1) (by rw [← plR_length lp, hp]; exact hgl.2) hges (by rw [hp]; exact hmes)))
  have HRA := Lib.hid (fun (W : World) (QA : Option Addr) (qc : Nat) (lp : List Rv) (ho : OwnR 0 W (.slice QA lp.length qc) lp) (hp : plR lp = plA la) => (show Calls Tryz.prog 27 #[.slice QA lp.length qc] W (GivesTx W (allowOf (plA la) (fun _ : Rt => true))) from by
   have := rAll_any QA qc lp W (own_row ho.row) ho.ok (by rw [hp]; exact HK.out)
   rw [hp] at this
   exact this))
  have HAL := Lib.hid (fun (W : World) (h : Below w2.heap.size w2 W) => All_any t false (plA la) W (hT.below h))
  have HLE := Lib.hid (fun (W : World) (h : Below w2.heap.size w2 W) => (show Calls Tryz.prog 30 #[.pointer (some ⟨t, 0, none⟩)] W (fun e w' => e = .returned (.int .i64 (la.length : Nat)) ∧ W = w') from by
   have := rtLen_any t false (plA la) W (hT.below h)
   rw [plA_length] at this
   exact this))
  have hlen := allow_len HK.out (fun _ : Rt => true)
  have HPL := Lib.hid (fun (W : World) (h : Below w.heap.size w W) => plain_any A c la W (HR.out W h) (HM.out W h) HK.out)
  generalize allowOf (plA la) (fun _ : Rt => true) = al at *
  have hq2 : ((nodesE es : Int) == (nodesE es : Int)) = true := by simp
  have hq1 : ((la.length : Int) == (la.length : Int)) = true := by simp
  generalize nodesE es = ne at *
  clear hb2 HMA hT hnod hges hmes hgl
  go_wp2_with fail
  refine (HLE.out w2 (Below.refl _ _)).mono ?_
  rintro e w3 ⟨rfl, rfl⟩
  go_wp2_with fail
  refine (HAL.out w2 (Below.refl _ _)).mono ?_
  rintro e w4 ⟨QA, qc, rfl, hoa, hb4⟩
  have HX4 := Lib.hid hb4
  have HOA := Lib.hid (own_row hoa)
  clear hoa hb4
  go_wp2_with fail
  refine (HPL.out w4 (HBW.out w4 HX4.out)).mono ?_
  rintro e w5 ⟨RA, rc, lp, rfl, hO5, hpl5, hb5⟩
  have HX5 := Lib.hid (HX4.out.trans (hb5.mono HX4.out.size))
  have HO5 := Lib.hid (HOA.out.below hb5)
  have HF5 := Lib.hid (HRA.out w5 RA rc lp (hO5.mono (Nat.zero_le _)) hpl5)
  clear hO5 hpl5 hb5
  go_wp2_with fail
  refine HF5.out.mono ?_
  rintro e w6 ⟨SA, sc, rfl, hob, hb6⟩
  have HX6 := Lib.hid (HX5.out.trans (hb6.mono HX5.out.size))
  have HTX := Lib.hid (textsSS_any qc sc al w6 (HO5.out.below hb6) (own_row hob) (by omega))
  clear hob hb6
  go_wp2_with fail
  refine HTX.out.mono ?_
  rintro e w7 ⟨rfl, hb7⟩
  have HX7 := Lib.hid (HX6.out.trans (hb7.mono HX6.out.size))
  clear hb7
  go_wp2_with fail
  refine (HNO.out w7 HX7.out).mono ?_
  rintro e w8 ⟨rfl, hb8⟩
  have HX8 := Lib.hid (HX7.out.trans (hb8.mono HX7.out.size))
  clear hb8
  go_wp2_with fail
  refine (HPL.out w8 (HBW.out w8 HX8.out)).mono ?_
  rintro e w9 ⟨TA, tc, lq, rfl, hO9, hpl9, hb9⟩
  have HX9 := Lib.hid (HX8.out.trans (hb9.mono HX8.out.size))
  have HF9 := Lib.hid (HRN.out w9 TA tc lq (own_row hO9.row) hpl9)
  clear hO9 hpl9 hb9
  go_wp2_with fail
  refine HF9.out.mono ?_
  rintro e w10 ⟨rfl, hb10⟩
  have HB10 := Lib.hid (HBW.out _ (HX9.out.trans (hb10.mono HX9.out.size)))
  clear hb10
  go_wp2
  go_ret
  exact ⟨rfl, HB10.out⟩
end Go.Proofs.YtiohmnhbmmhnhaaGreatDoor
