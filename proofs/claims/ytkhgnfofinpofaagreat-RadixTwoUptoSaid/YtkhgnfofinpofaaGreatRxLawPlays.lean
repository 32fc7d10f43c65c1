/-
  The reference's list of what is kept: the walks of Get and Remove.
-/
import Derived.Test.YtkhgnfofinpofaaGreatRxKf
import Derived.Test.YtkhgnfofinpofaaGreatRxKs
import Derived.Test.YtkhgnfofinpofaaGreatRxKm
import Derived.Test.YtkhgnfofinpofaaGreatRxIt
import Derived.Test.YtkhgnfofinpofaaGreatRxOpen
namespace Go.Proofs.YtkhgnfofinpofaaGreat
open Go.RowKit Go.Shelf Go.Lib

/-- No pattern is kept twice. -/
theorem GoodE.apart {es : List En} (h : GoodE es) : es.Pairwise fun x y => x.1 ≠ y.1 := by
  have hs := h.sortE
  unfold SortE at hs
  refine hs.imp_of_mem fun {x y} hx hy hxy e => ?_
  have h1 := h.pcs x hx
  have h2 := h.pcs y hy
  rw [e] at h1
  have h3 := congrArg Prod.fst (h1.symm.trans h2)
  dsimp only at h3
  rw [h3, ordP_self] at hxy
  exact absurd hxy (by decide)
/-- The entries without a pattern. -/
def remP (es : List En) (s : ByteArray) : List En := match findP es s with
  | some i => es.eraseIdx i
  | none => es
theorem findP_cons (x : En) (es : List En) (s : ByteArray) : findP (x :: es) s = if x.1 = s then some 0 else (findP es s).map (· + 1) := by
  unfold findP
  rw [List.findIdx?_cons]
  by_cases h : x.1 = s
  · rw [if_pos h, decide_eq_true h]; rfl
  · rw [if_neg h, decide_eq_false h]; rfl
theorem remP_filter : ∀ {es : List En} {s : ByteArray}, es.Pairwise (fun x y => x.1 ≠ y.1) → es.filter (fun x => !decide (x.1 = s)) = remP es s
  | [], s, _ => rfl
  | x :: es, s, h => by
    obtain ⟨h1, h2⟩ := List.pairwise_cons.1 h
    have ih := remP_filter (s := s) h2
    by_cases hx : x.1 = s
    · rw [List.filter_cons_of_neg (by rw [decide_eq_true hx]; simp)]
      have e : remP (x :: es) s = es := by
        unfold remP
        rw [findP_cons, if_pos hx]
        rfl
      rw [e]
      exact List.filter_eq_self.2 fun y hy => by
        rw [decide_eq_false (fun e => h1 y hy (hx.trans e.symm))]
        rfl
    · rw [List.filter_cons_of_pos (by rw [decide_eq_false hx]; rfl), ih]
      unfold remP
      rw [findP_cons, if_neg hx]
      cases findP es s with
      | none => rfl
      | some i => rfl
theorem keptE_filter (es : List En) (s : ByteArray) : (keptE es).filter (fun x => !decide (x.1 = s)) = keptE (es.filter fun x => !decide (x.1 = s)) := by
  unfold keptE
  rw [List.filter_map]
  rfl
theorem remTo_rem {es es' : List En} {s : ByteArray} {r : Int × Bool} (h : RemTo es s r es') : es' = remP es s ∧ r = getV es s := by
  rcases h with ⟨h1, h2, h3⟩ | ⟨i, x, h1, h2, h3, h4⟩
  · exact ⟨by unfold remP; rw [h1]; exact h3, by rw [getV_none h1]; exact h2⟩
  · exact ⟨by unfold remP; rw [h1]; exact h4, by rw [getV_some h1 h2]; exact h3⟩
set_option maxRecDepth 20000 in
set_option maxHeartbeats 4000000 in
theorem rGet_any (A : Option Addr) (c : Nat) (es : List En) (s : ByteArray) (w : World) (hr : Row w A (flatKV (keptE es))) (hl : es.length ≤ 4194304) :
    Calls Tryz.prog 16 #[.slice A es.length c, .string s] w fun e w' => e = .returned (.tuple #[.int .i64 (getV es s).1, .bool (getV es s).2]) ∧ w = w' := by
  have HR := Lib.hid hr
  clear hr
  go_enter Tryz.func16, Tryz.ntmps16
  go_wp2
  go_loop [6] (fun i => ∃ k : Nat, k ≤ es.length ∧ i = .int .i64 (k : Int) ∧ Hid (∀ j x, j < k → es[j]? = some x → x.1 ≠ s)) (fun i => es.length - (RowKit.intOf i).toNat)
  case atStart => exact ⟨0, by omega, rfl, Lib.hid (fun j x h => absurd h (Nat.not_lt_zero _))⟩
  case round =>
    obtain ⟨k, hk, rfl, HNO⟩ := hrel
    by_cases hlt : k < es.length
    · obtain ⟨x, hx⟩ := some_of_lt hlt
      have hkI : (k : Int) < (es.length : Int) := by omega
      obtain ⟨b, off, rfl, hb, f0, f1⟩ := HR.out.kv (keptE_get hx)
      have HX := Lib.hid hx
      dsimp only at f0 f1
      clear hx
      by_cases he : x.1 = s
      · have HV := Lib.hid (show getV es s = (x.2.2.2, true) from getV_some (show findP es s = some k from List.findIdx?_eq_some_iff_getElem.2 ⟨hlt, by have := (List.getElem?_eq_some_iff.1 HX.out).2; rw [this]; exact decide_eq_true he, fun j hj => by
          have := HNO.out j es[j] hj (List.getElem?_eq_getElem (by omega))
          rw [decide_eq_false this]
          simp⟩) HX.out)
        rw [he] at f0
        have hq : (s.toList == s.toList) = true := by simp
        generalize x.2.2.2 = xv at *
        clear he HNO
        go_wp2
        go_ret2
        rw [HV.out]
        exact ⟨rfl, rfl⟩
      · have hq : (x.1.toList == s.toList) = false := by rw [eq_str]; exact decide_eq_false he
        have HNO2 : Hid (∀ j x, j < k + 1 → es[j]? = some x → x.1 ≠ s) := Lib.hid (fun j y hj hy => by
          rcases Nat.lt_or_ge j k with h | h
          · exact HNO.out j y h hy
          · obtain rfl : j = k := by omega
            have := HX.out.symm.trans hy
            obtain rfl := Option.some.inj this
            exact he)
        generalize x.1 = xp at *
        clear he HNO
        go_wp2
        go_round
        case rel => exact ⟨k + 1, by omega, by go_num, HNO2⟩
        case measure => simp [RowKit.intOf]; omega
    · obtain rfl : k = es.length := by omega
      have HV := Lib.hid (show getV es s = (0, false) from getV_none (List.findIdx?_eq_none_iff.2 fun x hx => by
        obtain ⟨j, hj, rfl⟩ := List.getElem_of_mem hx
        exact decide_eq_false (HNO.out j _ hj (List.getElem?_eq_getElem hj))))
      go_wp2
      go_ret2
      rw [HV.out]
      exact ⟨rfl, rfl⟩
def GivesKr (w : World) (l : List KV) (e : Ending) (w' : World) : Prop :=
  ∃ B d, e = .returned (.slice B l.length d) ∧ w'.ownsRow w.heap.size 58 2 (.slice B l.length d) l.length (flatKV l) ∧ Below w.heap.size w w'
theorem gives_kr {w w' : World} {l : List KV} {v : Value} (ho : w'.ownsRow w.heap.size 58 2 v l.length (flatKV l)) (hb : Below w.heap.size w w') : GivesKr w l (.returned v) w' := by
  obtain ⟨B, d, rfl⟩ := own_slice ho
  exact ⟨B, d, rfl, ho, hb⟩
set_option maxRecDepth 20000 in
set_option maxHeartbeats 4000000 in
theorem rRemove_any (A : Option Addr) (c : Nat) (es : List En) (s : ByteArray) (w : World) (hr : Row w A (flatKV (keptE es))) (hg : GoodE es) (hl : es.length ≤ 4194304) :
    Calls Tryz.prog 17 #[.slice A es.length c, .string s] w (GivesKr w (keptE (remP es s))) := by
  obtain ⟨i0, hi0, hz0, hz1, hz2⟩ := info_parts info_kept
  rw [← remP_filter hg.apart, ← keptE_filter]
  have HR := Lib.hid hr
  have hkl := keptE_length es
  have HKL := Lib.hid hkl
  have hfl : ∀ k, (((keptE es).take k).filter fun x => !decide (x.1 = s)).length ≤ k := fun k => by
    have := List.length_filter_le (fun x : KV => !decide (x.1 = s)) ((keptE es).take k)
    rw [List.length_take] at this
    omega
  have HFL := Lib.hid hfl
  clear hr hg hkl hfl
  go_enter Tryz.func17, Tryz.ntmps17
  go_wp2
  go_loopw [5, 6] (fun r i wr => ∃ k : Nat, k ≤ es.length ∧ i = .int .i64 (k : Int) ∧ wr.ownsRow w.heap.size 58 2 r (((keptE es).take k).filter fun x => !decide (x.1 = s)).length (flatKV (((keptE es).take k).filter fun x => !decide (x.1 = s))) ∧ Below w.heap.size w wr) (fun _ i _ => es.length - (RowKit.intOf i).toNat)
  case atStart => exact ⟨0, by omega, rfl, World.ownsRow_lit _ #[] 0 (Nat.le_refl _) (by unfold maxLen; omega) rfl, (Below.refl _ _).alloc (Nat.le_refl _) _⟩
  case round =>
    obtain ⟨k, hk, rfl, hown, hbw⟩ := hrel
    have hfk := HFL.out k
    by_cases hlt : k < es.length
    · obtain ⟨x, hx⟩ := some_of_lt hlt
      have hkI : (k : Int) < (es.length : Int) := by omega
      obtain ⟨b, off, rfl, hb, f0, f1⟩ := (HR.out.below hbw).kv (keptE_get hx)
      have htk := keptE_take hx
      dsimp only at f0 f1 htk
      generalize x.1 = xp at *
      generalize x.2.2.2 = xv at *
      clear hx
      by_cases he : xp = s
      · have HT := Lib.hid (show ((keptE es).take (k + 1)).filter (fun x => !decide (x.1 = s)) = ((keptE es).take k).filter (fun x => !decide (x.1 = s)) by
          rw [htk, List.filter_append, List.filter_cons_of_neg (by rw [decide_eq_true (show (xp, xv).1 = s from he)]; simp)]
          simp)
        have hq : (xp.toList == s.toList) = true := by rw [eq_str]; exact decide_eq_true he
        have hq2 : (xp.toList != s.toList) = false := by rw [bne, hq]; rfl
        have HO := Lib.hid hown
        clear he htk hown
        go_wp2
        go_roundw
        case rel => exact ⟨k + 1, by omega, by go_num, by rw [HT.out]; exact HO.out, hbw⟩
        case measure => simp [RowKit.intOf]; omega
      · have HT := Lib.hid (show ((keptE es).take (k + 1)).filter (fun x => !decide (x.1 = s)) = ((keptE es).take k).filter (fun x => !decide (x.1 = s)) ++ [(xp, xv)] by
          rw [htk, List.filter_append, List.filter_cons_of_pos (by rw [decide_eq_false (show ¬ (xp, xv).1 = s from he)]; rfl)]
          rfl)
        have hq : (xp.toList == s.toList) = false := by rw [eq_str]; exact decide_eq_false he
        have hq2 : (xp.toList != s.toList) = true := by rw [bne, hq]; rfl
        clear he htk
        generalize ((keptE es).take k).filter (fun x => !decide (x.1 = s)) = acc at *
        go_wp2_with (at_builtin; refine wpList_append_any _ rfl (.tmp 21) (.tmp 26) 26 rfl w.heap.size 58 i0 (.agg #[.string ⟨#[]⟩, .int .i64 0]) 2 24 Tryz.underlying26 hi0 hz0 hz1 hz2 rfl (by decide) _ _ _ rfl (hown.alloc _) _ (some ⟨wr.heap.size, 0, none⟩) 1 1 [.string xp, .int .i64 xv] rfl (reads_of_row (row_newc _ _ 58 (by simp)) rfl (by decide)) (flatKV_oneCell [(xp, xv)]) (by unfold maxLen; omega) (by omega) (by simp; have := hbw.size; omega) ?_; intro v' w3 hown3 hg3 _)
        have hb3 := (hbw.alloc hbw.size (.cells #[.string xp, .int .i64 xv] 58)).grown hg3 (by simp; have := hbw.size; omega) (own_lt hown)
        have hown4 : w3.ownsRow w.heap.size 58 2 v' (((keptE es).take (k + 1)).filter fun x => !decide (x.1 = s)).length (flatKV (((keptE es).take (k + 1)).filter fun x => !decide (x.1 = s))) := by
          rw [HT.out, flatKV_append, List.length_append]
          exact hown3
        have HO4 := Lib.hid hown4
        have HB3 := Lib.hid hb3
        clear hown3 hg3 hown4 hb3 hown
        go_wp2
        go_roundw
        case rel => exact ⟨k + 1, by omega, by go_num, HO4.out, HB3.out⟩
        case measure => simp [RowKit.intOf]; omega
    · obtain rfl : k = es.length := by omega
      rw [List.take_of_length_le (by rw [HKL.out]; exact Nat.le_refl _)] at hown
      have HO := Lib.hid hown
      clear hown
      go_wp2
      go_ret
      exact gives_kr HO.out hbw
end Go.Proofs.YtkhgnfofinpofaaGreat

/-
  One step of a script: on the tree, and on the document's list.
-/
namespace Go.Proofs.YtkhgnfofinpofaaGreat
open Go.RowKit Go.Shelf Go.Lib
attribute [local go_sem] Oper.semAt_some

def GivesStep (V : Nat → Prop) (w0 w : World) (q B : Nat) (e : Ending) (w' : World) : Prop :=
  ∃ es' A c, e = .returned (.tuple #[.slice A es'.length c, .bool true]) ∧ Kv V w0 w' q es' B ∧ RowF (fun b => b ≠ q ∧ ¬ V b) w' A (flatKV (keptE es')) ∧ Turn q w w'
theorem tmod_six (k : Int) : -5 ≤ k.tmod 6 ∧ k.tmod 6 ≤ 5 := by
  have h := Int.natAbs_tmod k 6
  have h2 : k.natAbs % (6 : Int).natAbs < 6 := Nat.mod_lt _ (by decide)
  omega
theorem row_step {V : Nat → Prop} {q n : Nat} {w : World} {A : Option Addr} {t : TypeId} {sz c m : Nat} {xs : List Value} (h : w.ownsRow n t sz (.slice A m c) m xs) (hq : q < n) (hV : ∀ b, V b → b < n) : RowF (fun b => b ≠ q ∧ ¬ V b) w A xs :=
  RowF.own h fun b hb => by
    have hb2 : n ≤ b := by
      rcases h.2 with ⟨e, _⟩ | ⟨g, cap, cur, e, hg, _⟩
      · rw [e] at hb; cases hb
      · rw [e] at hb; cases hb; exact hg
    exact ⟨by omega, fun hv => by have := hV b hv; omega⟩
set_option maxRecDepth 100000 in
set_option maxHeartbeats 8000000 in
theorem step_any (V : Nat → Prop) (w0 w : World) (q B : Nat) (es : List En) (A : Option Addr) (c : Nat) (o : OpR) (h : Kv V w0 w q es B) (hr : RowF (fun b => b ≠ q ∧ ¬ V b) w A (flatKV (keptE es))) (hB : 3 * (B + (o.2.1.size + 1)) ≤ 4194304) (hg : Glob w0) :
    Calls Tryz.prog 7 #[.pointer (some ⟨q, 0, none⟩), .slice A es.length c, .agg (opV o).toArray] w (GivesStep V w0 w q (B + (o.2.1.size + 1))) := by
  obtain ⟨k, s, v⟩ := o
  unfold opV
  dsimp only at hB ⊢
  have HK := Lib.hid h
  have HR := Lib.hid hr
  have HG := Lib.hid hg
  have hsum := h.kp.sum
  have hlen := sumE_len es
  clear h hr hg
  have hk5 := tmod_six k
  have hk6 : k.tmod 6 % 6 = 0 ∨ k.tmod 6 % 6 = 1 ∨ k.tmod 6 % 6 = 2 ∨ k.tmod 6 % 6 = 3 ∨ k.tmod 6 % 6 = 4 ∨ k.tmod 6 % 6 = 5 := by omega
  have hql := HK.out.kp.lt
  have hgood := HK.out.kp.good
  have HV := Lib.hid (fun b (hb : V b) => (HK.out.off hb).1)
  have hz : ∀ x ∈ es, x.1.size ≤ 4194304 := fun x hx => by have := sumE_mem hx; omega
  have hb0 : Below w.heap.size w (w.alloc (.cells #[.int .i64 k, .string s, .int .i64 v] 30)) := (Below.refl _ w).alloc (Nat.le_refl _) _
  have HGZ := Lib.hid (And.intro hgood hz)
  have HB0 := Lib.hid hb0
  clear hgood hz hb0
  have HCS := Lib.hid (show ∀ W, Turn q (w.alloc (.cells #[.int .i64 k, .string s, .int .i64 v] 30)) W → W.cell? ⟨w.heap.size, 1, none⟩ = some (.string s) ∧ W.cell? ⟨w.heap.size, 2, none⟩ = some (.int .i64 v) from fun W h => by
    have hblk : W.heap[w.heap.size]? = (w.alloc (.cells #[.int .i64 k, .string s, .int .i64 v] 30)).heap[w.heap.size]? := h.block w.heap.size (by simp) (by omega)
    exact ⟨(World.cell?_of_block (a := ⟨w.heap.size, 1, none⟩) hblk).trans (by simp), (World.cell?_of_block (a := ⟨w.heap.size, 2, none⟩) hblk).trans (by simp)⟩)
  have HT0 : ∀ {w'}, Below w.heap.size w w' → Turn q w w' := fun h => Turn.of_below h
  go_enter Tryz.func7, Tryz.ntmps7
  rcases hk6 with h6 | h6 | h6 | h6 | h6 | h6
  · have q0 : (k.tmod 6 % 6 == 0) = true := by rw [h6]; rfl
    have HI := Lib.hid (fun W (hb : Below w.heap.size w W) => rInsert_any A c es s v W (HR.out.row.below hb) HGZ.out.1 (by omega) HGZ.out.2 (by omega))
    have HI2 := Lib.hid (fun W (hb : Below w.heap.size w W) => InsertV V w0 W q es B s v (HK.out.below hb) hB)
    clear h6
    go_wp2_with fail
    refine (HI.out _ HB0.out).mono ?_
    rintro e w1 (⟨h1, rfl, h3⟩ | ⟨h1, h2, rfl, h3⟩ | ⟨h1, h2, ⟨Bn, d, rfl, ho⟩, h3⟩)
    · have B1 := HB0.out.trans (h3.mono HB0.out.size)
      obtain ⟨k1, k2⟩ := HCS.out _ (Turn.of_below h3)
      clear h3
      go_wp2_with fail
      refine (HI2.out _ B1).mono ?_
      rintro e w2 ⟨code, es', rfl, hto, hk, ht⟩
      obtain ⟨rfl, rfl⟩ : code = 130 ∧ es' = es := by
        rcases hto with ⟨_, h, h'⟩ | ⟨h, _⟩ | ⟨h, _⟩
        · exact ⟨h, h'⟩
        · rw [h1] at h; cases h
        · rw [h1] at h; cases h
      have T2 := (Turn.of_below B1).trans ht
      have hr2 := HR.out.hold (T2.hold (S := fun b => b ≠ q ∧ ¬ V b) (fun h => h.1 rfl))
      clear hto h1
      go_wp2
      go_ret2
      exact ⟨_, _, _, rfl, hk, hr2, T2⟩
    · have B1 := HB0.out.trans (h3.mono HB0.out.size)
      obtain ⟨k1, k2⟩ := HCS.out _ (Turn.of_below h3)
      clear h3
      go_wp2_with fail
      refine (HI2.out _ B1).mono ?_
      rintro e w2 ⟨code, es', rfl, hto, hk, ht⟩
      obtain ⟨rfl, rfl⟩ : code = 131 ∧ es' = es := by
        rcases hto with ⟨h, _⟩ | ⟨_, _, h, h'⟩ | ⟨_, h, _⟩
        · rw [h1] at h; cases h
        · exact ⟨h, h'⟩
        · obtain ⟨y, hy, hy2⟩ := h2
          exact absurd hy2 (h y hy)
      have T2 := (Turn.of_below B1).trans ht
      have hr2 := HR.out.hold (T2.hold (S := fun b => b ≠ q ∧ ¬ V b) (fun h => h.1 rfl))
      clear hto h1 h2
      go_wp2
      go_ret2
      exact ⟨_, _, _, rfl, hk, hr2, T2⟩
    · have B1 := HB0.out.trans (h3.mono HB0.out.size)
      have hr1 := row_step (V := V) (q := q) ho (Nat.lt_of_lt_of_le hql HB0.out.size) (fun b hb => Nat.lt_of_lt_of_le (HV.out b hb) HB0.out.size)
      obtain ⟨k1, k2⟩ := HCS.out _ (Turn.of_below h3)
      clear h3 ho
      generalize hin : insK es (splitP s).1 (s, v) = ik at *
      have HIN := Lib.hid hin
      clear hin
      go_wp2_with fail
      refine (HI2.out _ B1).mono ?_
      rintro e w2 ⟨code, es', rfl, hto, hk, ht⟩
      obtain ⟨rfl, loc, hes'⟩ : code = 0 ∧ ∃ loc, es' = insE es (s, loc, (splitP s).1, v) := by
        rcases hto with ⟨h, _⟩ | ⟨_, h, _⟩ | ⟨_, _, h, h'⟩
        · rw [h1] at h; cases h
        · obtain ⟨y, hy, hy2⟩ := h
          exact absurd hy2 (h2 y hy)
        · exact ⟨h, h'⟩
      have hke : keptE es' = ik := by rw [hes', keptE_ins]; exact HIN.out
      have hkl : ik.length = es'.length := by rw [← hke, keptE_length]
      have T2 := (Turn.of_below B1).trans ht
      have hr2 := hr1.hold (ht.hold (S := fun b => b ≠ q ∧ ¬ V b) (fun h => h.1 rfl))
      rw [← hke] at hr2
      rw [hkl]
      clear hto h1 h2 hes' hke hkl hr1
      go_wp2
      go_ret2
      exact ⟨_, _, _, rfl, hk, hr2, T2⟩
  · have q0 : (k.tmod 6 % 6 == 0) = false := by rw [h6]; rfl
    have q1 : (k.tmod 6 % 6 == 1) = true := by rw [h6]; rfl
    have HRM := Lib.hid (fun W (hb : Below w.heap.size w W) => RemoveV V w0 W q es B s (HK.out.below hb) (by omega))
    have HG2 := Lib.hid (fun W (hb : Row W A (flatKV (keptE es))) => rGet_any A c es s W hb (by omega))
    have HR2 := Lib.hid (fun W (hb : Row W A (flatKV (keptE es))) => rRemove_any A c es s W hb HGZ.out.1 (by omega))
    clear h6
    go_wp2_with fail
    refine (HRM.out _ HB0.out).mono ?_
    rintro e w1 ⟨r, es', rfl, hto, hk, ht⟩
    obtain ⟨rfl, rfl⟩ := remTo_rem hto
    have T1 := (Turn.of_below (q := q) HB0.out).trans ht
    have hr1 := HR.out.hold (T1.hold (S := fun b => b ≠ q ∧ ¬ V b) (fun h => h.1 rfl))
    obtain ⟨k1, k2⟩ := HCS.out _ ht
    clear hto
    generalize getV es s = r at *
    obtain ⟨rv, rb⟩ := r
    dsimp only
    dsimp only at HG2
    go_wp2_with fail
    refine (HG2.out _ hr1.row).mono ?_
    rintro e w2 ⟨rfl, rfl⟩
    go_wp2_with fail
    refine (HR2.out _ hr1.row).mono ?_
    rintro e w3 ⟨Bn, d, rfl, ho, hb3⟩
    have hr3 := row_step (V := V) (q := q) ho (Nat.lt_of_lt_of_le hql T1.size) (fun b hb => Nat.lt_of_lt_of_le (HV.out b hb) T1.size)
    have T3 := T1.trans (Turn.of_below hb3)
    have hk3 := (hk.below hb3).more (show B ≤ B + (s.size + 1) by omega)
    have e1 : (rv == rv) = true := by simp
    have e2 : (rb == rb) = true := by simp
    rw [keptE_length]
    clear ho hb3 hk hr1
    go_wp2
    go_ret2
    exact ⟨_, _, _, rfl, hk3, hr3, T3⟩
  · have q0 : (k.tmod 6 % 6 == 0) = false := by rw [h6]; rfl
    have q1 : (k.tmod 6 % 6 == 1) = false := by rw [h6]; rfl
    have q2 : (k.tmod 6 % 6 == 2) = true := by rw [h6]; rfl
    have HGT := Lib.hid (fun W (hb : Below w.heap.size w W) => GetK s (HK.out.below hb).kp (by omega))
    have HG2 := Lib.hid (fun W (hb : Below w.heap.size w W) => rGet_any A c es s W (HR.out.row.below hb) (by omega))
    clear h6
    generalize getV es s = r at *
    obtain ⟨rv, rb⟩ := r
    dsimp only at HGT HG2
    have e1 : (rv == rv) = true := by simp
    have e2 : (rb == rb) = true := by simp
    go_wp2_with fail
    refine (HGT.out _ HB0.out).mono ?_
    rintro e w1 ⟨rfl, hb1⟩
    have B1 := HB0.out.trans (hb1.mono HB0.out.size)
    obtain ⟨k1, k2⟩ := HCS.out _ (Turn.of_below hb1)
    clear hb1
    go_wp2_with fail
    refine (HG2.out _ B1).mono ?_
    rintro e w2 ⟨rfl, rfl⟩
    go_wp2
    go_ret2
    exact ⟨_, _, _, rfl, (HK.out.below B1).more (by omega), HR.out.hold (Hold.of_below B1), HT0 B1⟩
  · have q0 : (k.tmod 6 % 6 == 0) = false := by rw [h6]; rfl
    have q1 : (k.tmod 6 % 6 == 1) = false := by rw [h6]; rfl
    have q2 : (k.tmod 6 % 6 == 2) = false := by rw [h6]; rfl
    have q3 : (k.tmod 6 % 6 == 3) = true := by rw [h6]; rfl
    have HF := Lib.hid (fun W (hb : Below w.heap.size w W) => FindK s (HK.out.below hb).kp (by omega) (by omega) HG.out)
    have HF2 := Lib.hid (fun W (hb : Below w.heap.size w W) => rFind_any A c es s W (HR.out.row.below hb) HGZ.out.1 (by omega) HGZ.out.2 (by omega))
    clear h6
    go_wp2_with fail
    refine (HF.out _ HB0.out).mono ?_
    rintro e w1 (⟨g1, rfl, hb1⟩ | ⟨i, x, g1, g2, ⟨FA, fc, rfl, fo⟩, hb1⟩)
    · have B1 := HB0.out.trans (hb1.mono HB0.out.size)
      obtain ⟨k1, k2⟩ := HCS.out _ (Turn.of_below hb1)
      clear hb1
      rw [g1] at HF2
      go_wp2_with fail
      refine (HF2.out _ B1).mono ?_
      rintro e w2 (⟨_, ⟨Bn, rfl⟩, hb2⟩ | ⟨i, x, g, _⟩)
      · have B2 := B1.trans (hb2.mono B1.size)
        clear hb2 g1
        have HPM := Lib.hid (fun W => params_same none Bn 0 0 [] W (Row.nil _ _) (Row.nil _ _) (by simp))
        have e3 : ((⟨#[]⟩ : ByteArray).toList == (⟨#[]⟩ : ByteArray).toList) = true := by simp
        go_wp2_with fail
        refine (HPM.out _).mono ?_
        rintro e w3 ⟨rfl, qn, rfl⟩
        have B3 := below_drewN (B2.alloc B2.size (.cells #[.string ⟨#[]⟩, .int .i64 0] 58)) qn
        go_wp2
        go_ret2
        exact ⟨_, _, _, rfl, (HK.out.below B3).more (by omega), HR.out.hold (Hold.of_below B3), HT0 B3⟩
      · cases g
    · have B1 := HB0.out.trans (hb1.mono HB0.out.size)
      rw [g1] at HF2
      obtain ⟨k1, k2⟩ := HCS.out _ (Turn.of_below hb1)
      clear hb1 g1
      go_wp2_with fail
      refine (HF2.out _ B1).mono ?_
      rintro e w2 (⟨g, _⟩ | ⟨i', x', g, g', ⟨Bn, d, rfl, hrb⟩, hb2⟩)
      · cases g
      · cases g
        have hxm := g2
        rw [g2] at g'
        cases g'
        have B2 := B1.trans (hb2.mono B1.size)
        have hra := (own_row fo).below hb2
        clear fo hb2 g2
        have e1 : (x.2.2.2 == x.2.2.2) = true := by simp
        have e3 : (x.1.toList == x.1.toList) = true := by simp
        have hxz := HGZ.out.2 x (List.mem_of_getElem? hxm)
        have hfl := refFits_len x.1 s
        rw [ref_fits] at hfl
        have HLX := Lib.hid (show (fitVal (fitsP x.1 s)).1.length ≤ 4398046511104 by omega)
        clear hxz hfl hxm
        obtain ⟨yp, yl, yc, yv⟩ := x
        dsimp only at *
        generalize (fitVal (fitsP yp s)).1 = fl at *
        have HPM := Lib.hid (fun W (h : Below w2.heap.size w2 W) => params_same FA Bn fc d fl W (hra.below h) (hrb.below h) HLX.out)
        have b3 := (Below.refl _ w2).alloc (Nat.le_refl _) (.cells #[.string yp, .int .i64 yv] 58)
        clear hra hrb
        go_wp2_with fail
        refine (HPM.out _ b3).mono ?_
        rintro e w3 ⟨rfl, qn, rfl⟩
        have B3 := below_drewN (B2.trans (b3.mono B2.size)) qn
        go_wp2
        go_ret2
        exact ⟨_, _, _, rfl, (HK.out.below B3).more (by omega), HR.out.hold (Hold.of_below B3), HT0 B3⟩
  · have q0 : (k.tmod 6 % 6 == 0) = false := by rw [h6]; rfl
    have q1 : (k.tmod 6 % 6 == 1) = false := by rw [h6]; rfl
    have q2 : (k.tmod 6 % 6 == 2) = false := by rw [h6]; rfl
    have q3 : (k.tmod 6 % 6 == 3) = false := by rw [h6]; rfl
    have q4 : (k.tmod 6 % 6 == 4) = true := by rw [h6]; rfl
    have HW := Lib.hid (fun W (hb : Below w.heap.size w W) => (HK.out.below hb).elim fun S h => whole_any S A c es q W h.1 (HR.out.row.below hb) (by omega))
    clear h6
    go_wp2_with fail
    refine (HW.out _ HB0.out).mono ?_
    rintro e w1 ⟨rfl, hb1⟩
    have B1 := HB0.out.trans (hb1.mono HB0.out.size)
    clear hb1
    go_wp2
    go_ret2
    exact ⟨_, _, _, rfl, (HK.out.below B1).more (by omega), HR.out.hold (Hold.of_below B1), HT0 B1⟩
  · have q0 : (k.tmod 6 % 6 == 0) = false := by rw [h6]; rfl
    have q1 : (k.tmod 6 % 6 == 1) = false := by rw [h6]; rfl
    have q2 : (k.tmod 6 % 6 == 2) = false := by rw [h6]; rfl
    have q3 : (k.tmod 6 % 6 == 3) = false := by rw [h6]; rfl
    have q4 : (k.tmod 6 % 6 == 4) = false := by rw [h6]; rfl
    have HL := Lib.hid (fun W (hb : Below w.heap.size w W) => LenK (HK.out.below hb).kp)
    have HN := Lib.hid (fun W (hb : Below w.heap.size w W) => NodesK (HK.out.below hb).kp (by omega))
    have HN2 := Lib.hid (fun W (hb : Below w.heap.size w W) => rNodes_any A c es W (HR.out.row.below hb) HGZ.out.1 (by omega))
    clear h6
    have e1 : (((es.length : Nat) : Int) == ((es.length : Nat) : Int)) = true := by simp
    have e2 : (((nodesE es : Nat) : Int) == ((nodesE es : Nat) : Int)) = true := by simp
    go_wp2_with fail
    refine (HL.out _ HB0.out).mono ?_
    rintro e w1 ⟨rfl, rfl⟩
    go_wp2_with fail
    refine (HN.out _ HB0.out).mono ?_
    rintro e w2 ⟨rfl, hd2⟩
    have B2 := HB0.out.trans (hd2.below.mono HB0.out.size)
    clear hd2
    go_wp2_with fail
    refine (HN2.out _ B2).mono ?_
    rintro e w3 ⟨rfl, hb3⟩
    have B3 := B2.trans (hb3.mono B2.size)
    clear hb3 B2
    go_wp2
    go_ret2
    exact ⟨_, _, _, rfl, (HK.out.below B3).more (by omega), HR.out.hold (Hold.of_below B3), HT0 B3⟩
end Go.Proofs.YtkhgnfofinpofaaGreat

/-
  The walk of RadixPlays.
-/
namespace Go.Proofs.YtkhgnfofinpofaaGreat
open Go.RowKit Go.Shelf Go.Lib
attribute [local go_sem] Oper.semAt_some

theorem bulkO_take {l : List OpR} {k : Nat} {x : OpR} (h : l[k]? = some x) : bulkO (l.take (k + 1)) = bulkO (l.take k) + (x.2.1.size + 4) := by
  rw [take_snoc h]
  simp [bulkO]
theorem bulkO_take_le (l : List OpR) (k : Nat) : bulkO (l.take k) ≤ bulkO l := by
  have h : bulkO l = bulkO (l.take k) + bulkO (l.drop k) := by
    conv => lhs; rw [← List.take_append_drop k l]
    simp only [bulkO, List.map_append, List.sum_append]
  omega
theorem bulkO_len (l : List OpR) : l.length ≤ bulkO l := by
  induction l with
  | nil => exact Nat.le_refl _
  | cons p l ih =>
    show l.length + 1 ≤ (p.2.1.size + 4) + bulkO l
    omega
/-- What a tree is, beside the document's list. -/
def Both (V : Nat → Prop) (w0 w : World) (q : Nat) (es : List En) (A : Option Addr) (B : Nat) : Prop := Kv V w0 w q es B ∧ RowF (fun b => b ≠ q ∧ ¬ V b) w A (flatKV (keptE es))
set_option maxRecDepth 100000 in
set_option maxHeartbeats 8000000 in
theorem RadixPlays_walk (A : Option Addr) (c : Nat) (l : List OpR) (w : World) (hr : Row w A (flatO l)) (hk : bulkO l ≤ 1048576) (hg : Glob w) :
    Calls Tryz.prog 3 #[.slice A l.length c] w fun e w' => e = .returned (.bool true) ∧ Below w.heap.size w w' := by
  have HN := Lib.hid (NewK w w (Below.refl _ _))
  have HG := Lib.hid hg
  have HR := Lib.hid hr
  have HTL := Lib.hid (bulkO_take_le l)
  have hll : l.length ≤ 1048576 := Nat.le_trans (bulkO_len l) hk
  clear hg hr
  go_enter Tryz.func3, Tryz.ntmps3
  go_wp2_with fail
  refine HN.out.mono ?_
  rintro e w1 ⟨rfl, hK1, hb1⟩
  go_wp2_with fail
  refine (awake_any _ (HG.out.beyond hb1)).mono ?_
  rintro e w2 ⟨rfl, hb2⟩
  have hK2 := Lib.hid (show Kv (fun _ => False) w w2 (w.heap.size + 1) [] 0 from (hK1.below hb2).elim fun S h => ⟨S, h.1, h.2.1, h.2.2.1, h.2.2.2.1, h.2.2.2.2, fun b hb => hb.elim⟩)
  clear HN hK1 hb1 hb2
  generalize hq : w.heap.size + 1 = q at *
  clear hq
  go_wp2
  go_loopw [4, 5] (fun lv iv wr => ∃ (k : Nat) (es : List En) (KA : Option Addr) (kc : Nat), k ≤ l.length ∧ iv = .int .i64 (k : Int) ∧ lv = .slice KA es.length kc ∧ Hid (Both (fun _ => False) w wr q es KA (bulkO (l.take k)))) (fun _ iv _ => l.length - (RowKit.intOf iv).toNat)
  case atStart => exact ⟨0, [], _, _, by omega, rfl, rfl, Lib.hid ⟨(hK2.out.below (by first | exact Below.refl _ _ | exact (Below.refl _ _).alloc (Nat.le_refl _) _)).more (Nat.zero_le _), fun h => absurd h (Nat.lt_irrefl 0)⟩⟩
  case round =>
    obtain ⟨k, es, KA, kc, hkl, rfl, rfl, HB⟩ := hrel
    have HTLk := HTL.out k
    by_cases hlt : k < l.length
    · obtain ⟨x, hx⟩ := some_of_lt hlt
      have hkI : (k : Int) < (l.length : Int) := by omega
      obtain ⟨b, off, rfl, hb, f0, f1, f2⟩ := (HR.out.below HB.out.1.kp.base).op hx
      have hst := bulkO_take hx
      have h2 := HTL.out (k + 1)
      have HS := Lib.hid (step_any (fun _ => False) w wr q _ es KA kc x HB.out.1 HB.out.2 (by omega) HG.out)
      have HST := Lib.hid hst
      clear hx hst h2 hK2
      obtain ⟨x0, x1, x2⟩ := x
      dsimp only at f0 f1 f2
      unfold opV at HS
      dsimp only at HS
      go_wp2_with fail
      refine HS.out.mono ?_
      rintro e w3 ⟨es', KA', kc', rfl, hk3, hr3, ht3⟩
      have HB3 := Lib.hid (show Both (fun _ => False) w w3 q es' KA' (bulkO (l.take (k + 1))) from ⟨hk3.more (by rw [HST.out]; show bulkO (l.take k) + (x1.size + 1) ≤ bulkO (l.take k) + (x1.size + 4); omega), hr3⟩)
      clear hk3 hr3 ht3 HS
      go_wp2
      go_roundw
      case rel => exact ⟨k + 1, es', KA', kc', by omega, by go_num, rfl, HB3⟩
      case measure => simp [RowKit.intOf]; omega
    · obtain rfl : k = l.length := by omega
      have hsum := HB.out.1.kp.sum
      have hel := sumE_len es
      have HL := Lib.hid (fun W (hb : Below wr.heap.size wr W) => LenK (HB.out.1.below hb).kp)
      have HND := Lib.hid (fun W (hb : Below wr.heap.size wr W) => NodesK (HB.out.1.below hb).kp (by omega))
      have HN2 := Lib.hid (fun W (hb : Below wr.heap.size wr W) => rNodes_any KA kc es W (HB.out.2.row.below hb) HB.out.1.kp.good (by omega))
      have HW := Lib.hid (fun W (hb : Below wr.heap.size wr W) => (HB.out.1.below hb).elim fun S h => whole_any S KA kc es q W h.1 (HB.out.2.row.below hb) (by omega))
      have HBA := Lib.hid HB.out.1.kp.base
      have e1 : (((es.length : Nat) : Int) == ((es.length : Nat) : Int)) = true := by simp
      have e2 : (((nodesE es : Nat) : Int) == ((nodesE es : Nat) : Int)) = true := by simp
      clear hK2
      go_wp2_with fail
      refine (HL.out _ (Below.refl _ _)).mono ?_
      rintro e w4 ⟨rfl, rfl⟩
      go_wp2_with fail
      refine (HND.out _ (Below.refl _ _)).mono ?_
      rintro e w5 ⟨rfl, hd5⟩
      have B5 : Below wr.heap.size wr w5 := hd5.below
      clear hd5
      go_wp2_with fail
      refine (HN2.out _ B5).mono ?_
      rintro e w6 ⟨rfl, hb6⟩
      have B6 := B5.trans (hb6.mono B5.size)
      clear hb6 B5
      go_wp2_with fail
      refine (HW.out _ B6).mono ?_
      rintro e w7 ⟨rfl, hb7⟩
      have B7 := B6.trans (hb7.mono B6.size)
      have hbF := HBA.out.trans (B7.mono HBA.out.size)
      clear hb7 B6
      go_wp2
      go_ret
      exact ⟨rfl, hbF⟩
end Go.Proofs.YtkhgnfofinpofaaGreat
