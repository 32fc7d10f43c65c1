/-
  Whether a pattern fits a path: the walk of Fits.
-/
import Derived.Test.YtkhgnfofinpofaaRxR
import Derived.Test.YtkhgnfofinpofaaRxV
import Derived.Test.YtkhgnfofinpofaaTgNo
import Derived.Test.YtkhgnfofinpofaaTgLib
import Derived.Test.YtkhgnfofinpofaaRxF
namespace Go.Proofs.Ytkhgnfofinpofaa
open Go.RowKit Go.Shelf Go.Lib

theorem own_less {w : World} {b b' sz n : Nat} {E : TypeId} {v : Value} {xs : List Value} (h : w.ownsRow b E sz v n xs) (hb : b' ≤ b) : w.ownsRow b' E sz v n xs := by
  refine ⟨h.1, ?_⟩
  rcases h.2 with h | ⟨g, c, cur, e, h1, h2⟩
  · exact .inl h
  · exact .inr ⟨g, c, cur, e, Nat.le_trans hb h1, h2⟩
def Drawn1 (w w' : World) : Prop := ∃ q : Nat, w' = w.drewN q
/-- What a call hands back that fits. -/
def GivesFit (w : World) (r : Option (List Prm)) (e : Ending) (w' : World) : Prop :=
  ∃ A c, e = .returned (.tuple #[.slice A (fitVal r).1.length c, .bool (fitVal r).2]) ∧ w'.ownsRow w.heap.size 45 3 (.slice A (fitVal r).1.length c) (fitVal r).1.length (flat3 (fitVal r).1) ∧ Below w.heap.size w w'
theorem gives_nofit {w w' : World} {r : Option (List Prm)} (h : r = none) (hb : Below w.heap.size w w') : GivesFit w r (.returned (.tuple #[.slice none 0 0, .bool false])) w' := by
  subst h
  exact ⟨none, 0, rfl, World.ownsRow_nil _ _ _ _, hb⟩
theorem gives_fit {w w' : World} {r : Option (List Prm)} {l : List Prm} {v : Value} (h : r = some l) (ho : w'.ownsRow w.heap.size 45 3 v l.length (flat3 l)) (hb : Below w.heap.size w w') : GivesFit w r (.returned (.tuple #[v, .bool true])) w' := by
  subst h
  obtain ⟨A, c, rfl⟩ := own_slice ho
  exact ⟨A, c, rfl, ho, hb⟩
theorem fitGo_cons {p : Pc} {l : List Pc} {left : ByteArray} {out : List Prm} : fitGo (p :: l) left true out = if p.1 = 2 then some (out ++ [(p.2, left, true)]) else if (p.1 = 0 ∧ (cutW left 47).1 ≠ p.2) ∨ (p.1 = 1 ∧ (cutW left 47).1.size = 0) then none else fitGo l (cutW left 47).2.1 (cutW left 47).2.2 (if p.1 = 1 then out ++ [(p.2, (cutW left 47).1, true)] else out) := by
  conv => lhs; unfold fitGo
  rw [if_neg (by simp)]
set_option maxRecDepth 20000 in
theorem xPath_any (s : ByteArray) (w : World) (hs : s.size ≤ 4194304) (hg : Glob w) :
    Calls Try.prog 43 #[.string s] w fun e w' => e = .returned (.bool (isPathB s)) ∧ Below w.heap.size w w' := by
  have HN := Lib.hid (Normal_any s w hs hg)
  unfold normVal at HN
  have hn : ((normR s).2 == 0) = isPathB s := by
    unfold normR
    cases isPathB s <;> rfl
  generalize normR s = r at *
  obtain ⟨t, e0⟩ := r
  dsimp only at hn HN
  have HB := Lib.hid hn
  clear hn
  cases hb : (e0 == 0)
  · rw [hb] at HB
    go_enter Try.func43, Try.ntmps43
    go_wp2_with fail
    refine HN.out.mono ?_
    rintro e w1 ⟨rfl, hb1⟩
    go_wp2
    go_ret
    exact ⟨ret_bool (by rw [← HB.out]), hb1⟩
  · rw [hb] at HB
    go_enter Try.func43, Try.ntmps43
    go_wp2_with fail
    refine HN.out.mono ?_
    rintro e w1 ⟨rfl, hb1⟩
    go_wp2
    go_ret
    exact ⟨ret_bool (by rw [← HB.out]), hb1⟩
set_option maxRecDepth 20000 in
set_option maxHeartbeats 8000000 in
theorem Fits_any (s path : ByteArray) (w : World) (hs : s.size ≤ 4194304) (hp : path.size ≤ 4194304) (hg : Glob w) :
    Calls Try.prog 16 #[.string s, .string path] w (GivesFit w (fitsP s path)) := by
  obtain ⟨i0, hi0, hz0, hz1, hz2⟩ := info_parts info_param
  have HSP := Lib.hid (fun W => split_any s W hs)
  have HPA := Lib.hid (fun W (hg : Glob W) => xPath_any path W hp hg)
  have hwf := @split_wf s
  have hfd : fitsP s path = if (splitP s).2.2 = true ∧ isPathB path = true then fitGo (splitP s).1 (behindS path) true [] else none := rfl
  obtain ⟨⟨pl, pa, pg⟩, hsp⟩ : ∃ r, r = splitP s := ⟨_, rfl⟩
  rw [← hsp] at HSP hwf hfd
  dsimp only at hwf hfd
  have HG := Lib.hid hg
  clear hsp hg
  cases pg
  · have HF := Lib.hid (show fitsP s path = none by rw [hfd]; exact if_neg (fun h => by cases h.1))
    clear hfd hwf
    go_enter Try.func16, Try.ntmps16
    go_wp2_with fail
    refine (HSP.out _).mono ?_
    rintro e w1 ⟨A, c, rfl, ho, hb⟩
    dsimp only
    clear ho
    go_wp2
    go_ret2
    exact gives_nofit HF.out hb
  · cases hpp : isPathB path
    · have HF := Lib.hid (show fitsP s path = none by rw [hfd]; exact if_neg (fun h => by rw [hpp] at h; cases h.2))
      rw [hpp] at HPA
      clear hfd hwf hpp
      go_enter Try.func16, Try.ntmps16
      go_wp2_with fail
      refine (HSP.out _).mono ?_
      rintro e w1 ⟨A, c, rfl, ho, hb⟩
      dsimp only
      clear ho
      go_wp2_with fail
      refine (HPA.out _ (HG.out.beyond hb)).mono ?_
      rintro e w2 ⟨rfl, hb2⟩
      have hb3 := hb.trans (hb2.mono hb.size)
      go_wp2
      go_ret2
      exact gives_nofit HF.out hb3
    · obtain ⟨wf1, wf2, wf3, wf4, _⟩ := hwf rfl
      have HF := Lib.hid (show fitsP s path = fitGo pl (behindS path) true [] by rw [hfd, if_pos ⟨rfl, hpp⟩])
      rw [hpp] at HPA
      have hpz : 0 < path.size := by
        unfold isPathB at hpp
        simp at hpp
        exact hpp.1
      have hex : path.extract 1 path.size = behindS path := rfl
      have hez := ext_size path (a := 1) (b := path.size) (by omega) (Nat.le_refl _)
      rw [hex] at hez
      have hpl := totP_len pl
      have hpn : pl.length ≤ 4194304 := by omega
      have hpi : (1 : Int) ≤ (path.size : Int) := by omega
      generalize behindS path = left0 at *
      have hlz : left0.size ≤ 4194304 := by omega
      have HWF := Lib.hid wf1
      clear hfd hwf hpp wf1 wf2 wf3 hpl hez
      go_enter Try.func16, Try.ntmps16
      go_wp2_with fail
      refine (HSP.out _).mono ?_
      rintro e w1 ⟨A, c, rfl, ho, hb⟩
      dsimp only at ho ⊢
      go_wp2_with fail
      refine (HPA.out _ (HG.out.beyond hb)).mono ?_
      rintro e w2 ⟨rfl, hb2⟩
      have hb3 := hb.trans (hb2.mono hb.size)
      have hrow := own_row (own_below ho hb2)
      have HRW := Lib.hid hrow
      clear ho hb hb2 hrow HPA HSP
      go_wp2
      clear hpi
      go_loopw [9, 10, 11, 32] (fun v lv mv i wr => ∃ (k : Nat) (lf : ByteArray) (m : Bool) (out : List Prm), k ≤ pl.length ∧ i = .int .i64 k ∧ lv = .string lf ∧ mv = .bool m ∧ lf.size ≤ 4194304 ∧ out.length ≤ k ∧ Hid (fitGo (pl.drop k) lf m out = fitsP s path) ∧ wr.ownsRow w2.heap.size 45 3 v out.length (flat3 out) ∧ Below w2.heap.size w2 wr) (fun _ _ _ i _ => pl.length - (RowKit.intOf i).toNat)
      case atStart => exact ⟨0, left0, true, [], by omega, rfl, rfl, rfl, hlz, Nat.le_refl _, Lib.hid HF.out.symm, World.ownsRow_nil _ _ _ _, Below.refl _ _⟩
      case round =>
        clear HF
        obtain ⟨k, lf, m, out, hk, rfl, rfl, rfl, hlf, hol, HFT, hown, hbr⟩ := hrel
        obtain ⟨OA, Oc, rfl⟩ := own_slice hown
        have hbw := hb3.trans (hbr.mono hb3.size)
        by_cases hlt : k < pl.length
        · obtain ⟨⟨x, y⟩, hxy⟩ := some_of_lt hlt
          have hmem := List.mem_of_getElem? hxy
          have hk3 := (HWF.out _ hmem).1
          obtain ⟨b, off, rfl, hb, f0, f1⟩ := (HRW.out.below hbr).pc hxy
          have hft := HFT.out
          rw [drop_of_some hxy] at hft
          have hown1 := hown.alloc (.cells #[.int .i64 x, .string y] 99)
          have hb1 := hbw.alloc hbw.size (.cells #[.int .i64 x, .string y] 99)
          have hbr1 := hbr.alloc hbr.size (.cells #[.int .i64 x, .string y] 99)
          cases m
          · have HR := Lib.hid (show fitsP s path = none by rw [← hft]; rfl)
            clear hft HFT hxy hmem hk3
            go_wp2
            go_ret2
            exact gives_nofit HR.out hb1
          · rw [fitGo_cons] at hft
            dsimp only at hft hk3
            by_cases hx2 : x = 2
            · subst hx2
              rw [if_pos rfl] at hft
              have HR := Lib.hid hft.symm
              clear hft HFT hxy hmem hk3
              go_wp2_with (at_builtin; refine wpList_append_any _ rfl (.tmp 41) (.tmp 46) 37 rfl w2.heap.size 45 i0 (.agg #[.string ⟨#[]⟩, .string ⟨#[]⟩, .bool false]) 3 40 Try.underlying37 hi0 hz0 hz1 hz2 rfl (by decide) _ _ _ rfl (hown1.alloc _) _ (some ⟨wr.heap.size + 1, 0, none⟩) 1 1 [.string y, .string lf, .bool true] rfl (reads_of_row (row_newc (wr.alloc (.cells #[.int .i64 2, .string y] 99)) _ 45 (by simp)) rfl (by decide)) (by intro u hu; simp at hu; rcases hu with rfl | rfl | rfl <;> rfl) (by unfold maxLen; omega) (by omega) (by have := hbr.size; simp; omega) ?_; intro va wv hownv hgv altv)
              have hbv := (hb1.alloc hb1.size (.cells #[.string y, .string lf, .bool true] 45)).grown hgv (by have := hb1.size; simp; simp at this; omega) (fun g hg => Nat.le_trans hb3.size (own_lt hown1 g hg))
              have hov : wv.ownsRow w2.heap.size 45 3 va (out ++ [((y, lf, true) : Prm)]).length (flat3 (out ++ [((y, lf, true) : Prm)])) := by rw [flat3_append, List.length_append]; exact hownv
              clear hownv hgv altv
              go_wp2
              go_ret2
              exact gives_fit HR.out (own_less hov hb3.size) hbv
            · rw [if_neg hx2] at hft
              have HCT := Lib.hid (fun (W : World) (h : Below w.heap.size w W) => Cut_any lf 47 W hlf (HG.out.beyond h))
              rw [show ((47 : UInt8).toNat : Int) = 47 from rfl] at HCT
              have hcz := cutW_size lf 47
              obtain ⟨⟨ca, cb, cm⟩, hct⟩ : ∃ r, r = cutW lf 47 := ⟨_, rfl⟩
              rw [← hct] at hft HCT hcz
              unfold cutVal at HCT
              dsimp only at hft HCT hcz
              obtain ⟨hz1', hz2', _⟩ := hcz
              have hem : ca.toList.isEmpty = decide (ca.size = 0) := empty_eq ca
              clear hct hxy hmem
              have hbt : ∀ (W : World), Drawn1 (wr.alloc (.cells #[.int .i64 x, .string y] 99)) W → Below w.heap.size w W ∧ Below w2.heap.size w2 W ∧ W.ownsRow w2.heap.size 45 3 (.slice OA out.length Oc) out.length (flat3 out) ∧ W.cell? ⟨wr.heap.size, 0, none⟩ = some (.int .i64 x) ∧ W.cell? ⟨wr.heap.size, 1, none⟩ = some (.string y) := fun W ⟨q, hq⟩ => by
                have hd : Below (wr.alloc (.cells #[.int .i64 x, .string y] 99)).heap.size (wr.alloc (.cells #[.int .i64 x, .string y] 99)) W := by rw [hq]; exact below_drewN (Below.refl _ _) q
                exact ⟨hb1.trans (hd.mono hb1.size), hbr1.trans (hd.mono hbr1.size), own_below hown1 hd, by rw [hq]; simp, by rw [hq]; simp⟩
              have HBT := Lib.hid hbt
              clear hbt
              have hkx : x = 0 ∨ x = 1 := by omega
              rcases hkx with rfl | rfl
              · by_cases hay : ca = y
                · have hq : (ca.toList == y.toList) = true := by rw [eq_str]; exact decide_eq_true hay
                  rw [if_neg (by rintro (⟨_, h⟩ | ⟨h, _⟩); exact h hay; omega), if_neg (by decide)] at hft
                  have HR := Lib.hid hft
                  clear hft HFT hay
                  go_wp2_with fail
                  refine (HCT.out _ hb1).mono ?_
                  rintro e w4 ⟨rfl, hd4⟩
                  obtain ⟨hb5, hbr5, hown5, e0, e1⟩ := HBT.out w4 hd4
                  clear HBT hd4 hown1 hb1 hbr1
                  go_wp2
                  go_roundw
                  case rel => exact ⟨k + 1, cb, cm, out, by omega, by go_num, rfl, rfl, by omega, by omega, HR, hown5, hbr5⟩
                  case measure => simp [RowKit.intOf]; omega
                · have hq : (ca.toList == y.toList) = false := by rw [eq_str]; exact decide_eq_false hay
                  rw [if_pos (.inl ⟨rfl, hay⟩)] at hft
                  have HR := Lib.hid hft.symm
                  clear hft HFT hay
                  go_wp2_with fail
                  refine (HCT.out _ hb1).mono ?_
                  rintro e w4 ⟨rfl, hd4⟩
                  obtain ⟨hb5, hbr5, hown5, e0, e1⟩ := HBT.out w4 hd4
                  clear HBT hd4 hown1 hb1 hbr1
                  go_wp2
                  go_ret2
                  exact gives_nofit HR.out hb5
              · by_cases hcz : ca.size = 0
                · have hq : ca.toList.isEmpty = true := by rw [empty_eq]; exact decide_eq_true hcz
                  rw [if_pos (.inr ⟨rfl, hcz⟩)] at hft
                  have HR := Lib.hid hft.symm
                  clear hft HFT hcz hem
                  go_wp2_with fail
                  refine (HCT.out _ hb1).mono ?_
                  rintro e w4 ⟨rfl, hd4⟩
                  obtain ⟨hb5, hbr5, hown5, e0, e1⟩ := HBT.out w4 hd4
                  clear HBT hd4 hown1 hb1 hbr1
                  go_wp2
                  go_ret2
                  exact gives_nofit HR.out hb5
                · have hq : ca.toList.isEmpty = false := by rw [empty_eq]; exact decide_eq_false hcz
                  rw [if_neg (by rintro (⟨h, _⟩ | ⟨_, h⟩); omega; exact hcz h), if_pos rfl] at hft
                  have HR := Lib.hid hft
                  clear hft HFT hcz hem
                  go_wp2_with fail
                  refine (HCT.out _ hb1).mono ?_
                  rintro e w4 ⟨rfl, hd4⟩
                  obtain ⟨hb5, hbr5, hown5, e0, e1⟩ := HBT.out w4 hd4
                  clear HBT hd4 hown1 hb1 hbr1
                  go_wp2_with (at_builtin; refine wpList_append_any _ rfl (.tmp 75) (.tmp 80) 37 rfl w2.heap.size 45 i0 (.agg #[.string ⟨#[]⟩, .string ⟨#[]⟩, .bool false]) 3 40 Try.underlying37 hi0 hz0 hz1 hz2 rfl (by decide) _ _ _ rfl (hown5.alloc _) _ (some ⟨w4.heap.size, 0, none⟩) 1 1 [.string y, .string ca, .bool true] rfl (reads_of_row (row_newc w4 _ 45 (by simp)) rfl (by decide)) (by intro u hu; simp at hu; rcases hu with rfl | rfl | rfl <;> rfl) (by unfold maxLen; omega) (by omega) (by have := hbr5.size; simp; omega) ?_; intro va wv hownv hgv altv)
                  have hbv := (hb5.alloc hb5.size (.cells #[.string y, .string ca, .bool true] 45)).grown hgv (by have := hb5.size; simp; omega) (fun g hg => Nat.le_trans hb3.size (own_lt hown5 g hg))
                  have hbrv := (hbr5.alloc hbr5.size (.cells #[.string y, .string ca, .bool true] 45)).grown hgv (by have := hbr5.size; simp; omega) (own_lt hown5)
                  have hov : wv.ownsRow w2.heap.size 45 3 va (out ++ [((y, ca, true) : Prm)]).length (flat3 (out ++ [((y, ca, true) : Prm)])) := by rw [flat3_append, List.length_append]; exact hownv
                  clear hownv hgv altv
                  go_wp2
                  go_roundw
                  case rel => exact ⟨k + 1, cb, cm, _, by omega, by go_num, rfl, rfl, by omega, by rw [List.length_append]; simp; omega, HR, hov, hbrv⟩
                  case measure => simp [RowKit.intOf]; omega
        · obtain rfl : k = pl.length := by omega
          have hft := HFT.out
          rw [List.drop_length] at hft
          cases m
          · have HR := Lib.hid (show fitsP s path = some out from hft.symm)
            clear hft HFT
            go_wp2
            go_ret2
            exact gives_fit HR.out (own_less hown hb3.size) hbw
          · have HR := Lib.hid (show fitsP s path = none from hft.symm)
            clear hft HFT
            go_wp2
            go_ret2
            exact gives_nofit HR.out hbw
end Go.Proofs.Ytkhgnfofinpofaa

/-
  What a tree keeps for a path: the walks of Find and Len.
-/
namespace Go.Proofs.Ytkhgnfofinpofaa
open Go.RowKit Go.Shelf Go.Lib

theorem results_tmp4 {fn : Func} {t u v x : Tmp} (h : fn.results = #[.tmp t, .tmp u, .tmp v, .tmp x]) (tmps : Array Value) (P : Program) (w : World) :
    (results fn tmps).run P w = .ok (.tuple #[tmps.getD t undef, tmps.getD u undef, tmps.getD v undef, tmps.getD x undef]) w := by
  simp [results, h]
/-- The first entry that fits. -/
def findE (es : List En) (path : ByteArray) : Option Nat := if isPathB path = true then es.findIdx? (fun x => fitsS (symPat x.2.2.1) (bl (behindS path))) else none
theorem findT_es {es : List En} (hg : GoodE es) (path : ByteArray) (hp : isPathB path = true) : findT (treeP (pcsE es)) (behindS path) = match findE es path with
    | some i => i + 1
    | none => 0 := by
  unfold findE
  rw [if_pos hp]
  have hw : ∀ l ∈ pcsE es, wfP l ∧ l ≠ [] := fun l hl => by
    obtain ⟨x, hx, rfl⟩ := List.mem_map.1 hl
    exact ⟨(hg.wf hx).1, (hg.wf hx).2.2.2⟩
  have h1 : findT (treeP (pcsE es)) (behindS path) = best (waysP (pcsE es)) (bl (behindS path)) :=
    find_build (meas (waysP (pcsE es)) + 1) (waysP (pcsE es)) (behindS path) (Nat.lt_succ_self _) (ways_wf fun l hl p hp => ((hw l hl).1 p hp).1) (ways_sort hg.sort hw)
  rw [h1, best_ways (fun l hl => (hw l hl).1)]
  have e : (pcsE es).findIdx? (fun l => fitsS (symPat l) (bl (behindS path))) = es.findIdx? (fun x => fitsS (symPat x.2.2.1) (bl (behindS path))) := by
    unfold pcsE
    rw [List.findIdx?_map]
    rfl
  rw [e]
  cases es.findIdx? (fun x => fitsS (symPat x.2.2.1) (bl (behindS path))) <;> rfl
theorem treeP_full {es : List En} (hg : GoodE es) : isNode (treeP (pcsE es)) ∧ FullT (treeP (pcsE es)) :=
  full_build _ _ (Nat.lt_succ_self _) (ways_wf fun l hl => by
    obtain ⟨x, hx, rfl⟩ := List.mem_map.1 hl
    exact fun p hp => ((hg.wf hx).1 p hp).1)
def GivesFind (w : World) (es : List En) (path : ByteArray) (o : Option Nat) (e : Ending) (w' : World) : Prop :=
  (o = none ∧ e = .returned (.tuple #[.int .i64 0, .string ⟨#[]⟩, .slice none 0 0, .bool false]) ∧ Below w.heap.size w w') ∨
  (∃ i x, o = some i ∧ es[i]? = some x ∧ (∃ A c, e = .returned (.tuple #[.int .i64 x.2.2.2, .string x.1, .slice A (fitVal (fitsP x.1 path)).1.length c, .bool true]) ∧ w'.ownsRow w.heap.size 45 3 (.slice A (fitVal (fitsP x.1 path)).1.length c) (fitVal (fitsP x.1 path)).1.length (flat3 (fitVal (fitsP x.1 path)).1)) ∧ Below w.heap.size w w')
set_option maxRecDepth 20000 in
set_option maxHeartbeats 8000000 in
theorem Find_any (S : Nat → Prop) (w : World) (q : Nat) (es : List En) (path : ByteArray) (hT : TreeAt S w q es) (hg : GoodE es) (hp : path.size ≤ 4194304) (hgl : Glob w) (hes : ∀ x ∈ es, x.1.size ≤ 4194304) (hel : es.length ≤ 4194304) :
    Calls Try.prog 15 #[.pointer (some ⟨q, 0, none⟩), .string path] w (GivesFind w es path (findE es path)) := by
  have HPA := Lib.hid (fun W (hg : Glob W) => xPath_any path W hp hg)
  have HGL := Lib.hid hgl
  have hfe := fun (h : isPathB path = true) => findT_es hg path h
  have hno : isPathB path = false → findE es path = none := fun h => by unfold findE; rw [if_neg (by rw [h]; simp)]
  obtain ⟨hnd, hfull⟩ := treeP_full hg
  obtain ⟨A, c, rp, T, hSq, hql, q0, q1, hf0, hf1, hA, hrow, heo, hTT, hat⟩ := hT
  rw [hTT] at hfe hnd hfull
  obtain ⟨o, ho⟩ : ∃ o, findE es path = o := ⟨_, rfl⟩
  have hlt : ∀ i, o = some i → i < es.length := fun i h => by
    rw [h] at ho
    unfold findE at ho
    split at ho
    · exact (List.findIdx?_eq_some_iff_getElem.1 ho).1
    · cases ho
  rw [ho] at hfe hno ⊢
  clear hTT ho hgl
  cases hpp : isPathB path
  · have HN := Lib.hid (hno hpp)
    rw [hpp] at HPA
    clear hfe hno hlt hpp hnd hfull hat
    go_enter Try.func15, Try.ntmps15
    go_wp2_with fail
    refine (HPA.out _ HGL.out).mono ?_
    rintro e w1 ⟨rfl, hb⟩
    go_wp2
    refine bodyPost_ret (results_tmp4 rfl _ _ _) rfl ?_
    exact .inl ⟨HN.out, rfl, hb⟩
  · have HFE := Lib.hid (hfe hpp)
    rw [hpp] at HPA
    have hpz : 0 < path.size := by
      unfold isPathB at hpp
      simp at hpp
      exact hpp.1
    have hpi : (1 : Int) ≤ (path.size : Int) := by omega
    have hex : path.extract 1 path.size = behindS path := rfl
    have hez := ext_size path (a := 1) (b := path.size) (by omega) (Nat.le_refl _)
    rw [hex] at hez
    have HF := Lib.hid (fun (W : World) (hb : Below w.heap.size w W) => find_any (sizeT T + 1) T (Nat.lt_succ_self _) S W (.pointer rp) (behindS path) hnd hfull ((At.hold (Hold.of_below hb) T).1 _ hat) (by omega))
    have HQ := Lib.hid (fun (W : World) (h : Below w.heap.size w W) => (⟨(h.cell (p := ⟨q, 0, none⟩) hql).trans q0, (h.cell (p := ⟨q, 1, none⟩) hql).trans q1⟩ : W.cell? ⟨q, 0, none⟩ = some (.slice A es.length c) ∧ W.cell? ⟨q, 1, none⟩ = some (.pointer rp)))
    have HRW := Lib.hid hrow
    have HES := Lib.hid hes
    have HLT := Lib.hid hlt
    obtain ⟨fr, hfr⟩ : ∃ fr, findT T (behindS path) = fr := ⟨_, rfl⟩
    rw [hfr] at HF HFE
    generalize behindS path = left at *
    clear hfe hno hlt hpp hnd hfull hat hez hfr q0 q1 hf0 hf1 hA hrow heo hes hg
    go_enter Try.func15, Try.ntmps15
    go_wp2_with fail
    refine (HPA.out _ HGL.out).mono ?_
    rintro e w1 ⟨rfl, hb⟩
    obtain ⟨q0, q1⟩ := HQ.out w1 hb
    have HC := Lib.hid (fun (W : World) (h : Drawn w1 W) => HF.out W (hb.trans (h.below.mono hb.size)))
    clear HF HPA
    go_wp2_with fail
    go_quiet (first | (go_at_call 44; exact Calls.quiet_of ((HC.out _ (by first | exact Drawn.refl _ | exact (Drawn.refl _).drew _)).mono fun e' w' h => ⟨h.1, h.2⟩)))
    have hb2 := below_drewN hb nq
    generalize w1.drewN nq = w2 at *
    cases o with
    | none =>
      have hz : fr = 0 := HFE.out
      subst hz
      clear HC HFE q0 q1 HQ
      go_wp2
      refine bodyPost_ret (results_tmp4 rfl _ _ _) rfl ?_
      exact .inl ⟨rfl, rfl, hb2⟩
    | some i =>
      have hz : fr = i + 1 := HFE.out
      have hil := HLT.out i rfl
      obtain ⟨x, hx⟩ := some_of_lt hil
      obtain ⟨b, off, rfl, hbl, f0, f1, f2⟩ := (HRW.out.row.below hb2).en hx
      obtain ⟨g0, g1⟩ := HQ.out w2 hb2
      have HX := Lib.hid hx
      have hxz := HES.out x (List.mem_of_getElem? hx)
      have HFT := Lib.hid (fun (W : World) (h : Below w.heap.size w W) => Fits_any x.1 path W hxz hp (HGL.out.beyond h))
      have hfi : ((fr : Nat) : Int) - 1 = (i : Int) := by omega
      have hf0 : ¬ fr = 0 := by omega
      have hil2 : (i : Int) < (es.length : Int) := by omega
      have hfq : (((fr : Nat) : Int) == 0) = false := by simp; omega
      obtain ⟨p, ⟨XA, xc⟩, xl, xv⟩ := x
      dsimp only at f0 f1 f2 HFT
      have hb3 := hb2.alloc hb2.size (.cells #[.string p, .slice XA xl.length xc, .int .i64 xv] 88)
      clear HC HFE q0 q1 HQ hx hil hxz hz
      go_wp2_with fail
      refine (HFT.out _ hb3).mono ?_
      rintro e w3 ⟨FA, fc, rfl, hof, hb4⟩
      have hb5 := hb3.trans (hb4.mono hb3.size)
      have hof2 := own_less hof hb3.size
      have e0 : w3.cell? ⟨w2.heap.size, 0, none⟩ = some (.string p) := by rw [hb4.cell (p := ⟨w2.heap.size, 0, none⟩) (by simp), World.cell?_alloc_new]; rfl
      have e2 : w3.cell? ⟨w2.heap.size, 2, none⟩ = some (.int .i64 xv) := by rw [hb4.cell (p := ⟨w2.heap.size, 2, none⟩) (by simp), World.cell?_alloc_new]; rfl
      have HOF := Lib.hid hof2
      clear hof hof2 hb4 hb3 f0 f1 f2 HFT g0 g1
      generalize hlz : (fitVal (fitsP p path)).1 = fl at *
      go_wp2_with fail
      go_quiet (fail)
      go_wp2
      refine bodyPost_ret (results_tmp4 rfl _ _ _) rfl ?_
      subst hlz
      exact .inr ⟨i, _, rfl, HX.out, ⟨FA, fc, rfl, own_below HOF.out (below_drewN (Below.refl _ _) nq)⟩, below_drewN hb5 nq⟩
set_option maxRecDepth 20000 in
theorem Len_any (S : Nat → Prop) (w : World) (q : Nat) (es : List En) (hT : TreeAt S w q es) :
    Calls Try.prog 23 #[.pointer (some ⟨q, 0, none⟩)] w fun e w' => e = .returned (.int .i64 (es.length : Nat)) ∧ w = w' := by
  obtain ⟨A, c, rp, T, hSq, hql, q0, q1, _⟩ := hT
  go_enter Try.func23, Try.ntmps23
  go_wp2
  go_ret
  exact ⟨rfl, rfl⟩
end Go.Proofs.Ytkhgnfofinpofaa

/-
  A tree keeps a pattern, and finds it: the walk of the laws' awake.
-/
namespace Go.Proofs.Ytkhgnfofinpofaa
open Go.RowKit Go.Shelf Go.Lib

def awS : ByteArray := ⟨#[47, 97, 47, 58, 120]⟩
def awP : ByteArray := ⟨#[47, 97, 47, 98]⟩
def awL : List Pc := [(0, ⟨#[97]⟩), (1, ⟨#[120]⟩)]
theorem aw_split : splitP awS = (awL, 0, true) := by decide +kernel
theorem aw_path : isPathB awP = true := by decide +kernel
theorem aw_fits : fitsP awS awP = some [(⟨#[120]⟩, ⟨#[98]⟩, true)] := by decide +kernel
theorem aw_sym : fitsS (symPat awL) (bl (behindS awP)) = true := by decide +kernel
theorem aw_find (loc : Option Addr × Nat) : findE [(awS, loc, awL, 7)] awP = some 0 := by
  unfold findE
  rw [if_pos aw_path]
  rw [List.findIdx?_cons]
  simp only [aw_sym]
  rfl
theorem aw_good (loc : Option Addr × Nat) : GoodE [(awS, loc, awL, 7)] :=
  ⟨List.pairwise_singleton _ _, fun x hx => by
    obtain rfl := List.mem_singleton.1 hx
    exact aw_split⟩
set_option maxRecDepth 20000 in
set_option maxHeartbeats 4000000 in
theorem awake_any (w : World) (hg : Glob w) :
    Calls Try.prog 11 #[] w fun e w' => e = .returned (.bool true) ∧ Below w.heap.size w w' := by
  have heq : ∀ w, (binOp .eql 45 (.agg #[.string ⟨#[120]⟩, .string ⟨#[98]⟩, .bool true]) (.agg #[.string ⟨#[120]⟩, .string ⟨#[98]⟩, .bool true])).run Try.prog w = .ok (.bool true) w := fun _ => by kernel_rfl
  have haw : awS.toList = [47, 97, 47, 58, 120] := by decide +kernel
  have HN := Lib.hid (New_any w)
  have HG := Lib.hid hg
  clear hg
  go_enter Try.func11, Try.ntmps11
  go_wp2_with fail
  refine HN.out.mono ?_
  rintro e w1 ⟨rfl, hT1, hb1, hs1⟩
  have HI := Lib.hid (Insert_any _ w1 (w.heap.size + 1) [] awS 7 hT1 GoodE.nil (by decide) (by decide))
  have hq : w.heap.size + 1 < w1.heap.size := by omega
  clear HN hT1
  go_wp2_with fail
  refine HI.out.mono ?_
  rintro e w2 h2
  unfold GivesInsert at h2
  rw [aw_split] at h2
  rcases h2 with ⟨h, _⟩ | ⟨_, ⟨y, hy, _⟩, _⟩ | ⟨_, _, rfl, ⟨loc, hT2⟩, ht2⟩
  · cases h
  · cases hy
  have hb2 := hb1.trans (ht2.below (show w.heap.size ≤ w.heap.size + 1 by omega) hb1.size)
  have hT3 : TreeAt (fun b => (b = w.heap.size) ∨ (w1.heap.size ≤ b ∧ b < w2.heap.size)) w2 (w.heap.size + 1) [(awS, loc, awL, 7)] := hT2
  have hF := Find_any _ w2 (w.heap.size + 1) _ awP hT3 (aw_good loc) (by decide) (HG.out.beyond hb2) (fun x hx => by obtain rfl := List.mem_singleton.1 hx; exact (by decide : awS.size ≤ 4194304)) (by simp)
  rw [aw_find] at hF
  have HF := Lib.hid hF
  have HT := Lib.hid hT3
  clear hF hT2 hT3 ht2 HI hb1 hs1
  go_wp2_with fail
  refine HF.out.mono ?_
  rintro e w3 (⟨h, _⟩ | ⟨i, x, h, hx, ⟨A, c, rfl, ho⟩, hb3⟩)
  · cases h
  injection h with h
  subst h
  have hx : (awS, loc, awL, (7 : Int)) = x := by simpa using hx
  subst hx
  dsimp only at ho ⊢
  rw [show fitVal (fitsP awS awP) = ([(⟨#[120]⟩, ⟨#[98]⟩, true)], true) by rw [aw_fits]; rfl] at ho ⊢
  dsimp only [List.length_cons, List.length_nil] at ho ⊢
  have hT4 := HT.out.below hb3
  have hb4 := hb2.trans (hb3.mono hb2.size)
  have hL := Len_any _ w3 _ _ hT4
  have HL := Lib.hid hL
  obtain ⟨b, off, rfl, hbl, f0, f1, f2⟩ := (own_row ho).trip (k := 0) (x := ⟨#[120]⟩) (y := ⟨#[98]⟩) (c := true) rfl
  simp only [Nat.zero_mul, Nat.add_zero] at f0 f1 f2
  clear hT4 hL HT HF ho
  go_wp2_with fail
  refine HL.out.mono ?_
  rintro e w4 ⟨rfl, rfl⟩
  go_wp2
  go_ret
  exact ⟨rfl, hb4⟩
end Go.Proofs.Ytkhgnfofinpofaa
