/-
  Lists of parameters that are alike are found alike.
-/
import Derived.Test.YtkhgnfofinpofaaRxFd
import Derived.Test.YtkhgnfofinpofaaRxFr
import Derived.Test.YtkhgnfofinpofaaRxCr
import Derived.Test.YtkhgnfofinpofaaRxKs
namespace Go.Proofs.Ytkhgnfofinpofaa
open Go.RowKit Go.Shelf Go.Lib

set_option maxRecDepth 20000 in
set_option maxHeartbeats 1000000 in
/-- Lists that are alike are found alike. -/
theorem params_same (A B : Option Addr) (c d : Nat) (l : List Pr) (w : World) (hr : Row w A (flat3 l)) (hs : Row w B (flat3 l)) (hl : l.length ≤ 4398046511104) :
    Calls Try.prog 17 #[.slice A l.length c, .slice B l.length d] w fun e w' => e = .returned (.bool true) ∧ ∃ q : Nat, w' = w.drewN q := by
  have hne : ((l.length : Int) != (l.length : Int)) = false := by simp
  go_enter Try.func17, Try.ntmps17
  go_wp2
  go_loopw [5] (fun i wr => ∃ (k q : Nat), k ≤ l.length ∧ i = .int .i64 k ∧ wr = w.drewN q) (fun i _ => l.length - (RowKit.intOf i).toNat)
  case atStart => exact ⟨0, 0, by omega, rfl, rfl⟩
  case round =>
    obtain ⟨k, q, hk, rfl, rfl⟩ := hrel
    by_cases hlt : k < l.length
    · obtain ⟨⟨x, y, z⟩, hxy⟩ := some_of_lt hlt
      obtain ⟨b, off, rfl, hb, h0, h1, h2⟩ := hr.trip hxy
      obtain ⟨b', off', rfl, hb', h0', h1', h2'⟩ := hs.trip hxy
      clear hxy
      have hki : (k : Int) < (l.length : Int) := by omega
      have hxx : (x.toList == x.toList) = true := by simp
      have hyy : (y.toList == y.toList) = true := by simp
      have hzz : (z == z) = true := by simp
      go_wp2_with fail
      go_quiet (fail)
      go_wp2
      go_roundw
      case rel => exact ⟨k + 1, _, by omega, by go_num, rfl⟩
      case measure => simp [RowKit.intOf]; omega
    · obtain rfl : k = l.length := by omega
      go_wp2
      go_ret
      exact ⟨rfl, _, rfl⟩
theorem refGo_len : ∀ (l : List Pc) (xs : List ByteArray) (out r : List Prm), refGo l xs out = some r → r.length ≤ out.length + l.length
  | [], [], out, r, h => by
    have := Option.some.inj h
    subst this
    exact Nat.le_add_right _ _
  | [], _ :: _, _, _, h => by cases h
  | _ :: _, [], _, _, h => by cases h
  | p :: l, x :: xs, out, r, h => by
    unfold refGo at h
    rw [List.length_cons]
    by_cases h0 : p.1 = 0
    · rw [if_pos h0] at h
      by_cases hx : x = p.2
      · rw [if_pos hx] at h
        have := refGo_len l xs out r h
        omega
      · rw [if_neg hx] at h; cases h
    · rw [if_neg h0] at h
      by_cases h1 : p.1 = 1
      · rw [if_pos h1] at h
        by_cases hx : x.size = 0
        · rw [if_pos hx] at h; cases h
        · rw [if_neg hx] at h
          have := refGo_len l xs _ r h
          rw [List.length_append, List.length_singleton] at this
          omega
      · rw [if_neg h1] at h
        have := Option.some.inj h
        subst this
        rw [List.length_append, List.length_singleton]
        omega
theorem refFits_len (s path : ByteArray) : (fitVal (refFits s path)).1.length ≤ s.size := by
  unfold refFits
  by_cases h : (splitP s).2.2 = true ∧ isPathB path = true
  · rw [if_pos h]
    cases hr : refGo ((segsP s).map pcOf) (segsP path) [] with
    | none => exact Nat.zero_le _
    | some r =>
      have h1 := refGo_len _ _ _ _ hr
      have h2 := segsP_len s
      rw [List.length_map] at h1
      show r.length ≤ _
      simp only [List.length_nil] at h1
      omega
  · rw [if_neg h]
    exact Nat.zero_le _
end Go.Proofs.Ytkhgnfofinpofaa

/-
  The reference's list of what is kept: the walk of Insert.
-/
namespace Go.Proofs.Ytkhgnfofinpofaa
open Go.RowKit Go.Shelf Go.Lib

def kvV (x : KV) : List Value := [.string x.1, .int .i64 x.2]
def flatKV (l : List KV) : List Value := l.flatMap kvV
theorem flatKV_length (l : List KV) : (flatKV l).length = l.length * 2 := by
  induction l with
  | nil => rfl
  | cons p l ih =>
    show (flatKV l).length + 2 = _
    rw [ih, List.length_cons]
    omega
theorem flatKV_append (l m : List KV) : flatKV (l ++ m) = flatKV l ++ flatKV m := by simp [flatKV]
theorem flatKV_get {l : List KV} {k : Nat} {x : KV} (h : l[k]? = some x) : (flatKV l)[k * 2]? = some (.string x.1) ∧ (flatKV l)[k * 2 + 1]? = some (.int .i64 x.2) := by
  induction l generalizing k with
  | nil => simp at h
  | cons p l ih =>
    cases k with
    | zero =>
      simp at h
      subst h
      exact ⟨rfl, rfl⟩
    | succ k =>
      obtain ⟨h0, h1⟩ := ih (k := k) (by simpa using h)
      have e : flatKV (p :: l) = .string p.1 :: .int .i64 p.2 :: flatKV l := rfl
      rw [e, show (k + 1) * 2 = k * 2 + 1 + 1 by omega]
      simp only [List.getElem?_cons_succ]
      exact ⟨h0, h1⟩
theorem flatKV_oneCell (l : List KV) : ∀ u ∈ flatKV l, u.oneCell' = true := by
  intro u hu
  simp only [flatKV, List.mem_flatMap] at hu
  obtain ⟨p, _, hp⟩ := hu
  simp [kvV] at hp
  rcases hp with rfl | rfl <;> rfl
theorem Row.kv {w : World} {A : Option Addr} {l : List KV} {k : Nat} {x : KV} (h : Row w A (flatKV l)) (hk : l[k]? = some x) :
    ∃ b off, A = some ⟨b, off, none⟩ ∧ b < w.heap.size ∧ w.cell? ⟨b, off + k * 2, none⟩ = some (.string x.1) ∧ w.cell? ⟨b, off + k * 2 + 1, none⟩ = some (.int .i64 x.2) := by
  obtain ⟨h0, h1⟩ := flatKV_get hk
  obtain ⟨b, off, e, hb, hc⟩ := h.at_ h0
  exact ⟨b, off, e, hb, hc _ _ h0, by rw [Nat.add_assoc]; exact hc _ _ h1⟩
theorem info_kept : (Try.prog.info? 32).map (fun i => (i.zero, i.size, i.bytes)) = some (some (.agg #[.string ⟨#[]⟩, .int .i64 0]), 2, 24) := by kernel_rfl
/-- The list with one more. -/
def insK (es : List En) (pl : List Pc) (x : KV) : List KV := (keptE es).take (cntE es pl) ++ x :: (keptE es).drop (cntE es pl)
theorem keptE_ins (es : List En) (x : En) : keptE (insE es x) = insK es x.2.2.1 (x.1, x.2.2.2) := by
  unfold keptE insE insK keptE
  rw [List.map_append, List.map_take, List.map_cons, List.map_drop]
/-- What is gathered behind so many. -/
def accK (es : List En) (pl : List Pc) (x : KV) (k : Nat) : List KV := if k ≤ cntE es pl then (keptE es).take k else (keptE es).take (cntE es pl) ++ x :: ((keptE es).take k).drop (cntE es pl)
theorem accK_low {es : List En} {pl : List Pc} {x : KV} {k : Nat} (h : k ≤ cntE es pl) : accK es pl x k = (keptE es).take k := if_pos h
theorem accK_high {es : List En} {pl : List Pc} {x : KV} {k : Nat} (h : cntE es pl < k) : accK es pl x k = (keptE es).take (cntE es pl) ++ x :: ((keptE es).take k).drop (cntE es pl) := if_neg (by omega)
theorem accK_len {es : List En} {pl : List Pc} {x : KV} {k : Nat} (hk : k ≤ es.length) : (accK es pl x k).length = if k ≤ cntE es pl then k else k + 1 := by
  have hl := keptE_length es
  have hc := cntE_le es pl
  unfold accK
  split
  · rw [List.length_take]; omega
  · rw [List.length_append, List.length_take, List.length_cons, List.length_drop, List.length_take]; omega
theorem accK_a {es : List En} {pl : List Pc} {x : KV} {k : Nat} {y : KV} (h : k < cntE es pl) (hy : (keptE es)[k]? = some y) : accK es pl x (k + 1) = accK es pl x k ++ [y] := by
  rw [accK_low (by omega), accK_low (by omega)]
  exact take_snoc hy
theorem accK_b {es : List En} {pl : List Pc} {x : KV} {k : Nat} {y : KV} (h : k = cntE es pl) (hy : (keptE es)[k]? = some y) : accK es pl x (k + 1) = accK es pl x k ++ [x] ++ [y] := by
  have hk := (List.getElem?_eq_some_iff.1 hy).1
  have hl : ((keptE es).take k).length = k := by rw [List.length_take]; omega
  rw [accK_high (by omega), accK_low (by omega), take_snoc hy, ← h]
  rw [List.drop_left' hl]
  simp
theorem accK_c {es : List En} {pl : List Pc} {x : KV} {k : Nat} {y : KV} (h : cntE es pl < k) (hy : (keptE es)[k]? = some y) : accK es pl x (k + 1) = accK es pl x k ++ [y] := by
  have hk := (List.getElem?_eq_some_iff.1 hy).1
  have hl : ((keptE es).take k).length = k := by rw [List.length_take]; omega
  rw [accK_high (by omega), accK_high h, take_snoc hy, List.drop_append_of_le_length (by omega)]
  simp
theorem accK_end_low {es : List En} {pl : List Pc} {x : KV} (h : es.length ≤ cntE es pl) : accK es pl x es.length ++ [x] = insK es pl x := by
  have hl := keptE_length es
  rw [accK_low h]
  unfold insK
  rw [List.take_of_length_le (by omega), List.take_of_length_le (by omega), List.drop_of_length_le (by omega)]
theorem accK_end_high {es : List En} {pl : List Pc} {x : KV} (h : cntE es pl < es.length) : accK es pl x es.length = insK es pl x := by
  have hl := keptE_length es
  rw [accK_high h]
  unfold insK
  rw [List.take_of_length_le (l := keptE es) (i := es.length) (by omega)]
theorem insK_len (es : List En) (pl : List Pc) (x : KV) : (insK es pl x).length = es.length + 1 := by
  have hl := keptE_length es
  have hc := cntE_le es pl
  unfold insK
  rw [List.length_append, List.length_take, List.length_cons, List.length_drop]
  omega
/-- How an entry stands to a pattern, by its place. -/
theorem ord_place {es : List En} (hs : SortL (pcsE es)) {m : List Pc} {k : Nat} {y : En} (hy : es[k]? = some y) : (k < cntE es m → ordP y.2.2.1 m < 0) ∧ (cntE es m ≤ k → 0 ≤ ordP y.2.2.1 m) := by
  obtain ⟨h1, h2⟩ := sort_split hs m
  rw [← cntE_cntL] at h1 h2
  have hp := pcsE_get hy
  constructor
  · intro h
    exact h1 _ (List.mem_of_getElem? (by rw [List.getElem?_take, if_pos h]; exact hp))
  · intro h
    refine h2 _ (List.mem_of_getElem? (i := k - cntE es m) ?_)
    rw [List.getElem?_drop, show cntE es m + (k - cntE es m) = k by omega]
    exact hp
def GivesKi (r : Rd) (w : World) (A : Option Addr) (c : Nat) (es : List En) (s : ByteArray) (v : Int) (e : Ending) (w' : World) : Prop :=
  (r.2.2 = false ∧ e = .returned (.tuple #[.slice A es.length c, .int .i64 130]) ∧ Below w.heap.size w w') ∨
  (r.2.2 = true ∧ (∃ y ∈ es, ordP y.2.2.1 r.1 = 0) ∧ e = .returned (.tuple #[.slice A es.length c, .int .i64 131]) ∧ Below w.heap.size w w') ∨
  (r.2.2 = true ∧ (∀ y ∈ es, ordP y.2.2.1 r.1 ≠ 0) ∧ (∃ B d, e = .returned (.tuple #[.slice B (insK es r.1 (s, v)).length d, .int .i64 0]) ∧ w'.ownsRow w.heap.size 32 2 (.slice B (insK es r.1 (s, v)).length d) (insK es r.1 (s, v)).length (flatKV (insK es r.1 (s, v)))) ∧ Below w.heap.size w w')
theorem gives_ki {r : Rd} {w w' : World} {A : Option Addr} {c n : Nat} {es : List En} {s : ByteArray} {v : Int} {u : Value} (h : r.2.2 = true) (hn : ∀ y ∈ es, ordP y.2.2.1 r.1 ≠ 0) (ho : w'.ownsRow n 32 2 u (insK es r.1 (s, v)).length (flatKV (insK es r.1 (s, v)))) (hw : w.heap.size ≤ n) (hb : Below w.heap.size w w') :
    GivesKi r w A c es s v (.returned (.tuple #[u, .int .i64 0])) w' := by
  obtain ⟨B, d, rfl⟩ := own_slice ho
  exact .inr (.inr ⟨h, hn, ⟨B, d, rfl, own_less ho hw⟩, hb⟩)
set_option maxRecDepth 20000 in
set_option maxHeartbeats 8000000 in
theorem rInsert_any (A : Option Addr) (c : Nat) (es : List En) (s : ByteArray) (v : Int) (w : World) (hr : Row w A (flatKV (keptE es))) (hg : GoodE es) (hs : s.size ≤ 4194304) (hz : ∀ x ∈ es, x.1.size ≤ 4194304) (hl : es.length ≤ 4194304) :
    Calls Try.prog 13 #[.slice A es.length c, .string s, .int .i64 v] w (GivesKi (splitP s) w A c es s v) := by
  obtain ⟨i0, hi0, hz0, hz1, hz2⟩ := info_parts info_kept
  have HCH := Lib.hid (fun W => rCheck_any s W hs)
  have HCM := Lib.hid (fun W (x : En) (hx : x ∈ es) => rCompare_any s x.1 W hs (hz x hx))
  have hno := @chk_no s
  have hyes := @chk_yes s
  unfold chkVal at HCH
  obtain ⟨⟨pl, pa, pg⟩, hsp⟩ : ∃ r, r = splitP s := ⟨_, rfl⟩
  have hcmp : pg = true → ∀ x ∈ es, cmpR s x.1 = (ordP pl x.2.2.1, 0) := fun h x hx => by
    unfold cmpR
    rw [hg.pcs x hx, ← hsp, if_pos ⟨h, rfl⟩]
  rw [← hsp] at hno hyes ⊢
  dsimp only at hno hyes
  obtain ⟨⟨p, er⟩, hce⟩ : ∃ r, r = checkP s := ⟨_, rfl⟩
  rw [← hce] at HCH hno hyes
  dsimp only at HCH hno
  clear hsp hce
  cases pg
  · obtain rfl : er = 130 := hno rfl
    clear hyes hno hcmp
    go_enter Try.func13, Try.ntmps13
    go_wp2_with fail
    refine (HCH.out _).mono ?_
    rintro e w1 ⟨rfl, hb1⟩
    go_wp2
    go_ret2
    exact .inl ⟨rfl, rfl, hb1⟩
  · have h0 := hyes rfl
    obtain ⟨rfl, rfl⟩ : p = 0 ∧ er = 0 := ⟨congrArg Prod.fst h0, congrArg Prod.snd h0⟩
    have HCMP := Lib.hid (hcmp rfl)
    have HSORT := Lib.hid hg.sort
    have HR := Lib.hid hr
    have hcn := cntE_le es pl
    have HAL := Lib.hid (fun k h => @accK_len es pl (s, v) k h)
    clear hyes hno hcmp h0 hr hg hz
    go_enter Try.func13, Try.ntmps13
    go_wp2_with fail
    refine (HCH.out _).mono ?_
    rintro e w1 ⟨rfl, hb1⟩
    have HRW := Lib.hid (HR.out.below hb1)
    clear HR HCH
    go_wp2
    go_loopw [10, 11, 12] (fun r pv i wr => ∃ k : Nat, i = .int .i64 (k : Int) ∧ k ≤ es.length ∧ pv = .bool (decide (cntE es pl < k)) ∧ wr.ownsRow w1.heap.size 32 2 r (accK es pl (s, v) k).length (flatKV (accK es pl (s, v) k)) ∧ Below w1.heap.size w1 wr ∧ Hid (∀ j y, j < k → es[j]? = some y → ordP y.2.2.1 pl ≠ 0)) (fun _ _ i _ => es.length - (RowKit.intOf i).toNat)
    case atStart => exact ⟨0, rfl, by omega, by simp, World.ownsRow_lit _ #[] 0 (Nat.le_refl _) (by unfold maxLen; omega) rfl, (Below.refl _ _).alloc (Nat.le_refl _) _, Lib.hid (fun j y h => absurd h (Nat.not_lt_zero _))⟩
    case round =>
      obtain ⟨k, rfl, hk, rfl, hown, hbw, HNE⟩ := hrel
      have hal := HAL.out k hk
      by_cases hlt : k < es.length
      · obtain ⟨x, hx⟩ := some_of_lt hlt
        have hmem := List.mem_of_getElem? hx
        obtain ⟨o1, o2⟩ := ord_place HSORT.out (m := pl) hx
        obtain ⟨b, off, rfl, hb, f0, f1⟩ := (HRW.out.below hbw).kv (keptE_get hx)
        have HC := Lib.hid (HCM.out wr x hmem)
        rw [HCMP.out x hmem, ordP_anti x.2.2.1 pl] at HC
        unfold chkVal at HC
        have hkl : (k : Int) < (es.length : Int) := by omega
        have hrange := ordP_range x.2.2.1 pl
        have hkx := keptE_get hx
        have HX := Lib.hid hx
        obtain ⟨xs, xloc, xl, xv⟩ := x
        dsimp only at f0 f1 HC o1 o2 hrange hkx
        clear hx
        obtain ⟨o, ho⟩ : ∃ o : Int, o = ordP xl pl := ⟨_, rfl⟩
        rw [← ho] at HC o1 o2 hrange
        have HO := Lib.hid ho
        clear ho
        by_cases ho0 : o = 0
        · subst ho0
          have HEX := Lib.hid (show ∃ y ∈ es, ordP y.2.2.1 pl = 0 from ⟨_, hmem, HO.out.symm⟩)
          have hq : ((-0 : Int) == 0) = true := by rfl
          clear o1 o2 hrange hkx
          go_wp2_with fail
          refine HC.out.mono ?_
          rintro e w2 ⟨rfl, hb2⟩
          have hbe := hb1.trans ((hbw.trans (hb2.mono hbw.size)).mono hb1.size)
          go_wp2
          go_ret2
          exact .inr (.inl ⟨rfl, HEX.out, rfl, hbe⟩)
        · have HNE2 : Hid (∀ j y, j < k + 1 → es[j]? = some y → ordP y.2.2.1 pl ≠ 0) := Lib.hid (fun j y hj hy => by
            rcases Nat.lt_or_ge j k with h | h
            · exact HNE.out j y h hy
            · obtain rfl : j = k := by omega
              have := HX.out.symm.trans hy
              obtain rfl := Option.some.inj this
              exact fun h0 => ho0 (HO.out.trans h0))
          have hq : ((-o : Int) == 0) = false := by simp; exact ho0
          by_cases hkc : k < cntE es pl
          · have hneg := o1 hkc
            have hlt0 : ¬ (-o : Int) < 0 := by omega
            have HAC := Lib.hid (accK_a (x := (s, v)) hkc hkx)
            have hdk : decide (cntE es pl < k) = false := decide_eq_false (by omega)
            have hdk1 : decide (cntE es pl < k + 1) = false := decide_eq_false (by omega)
            rw [hdk]
            rw [if_pos (by omega)] at hal
            clear o1 o2 hrange hkx HNE ho0
            go_wp2_with fail
            refine HC.out.mono ?_
            rintro e w2 ⟨rfl, hb2⟩
            have hbw2 := hbw.trans (hb2.mono hbw.size)
            have hown2 := own_below hown hb2
            obtain ⟨c0, c1⟩ : w2.cell? ⟨b, off + k * 2, none⟩ = some (.string xs) ∧ w2.cell? ⟨b, off + k * 2 + 1, none⟩ = some (.int .i64 xv) := ⟨(hb2.cell (p := ⟨b, off + k * 2, none⟩) hb).trans f0, (hb2.cell (p := ⟨b, off + k * 2 + 1, none⟩) hb).trans f1⟩
            clear f0 f1 HC hb2 hown hbw
            go_wp2_with (at_builtin; refine wpList_append_any _ rfl (.tmp 55) (.tmp 60) 26 rfl w1.heap.size 32 i0 (.agg #[.string ⟨#[]⟩, .int .i64 0]) 2 24 Try.underlying26 hi0 hz0 hz1 hz2 rfl (by decide) _ _ _ rfl (hown2.alloc _) _ (some ⟨w2.heap.size, 0, none⟩) 1 1 [.string xs, .int .i64 xv] rfl (reads_of_row (row_newc _ _ 32 (by simp)) rfl (by decide)) (flatKV_oneCell [(xs, xv)]) (by unfold maxLen; omega) (by omega) (by simp; have := hbw2.size; omega) ?_; intro v' w3 hown3 hg3 _)
            have hb3 := (hbw2.alloc hbw2.size (.cells #[.string xs, .int .i64 xv] 32)).grown hg3 (by simp; have := hbw2.size; omega) (own_lt hown2)
            have hown4 : w3.ownsRow w1.heap.size 32 2 v' (accK es pl (s, v) (k + 1)).length (flatKV (accK es pl (s, v) (k + 1))) := by
              rw [HAC.out, flatKV_append, List.length_append]
              exact hown3
            have HO4 := Lib.hid hown4
            have HB3 := Lib.hid hb3
            clear hown3 hg3 hown4 hb3 hown2
            go_wp2
            go_roundw
            case rel => exact ⟨k + 1, by go_num, by omega, by rw [hdk1], HO4.out, HB3.out, HNE2⟩
            case measure => simp [RowKit.intOf]; omega
          · have hpos := o2 (by omega)
            have hlt0 : 0 < o := by omega
            by_cases hke : k = cntE es pl
            · have HAC := Lib.hid (accK_b (x := (s, v)) hke hkx)
              have hdk : decide (cntE es pl < k) = false := decide_eq_false (by omega)
              have hdk1 : decide (cntE es pl < k + 1) = true := decide_eq_true (by omega)
              rw [hdk]
              rw [if_pos (by omega)] at hal
              clear o1 o2 hrange hkx HNE ho0 hke
              go_wp2_with fail
              refine HC.out.mono ?_
              rintro e w2 ⟨rfl, hb2⟩
              have hbw2 := hbw.trans (hb2.mono hbw.size)
              have hown2 := own_below hown hb2
              have hrow2 := HRW.out.below hbw2
              obtain ⟨c0, c1⟩ : w2.cell? ⟨b, off + k * 2, none⟩ = some (.string xs) ∧ w2.cell? ⟨b, off + k * 2 + 1, none⟩ = some (.int .i64 xv) := ⟨(hb2.cell (p := ⟨b, off + k * 2, none⟩) hb).trans f0, (hb2.cell (p := ⟨b, off + k * 2 + 1, none⟩) hb).trans f1⟩
              clear f0 f1 HC hb2 hown hbw
              go_wp2_with (first | (at_builtin; refine wpList_append_any _ rfl (.tmp 49) (.tmp 53) 26 rfl w1.heap.size 32 i0 (.agg #[.string ⟨#[]⟩, .int .i64 0]) 2 24 Try.underlying26 hi0 hz0 hz1 hz2 rfl (by decide) _ _ _ rfl (hown2.alloc _) _ (some ⟨w2.heap.size, 0, none⟩) 1 1 [.string s, .int .i64 v] rfl (reads_of_row (row_newc _ _ 32 (by simp)) rfl (by decide)) (flatKV_oneCell [(s, v)]) (by unfold maxLen; omega) (by omega) (by simp; have := hbw2.size; omega) ?_; intro v' w3 hown3 hg3 _; have hb3 := (hbw2.alloc hbw2.size (.cells #[.string s, .int .i64 v] 32)).grown hg3 (by simp; have := hbw2.size; omega) (own_lt hown2); obtain ⟨b', off', he, hb', d0, d1⟩ := (HRW.out.below hb3).kv (keptE_get HX.out); cases he; dsimp only at d0 d1; have hl3 := hb3.size; clear hg3 hb' c0 c1 hown2 hrow2) | (at_builtin; refine wpList_append_any _ rfl (.tmp 55) (.tmp 60) 26 rfl w1.heap.size 32 i0 (.agg #[.string ⟨#[]⟩, .int .i64 0]) 2 24 Try.underlying26 hi0 hz0 hz1 hz2 rfl (by decide) _ _ _ rfl (hown3.alloc _) _ (some ⟨w3.heap.size, 0, none⟩) 1 1 [.string xs, .int .i64 xv] rfl (reads_of_row (row_newc _ _ 32 (by simp)) rfl (by decide)) (flatKV_oneCell [(xs, xv)]) (by unfold maxLen; omega) (by omega) (by simp; have := hb3.size; omega) ?_; intro v5 w5 hown5 hg5 _))
              have hb5 := (hb3.alloc hb3.size (.cells #[.string xs, .int .i64 xv] 32)).grown hg5 (by simp; have := hb3.size; omega) (own_lt hown3)
              have hown6 : w5.ownsRow w1.heap.size 32 2 v5 (accK es pl (s, v) (k + 1)).length (flatKV (accK es pl (s, v) (k + 1))) := by
                rw [HAC.out, flatKV_append, flatKV_append, List.length_append, List.length_append]
                exact hown5
              have HO6 := Lib.hid hown6
              have HB5 := Lib.hid hb5
              clear hown3 hown5 hg5 hown6 hb5
              go_wp2
              go_roundw
              case rel => exact ⟨k + 1, by go_num, by omega, by rw [hdk1], HO6.out, HB5.out, HNE2⟩
              case measure => simp [RowKit.intOf]; omega
            · have HAC := Lib.hid (accK_c (x := (s, v)) (show cntE es pl < k by omega) hkx)
              have hdk : decide (cntE es pl < k) = true := decide_eq_true (by omega)
              have hdk1 : decide (cntE es pl < k + 1) = true := decide_eq_true (by omega)
              rw [hdk]
              rw [if_neg (by omega)] at hal
              clear o1 o2 hrange hkx HNE ho0
              go_wp2_with fail
              refine HC.out.mono ?_
              rintro e w2 ⟨rfl, hb2⟩
              have hbw2 := hbw.trans (hb2.mono hbw.size)
              have hown2 := own_below hown hb2
              obtain ⟨c0, c1⟩ : w2.cell? ⟨b, off + k * 2, none⟩ = some (.string xs) ∧ w2.cell? ⟨b, off + k * 2 + 1, none⟩ = some (.int .i64 xv) := ⟨(hb2.cell (p := ⟨b, off + k * 2, none⟩) hb).trans f0, (hb2.cell (p := ⟨b, off + k * 2 + 1, none⟩) hb).trans f1⟩
              clear f0 f1 HC hb2 hown hbw
              go_wp2_with (at_builtin; refine wpList_append_any _ rfl (.tmp 55) (.tmp 60) 26 rfl w1.heap.size 32 i0 (.agg #[.string ⟨#[]⟩, .int .i64 0]) 2 24 Try.underlying26 hi0 hz0 hz1 hz2 rfl (by decide) _ _ _ rfl (hown2.alloc _) _ (some ⟨w2.heap.size, 0, none⟩) 1 1 [.string xs, .int .i64 xv] rfl (reads_of_row (row_newc _ _ 32 (by simp)) rfl (by decide)) (flatKV_oneCell [(xs, xv)]) (by unfold maxLen; omega) (by omega) (by simp; have := hbw2.size; omega) ?_; intro v' w3 hown3 hg3 _)
              have hb3 := (hbw2.alloc hbw2.size (.cells #[.string xs, .int .i64 xv] 32)).grown hg3 (by simp; have := hbw2.size; omega) (own_lt hown2)
              have hown4 : w3.ownsRow w1.heap.size 32 2 v' (accK es pl (s, v) (k + 1)).length (flatKV (accK es pl (s, v) (k + 1))) := by
                rw [HAC.out, flatKV_append, List.length_append]
                exact hown3
              have HO4 := Lib.hid hown4
              have HB3 := Lib.hid hb3
              clear hown3 hg3 hown4 hb3 hown2
              go_wp2
              go_roundw
              case rel => exact ⟨k + 1, by go_num, by omega, by rw [hdk1], HO4.out, HB3.out, HNE2⟩
              case measure => simp [RowKit.intOf]; omega
      · obtain rfl : k = es.length := by omega
        have HN := Lib.hid (show ∀ y ∈ es, ordP y.2.2.1 pl ≠ 0 from fun y hy => by
          obtain ⟨j, hj, rfl⟩ := List.getElem_of_mem hy
          exact HNE.out j _ hj (List.getElem?_eq_getElem hj))
        by_cases hlow : es.length ≤ cntE es pl
        · have HAC := Lib.hid (accK_end_low (x := (s, v)) hlow)
          have hdk : decide (cntE es pl < es.length) = false := decide_eq_false (by omega)
          rw [hdk]
          rw [if_pos hlow] at hal
          clear HNE
          go_wp2_with (at_builtin; refine wpList_append_any _ rfl (.tmp 64) (.tmp 68) 26 rfl w1.heap.size 32 i0 (.agg #[.string ⟨#[]⟩, .int .i64 0]) 2 24 Try.underlying26 hi0 hz0 hz1 hz2 rfl (by decide) _ _ _ rfl (hown.alloc _) _ (some ⟨wr.heap.size, 0, none⟩) 1 1 [.string s, .int .i64 v] rfl (reads_of_row (row_newc _ _ 32 (by simp)) rfl (by decide)) (flatKV_oneCell [(s, v)]) (by unfold maxLen; omega) (by omega) (by simp; have := hbw.size; omega) ?_; intro v' w3 hown3 hg3 _)
          have hb3 := (hbw.alloc hbw.size (.cells #[.string s, .int .i64 v] 32)).grown hg3 (by simp; have := hbw.size; omega) (own_lt hown)
          have hown4 : w3.ownsRow w1.heap.size 32 2 v' (insK es pl (s, v)).length (flatKV (insK es pl (s, v))) := by
            rw [← HAC.out, flatKV_append, List.length_append]
            exact hown3
          have HGV := Lib.hid (gives_ki (r := (pl, pa, true)) (A := A) (c := c) rfl HN.out hown4 hb1.size (hb1.trans (hb3.mono hb1.size)))
          clear hown3 hg3 hown4 hb3 hown
          go_wp2
          go_ret2
          exact HGV.out
        · have HAC := Lib.hid (accK_end_high (x := (s, v)) (show cntE es pl < es.length by omega))
          have hdk : decide (cntE es pl < es.length) = true := decide_eq_true (by omega)
          rw [hdk]
          rw [HAC.out] at hown
          have HGV := Lib.hid (gives_ki (r := (pl, pa, true)) (A := A) (c := c) rfl HN.out hown hb1.size (hb1.trans (hbw.mono hb1.size)))
          clear HNE hown
          go_wp2
          go_ret2
          exact HGV.out
end Go.Proofs.Ytkhgnfofinpofaa

/-
  The reference's list of what is kept: the walk of Find.
-/
namespace Go.Proofs.Ytkhgnfofinpofaa
open Go.RowKit Go.Shelf Go.Lib

/-- Whether an entry fits a path. -/
def fitB (path : ByteArray) (x : En) : Bool := (fitVal (fitsP x.1 path)).2
theorem fitB_sym {es : List En} (hg : GoodE es) {path : ByteArray} {x : En} (hx : x ∈ es) : fitB path x = (isPathB path && fitsS (symPat x.2.2.1) (bl (behindS path))) := by
  obtain ⟨h1, h2, _, h4⟩ := hg.wf hx
  have e := hg.pcs x hx
  unfold fitB fitsP
  rw [e]
  dsimp only
  cases hp : isPathB path
  · rw [if_neg (by simp)]; rfl
  · rw [if_pos ⟨rfl, rfl⟩, ← fit_sym x.2.2.1 (behindS path) [] h4 h1 h2]
    cases fitGo x.2.2.1 (behindS path) true [] <;> rfl
theorem findIdx_congr {α : Type} {p q : α → Bool} : ∀ {l : List α}, (∀ x ∈ l, p x = q x) → l.findIdx? p = l.findIdx? q
  | [], _ => rfl
  | x :: l, h => by
    rw [List.findIdx?_cons, List.findIdx?_cons, h x (List.mem_cons_self ..), findIdx_congr (l := l) fun y hy => h y (List.mem_cons_of_mem _ hy)]
theorem findE_fit {es : List En} (hg : GoodE es) (path : ByteArray) : findE es path = es.findIdx? (fitB path) := by
  unfold findE
  cases hp : isPathB path
  · rw [if_neg (by simp)]
    refine (List.findIdx?_eq_none_iff.2 fun x hx => ?_).symm
    rw [fitB_sym hg hx, hp]
    rfl
  · rw [if_pos rfl]
    refine findIdx_congr fun x hx => ?_
    rw [fitB_sym hg hx, hp]
    rfl
theorem set_two {W : World} {B : Nat} {u0 u1 : Value} (h0 : W.cell? ⟨B, 0, none⟩ = some u0) (h1 : W.cell? ⟨B, 1, none⟩ = some u1) (v0 v1 : Value) :
    ((W.setCell ⟨B, 0, none⟩ v0).setCell ⟨B, 1, none⟩ v1).cell? ⟨B, 0, none⟩ = some v0 ∧ ((W.setCell ⟨B, 0, none⟩ v0).setCell ⟨B, 1, none⟩ v1).cell? ⟨B, 1, none⟩ = some v1 := by
  refine ⟨?_, ?_⟩
  · rw [World.cell?_setCell_other _ _ _ _ (by intro e; injection e with _ e; cases e)]
    exact World.cell?_setCell_same _ _ _ h0
  · refine World.cell?_setCell_same _ _ _ (u := u1) ?_
    rw [World.cell?_setCell_other _ _ _ _ (by intro e; injection e with _ e; cases e)]
    exact h1
/-- A row of parameters does not lie where a pattern and a number lie. -/
theorem row_apart {w : World} {n : Nat} {a : ByteArray} {b : Int} {t : TypeId} {B : Option Addr} {l : List Prm} (hr : Row w B (flat3 l)) (hn : w.heap[n]? = some (.cells #[.string a, .int .i64 b] t (0, 0))) : RowF (fun k => k ≠ n) w B (flat3 l) := fun h0 => by
  obtain ⟨k, off, e, hk, hc⟩ := hr h0
  refine ⟨k, off, e, ?_, hk, hc⟩
  rintro rfl
  cases l with
  | nil => exact absurd h0 (Nat.lt_irrefl _)
  | cons p l =>
    have c0 := hc 0 (.string p.1) rfl
    have c1 := hc 1 (.string p.2.1) rfl
    match off with
    | 0 => simp [World.cell?, hn] at c1
    | 1 => simp [World.cell?, hn] at c0
    | off + 2 => simp [World.cell?, hn] at c0
def GivesKf (w : World) (es : List En) (path : ByteArray) (o : Option Nat) (e : Ending) (w' : World) : Prop :=
  (o = none ∧ (∃ B, e = .returned (.tuple #[.agg #[.string ⟨#[]⟩, .int .i64 0], .slice B 0 0, .bool false])) ∧ Below w.heap.size w w') ∨
  (∃ i x, o = some i ∧ es[i]? = some x ∧ (∃ B d, e = .returned (.tuple #[.agg #[.string x.1, .int .i64 x.2.2.2], .slice B (fitVal (fitsP x.1 path)).1.length d, .bool true]) ∧ Row w' B (flat3 (fitVal (fitsP x.1 path)).1)) ∧ Below w.heap.size w w')
set_option maxRecDepth 20000 in
set_option maxHeartbeats 8000000 in
theorem rFind_any (A : Option Addr) (c : Nat) (es : List En) (path : ByteArray) (w : World) (hr : Row w A (flatKV (keptE es))) (hg : GoodE es) (hp : path.size ≤ 4194304) (hz : ∀ x ∈ es, x.1.size ≤ 4194304) (hl : es.length ≤ 4194304) :
    Calls Try.prog 14 #[.slice A es.length c, .string path] w (GivesKf w es path (findE es path)) := by
  have HFT := Lib.hid (fun W (x : En) (hx : x ∈ es) => rFits_any x.1 path W (hz x hx) hp)
  have HFE := Lib.hid (findE_fit hg path)
  have HR := Lib.hid (hr.below ((Below.refl w.heap.size w).alloc (Nat.le_refl _) (.cells #[.string ⟨#[]⟩, .int .i64 0] 32)))
  have hb0 := (Below.refl w.heap.size w).alloc (Nat.le_refl _) (.cells #[.string ⟨#[]⟩, .int .i64 0] 32)
  clear hr hg hz
  go_enter Try.func14, Try.ntmps14
  go_wp2
  generalize hW0 : w.alloc (.cells #[.string ⟨#[]⟩, .int .i64 0] 32) = W0 at *
  have hs0 : W0.heap.size = w.heap.size + 1 := by rw [← hW0]; simp
  have h00 : W0.cell? ⟨w.heap.size, 0, none⟩ = some (.string ⟨#[]⟩) := by rw [← hW0]; simp
  have h01 : W0.cell? ⟨w.heap.size, 1, none⟩ = some (.int .i64 0) := by rw [← hW0]; simp
  have f00 : W0.frozen? ⟨w.heap.size, 0, none⟩ = false := by rw [← hW0]; simp
  have f01 : W0.frozen? ⟨w.heap.size, 1, none⟩ = false := by rw [← hW0]; simp
  have hblk : W0.heap[w.heap.size]? = some (.cells #[.string ⟨#[]⟩, .int .i64 0] 32 (0, 0)) := by rw [← hW0]; exact heap_alloc_new _ _
  have HBX := Lib.hid (fun (W : World) (h : Below W0.heap.size W0 W) => (⟨(h.cell (p := ⟨w.heap.size, 0, none⟩) (by rw [hs0]; exact Nat.lt_succ_self _)).trans h00, (h.cell (p := ⟨w.heap.size, 1, none⟩) (by rw [hs0]; exact Nat.lt_succ_self _)).trans h01, (h.frozen (p := ⟨w.heap.size, 0, none⟩) (by rw [hs0]; exact Nat.lt_succ_self _)).trans f00, (h.frozen (p := ⟨w.heap.size, 1, none⟩) (by rw [hs0]; exact Nat.lt_succ_self _)).trans f01⟩ :
    W.cell? ⟨w.heap.size, 0, none⟩ = some (.string ⟨#[]⟩) ∧ W.cell? ⟨w.heap.size, 1, none⟩ = some (.int .i64 0) ∧ W.frozen? ⟨w.heap.size, 0, none⟩ = false ∧ W.frozen? ⟨w.heap.size, 1, none⟩ = false))
  have hlt0 : w.heap.size < W0.heap.size := by omega
  have HBL := Lib.hid (fun (W : World) (h : Below W0.heap.size W0 W) => (h.block w.heap.size hlt0).trans hblk)
  clear hblk hW0 h00 h01 f00 f01 hs0
  go_loopw [7] (fun i wr => ∃ k : Nat, k ≤ es.length ∧ i = .int .i64 (k : Int) ∧ Below W0.heap.size W0 wr ∧ Hid (∀ j x, j < k → es[j]? = some x → fitB path x = false)) (fun i _ => es.length - (RowKit.intOf i).toNat)
  case atStart => exact ⟨0, by omega, rfl, Below.refl _ _, Lib.hid (fun j x h => absurd h (Nat.not_lt_zero _))⟩
  case round =>
    obtain ⟨k, hk, rfl, hbw, HNO⟩ := hrel
    by_cases hlt : k < es.length
    · obtain ⟨x, hx⟩ := some_of_lt hlt
      have hmem := List.mem_of_getElem? hx
      have hkI : (k : Int) < (es.length : Int) := by omega
      obtain ⟨b, off, rfl, hb, f0, f1⟩ := (HR.out.below hbw).kv (keptE_get hx)
      have HC := Lib.hid (HFT.out wr x hmem)
      unfold GivesRf at HC
      rw [ref_fits] at HC
      have HX := Lib.hid hx
      have HFB := Lib.hid (show fitB path x = (fitVal (fitsP x.1 path)).2 from rfl)
      dsimp only at f0 f1
      clear hx
      generalize hxp : x.1 = xp at *
      generalize hxv : x.2.2.2 = xv at *
      have HXP := Lib.hid hxp
      have HXV := Lib.hid hxv
      obtain ⟨⟨fl, fg⟩, hfv⟩ : ∃ r, r = fitVal (fitsP xp path) := ⟨_, rfl⟩
      rw [← hfv] at HC HFB
      have HFV := Lib.hid hfv
      dsimp only at HC HFB
      clear hfv hxp hxv
      cases fg
      · have HNO2 : Hid (∀ j x, j < k + 1 → es[j]? = some x → fitB path x = false) := Lib.hid (fun j y hj hy => by
          rcases Nat.lt_or_ge j k with h | h
          · exact HNO.out j y h hy
          · obtain rfl : j = k := by omega
            have := HX.out.symm.trans hy
            obtain rfl := Option.some.inj this
            exact HFB.out)
        clear HNO
        go_wp2_with fail
        refine HC.out.mono ?_
        rintro e w2 ⟨B, d, rfl, hrB, hb2⟩
        have hbw2 := hbw.trans (hb2.mono hbw.size)
        clear hrB hb2 f0 f1 HC
        go_wp2
        go_roundw
        case rel => exact ⟨k + 1, by omega, by go_num, hbw2, HNO2⟩
        case measure => simp [RowKit.intOf]; omega
      · have HV := Lib.hid (show findE es path = some k by
          rw [HFE.out]
          refine List.findIdx?_eq_some_iff_getElem.2 ⟨hlt, ?_, fun j hj => ?_⟩
          · have := (List.getElem?_eq_some_iff.1 HX.out).2
            rw [this]
            exact HFB.out
          · have := HNO.out j es[j] hj (List.getElem?_eq_getElem (by omega))
            rw [this]
            simp)
        clear HNO
        go_wp2_with fail
        refine HC.out.mono ?_
        rintro e w2 ⟨B, d, rfl, hrB, hb2⟩
        have hbw2 := hbw.trans (hb2.mono hbw.size)
        obtain ⟨g0, g1, g2, g3⟩ := HBX.out w2 hbw2
        obtain ⟨c0, c1⟩ : w2.cell? ⟨b, off + k * 2, none⟩ = some (.string xp) ∧ w2.cell? ⟨b, off + k * 2 + 1, none⟩ = some (.int .i64 xv) := ⟨(hb2.cell (p := ⟨b, off + k * 2, none⟩) hb).trans f0, (hb2.cell (p := ⟨b, off + k * 2 + 1, none⟩) hb).trans f1⟩
        have hbF := hb0.trans (hbw2.mono hb0.size)
        have HRB := Lib.hid (row_apart hrB (HBL.out w2 hbw2))
        clear hrB f0 f1 HC hb2
        obtain ⟨m0, m1⟩ := set_two g0 g1 (.string xp) (.int .i64 xv)
        have M0 := Lib.hid m0
        have M1 := Lib.hid m1
        clear m0 m1
        go_wp2
        refine bodyPost_ret (v := .tuple #[.agg #[.string xp, .int .i64 xv], .slice B fl.length d, .bool true]) (by simp [results, Try.results14, go_sem, M0.out, M1.out]) rfl ?_
        refine .inr ⟨k, x, HV.out, HX.out, ⟨B, d, by rw [HXP.out, HXV.out, ← HFV.out], ?_⟩, (hbF.setCell (p := ⟨w.heap.size, 0, none⟩) (Nat.le_refl _) _).setCell (p := ⟨w.heap.size, 1, none⟩) (Nat.le_refl _) _⟩
        rw [HXP.out, ← HFV.out]
        intro h0
        obtain ⟨b', off', e', h1, h2, h3⟩ := HRB.out h0
        refine ⟨b', off', e', by simpa using h2, fun j u hu => ?_⟩
        rw [World.cell?_setCell_other _ _ _ _ (fun e => h1 (by injection e with e; exact e.symm)), World.cell?_setCell_other _ _ _ _ (fun e => h1 (by injection e with e; exact e.symm))]
        exact h3 j u hu
    · obtain rfl : k = es.length := by omega
      have HV := Lib.hid (show findE es path = none by
        rw [HFE.out]
        refine List.findIdx?_eq_none_iff.2 fun x hx => ?_
        obtain ⟨j, hj, rfl⟩ := List.getElem_of_mem hx
        exact HNO.out j _ hj (List.getElem?_eq_getElem hj))
      have hbA := hbw.alloc hbw.size (.cells #[] 102)
      obtain ⟨g0, g1, g2, g3⟩ := HBX.out _ hbA
      have hbF := hb0.trans (hbA.mono hb0.size)
      obtain ⟨m0, m1⟩ := set_two g0 g1 (.string ⟨#[]⟩) (.int .i64 0)
      have M0 := Lib.hid m0
      have M1 := Lib.hid m1
      clear m0 m1
      go_wp2
      refine bodyPost_ret (v := .tuple #[.agg #[.string ⟨#[]⟩, .int .i64 0], .slice (some ⟨wr.heap.size, 0, none⟩) 0 0, .bool false]) (by simp [results, Try.results14, go_sem, M0.out, M1.out]) rfl ?_
      exact .inl ⟨HV.out, ⟨_, rfl⟩, (hbF.setCell (p := ⟨w.heap.size, 0, none⟩) (Nat.le_refl _) _).setCell (p := ⟨w.heap.size, 1, none⟩) (Nat.le_refl _) _⟩
end Go.Proofs.Ytkhgnfofinpofaa
