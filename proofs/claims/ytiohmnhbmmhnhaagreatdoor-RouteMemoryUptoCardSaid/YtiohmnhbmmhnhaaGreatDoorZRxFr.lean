/-
 RxFr, without what this claim does not reach.
-/
import Derived.Test.YtiohmnhbmmhnhaaGreatDoorZRxRp
import Derived.Test.YtiohmnhbmmhnhaaGreatDoorZRxLawChecks
namespace Go.Proofs.YtiohmnhbmmhnhaaGreatDoor
open Go.RowKit Go.Shelf Go.Lib
def joinS : ByteArray → List ByteArray → ByteArray
 | v, [] => v
 | v, x :: r => joinS (v ++ ((⟨#[47]⟩ : ByteArray) ++ x)) r
theorem parts_eq {t : ByteArray} {k : Nat} (hk : k < t.size) (hb : bt t k = 47) : t.extract 0 k ++ ((⟨#[47]⟩ : ByteArray) ++ t.extract (k + 1) t.size) = t := by
 apply ba_ext
 have hz : k < t.data.toList.length := by rw [Array.length_toList]; exact hk
 rw [ByteArray.data_append, ByteArray.data_append, Array.toList_append, Array.toList_append, ext_front, ext_all]
 have hx : t.data.toList[k]'hz = 47 := by
  have h1 := @bt_eq t k hk
  rw [hb] at h1
  apply UInt8.toNat_inj.1
  have h2 : (t[k]'hk).toNat = 47 := by exact_mod_cast h1
  exact h2
 have h3 : t.data.toList.drop k = 47 :: t.data.toList.drop (k + 1) := by rw [List.drop_eq_getElem_cons hz, hx]
 show t.data.toList.take k ++ ([47] ++ t.data.toList.drop (k + 1)) = _
 rw [List.singleton_append, ← h3, List.take_append_drop]
theorem join_split : ∀ (n : Nat) (t v x : ByteArray) (r : List ByteArray), t.size ≤ n → splitC t 47 = x :: r → joinS (v ++ x) r = v ++ t
 | n, t, v, x, r, hn, h => by
  rcases place_spec t 47 with ⟨hp, _⟩ | ⟨k, hp, hk, hb, _⟩
  ·rw [splitC_miss hp] at h
   obtain ⟨rfl, rfl⟩ := List.cons_eq_cons.1 h
   rfl
  ·rw [splitC_hit hk hp] at h
   obtain ⟨rfl, rfl⟩ := List.cons_eq_cons.1 h
   have hz := ext_size t (a := k + 1) (b := t.size) (by omega) (Nat.le_refl _)
   match n, hn with
   | 0, hn => omega
   | n + 1, hn =>
    obtain ⟨y, r', hy⟩ : ∃ y r', splitC (t.extract (k + 1) t.size) 47 = y :: r' := by
     cases hc : splitC (t.extract (k + 1) t.size) 47 with
     | nil => exact absurd hc (splitC_ne _ _)
     | cons y r' => exact ⟨y, r', rfl⟩
    rw [hy]
    show joinS (v ++ t.extract 0 k ++ ((⟨#[47]⟩ : ByteArray) ++ y)) r' = v ++ t
    rw [← ByteArray.append_assoc, join_split n _ _ y r' (by omega) hy, ByteArray.append_assoc, ByteArray.append_assoc, parts_eq hk hb]
def refGo : List Pc → List ByteArray → List Prm → Option (List Prm)
 | [], [], out => some out
 | [], _ :: _, _ => none
 | _ :: _, [], _ => none
 | p :: l, x :: xs, out =>
  if p.1 = 0 then (if x = p.2 then refGo l xs out else none)
  else if p.1 = 1 then (if x.size = 0 then none else refGo l xs (out ++ [(p.2, x, true)]))
  else some (out ++ [(p.2, joinS x xs, true)])
theorem ref_fit : ∀ (l : List Pc), (∀ p ∈ l, p.1 = 0 ∨ p.1 = 1 ∨ p.1 = 2) → ∀ (left : ByteArray) (out : List Prm), fitGo l left true out = refGo l (splitC left 47) out
 | [], _, left, out => by
  obtain ⟨y, r, hy⟩ : ∃ y r, splitC left 47 = y :: r := by
   cases hc : splitC left 47 with
   | nil => exact absurd hc (splitC_ne _ _)
   | cons y r => exact ⟨y, r, rfl⟩
  rw [hy]
  rfl
 | p :: l, hk, left, out => by
  have hkp := hk p List.mem_cons_self
  have ih := ref_fit l (fun q hq => hk q (List.mem_cons_of_mem _ hq))
  have hno : ∀ o, fitGo l (⟨#[]⟩ : ByteArray) false o = refGo l [] o := fun o => by
   rw [fitGo_nomore]
   cases l with
   | nil => rfl
   | cons q l => rfl
  unfold fitGo
  rw [if_neg (by simp)]
  rcases place_spec left 47 with ⟨hp, _⟩ | ⟨k, hp, hkk, hb, _⟩
  ·rw [splitC_miss hp, cutW_miss hp]
   unfold refGo
   dsimp only
   rcases hkp with h | h | h
   ·rw [h, if_neg (by decide), if_pos rfl, if_neg (show ¬ (0 : Int) = 1 by decide)]
    by_cases hx : left = p.2
    ·rw [if_pos hx, if_neg (by rintro (⟨_, h1⟩ | ⟨h1, _⟩); exact h1 hx; exact absurd h1 (by decide)), hno]
    ·rw [if_neg hx, if_pos (.inl ⟨rfl, hx⟩)]
   ·rw [h, if_neg (by decide), if_neg (show ¬ (1 : Int) = 0 by decide), if_pos rfl, if_pos rfl]
    by_cases hx : left.size = 0
    ·rw [if_pos hx, if_pos (.inr ⟨rfl, hx⟩)]
    ·rw [if_neg hx, if_neg (by rintro (⟨h1, _⟩ | ⟨_, h1⟩); exact absurd h1 (by decide); exact hx h1), hno]
   ·rw [h, if_pos rfl, if_neg (show ¬ (2 : Int) = 0 by decide), if_neg (show ¬ (2 : Int) = 1 by decide)]
    rfl
  ·rw [splitC_hit hkk hp, cutW_hit hkk hp]
   unfold refGo
   dsimp only
   rcases hkp with h | h | h
   ·rw [h, if_neg (by decide), if_pos rfl, if_neg (show ¬ (0 : Int) = 1 by decide)]
    by_cases hx : left.extract 0 k = p.2
    ·rw [if_pos hx, if_neg (by rintro (⟨_, h1⟩ | ⟨h1, _⟩); exact h1 hx; exact absurd h1 (by decide)), ih]
    ·rw [if_neg hx, if_pos (.inl ⟨rfl, hx⟩)]
   ·rw [h, if_neg (by decide), if_neg (show ¬ (1 : Int) = 0 by decide), if_pos rfl, if_pos rfl]
    by_cases hx : (left.extract 0 k).size = 0
    ·rw [if_pos hx, if_pos (.inr ⟨rfl, hx⟩)]
    ·rw [if_neg hx, if_neg (by rintro (⟨h1, _⟩ | ⟨_, h1⟩); exact absurd h1 (by decide); exact hx h1), ih]
   ·have hj := join_split left.size left ⟨#[]⟩ (left.extract 0 k) (splitC (left.extract (k + 1) left.size) 47) (Nat.le_refl _) (splitC_hit hkk hp)
    rw [show (⟨#[]⟩ : ByteArray) = ByteArray.empty from rfl, ByteArray.empty_append, ByteArray.empty_append] at hj
    rw [h, if_pos rfl, if_neg (show ¬ (2 : Int) = 0 by decide), if_neg (show ¬ (2 : Int) = 1 by decide), hj]
theorem ext_tail {s : ByteArray} {a j k : Nat} (_h : a + k ≤ s.size) : (s.extract a s.size).extract j k = s.extract (a + j) (a + k) := by
 apply bl_inj
 rw [bl_extract, bl_extract, bl_extract, ← bl_length s, List.take_length, List.take_drop, List.drop_drop]
theorem segs_split (s : ByteArray) : ∀ (n a : Nat), s.size - a ≤ n → a < s.size → segsA s a = splitC (s.extract (a + 1) s.size) 47
 | n, a, hn, ha => by
  have hz := ext_size s (a := a + 1) (b := s.size) (by omega) (Nat.le_refl _)
  rcases place_spec (s.extract (a + 1) s.size) 47 with ⟨hp, hno⟩ | ⟨k, hp, hk, hb, hno⟩
  ·rw [splitC_miss hp, segsA_step (k := s.size) ha (by omega) (Nat.le_refl _) (fun j h1 h2 => ?_) (fun h => by omega), segsA_end (Nat.le_refl _)]
   have := hno (j - (a + 1)) (by omega)
   rwa [ext_bt s (by omega), show a + 1 + (j - (a + 1)) = j by omega] at this
  ·rw [splitC_hit hk hp, segsA_step (k := a + 1 + k) ha (by omega) (by omega) (fun j h1 h2 => ?_) (fun h => ?_)]
   ·match n, hn with
    | 0, hn => omega
    | n + 1, hn =>
     have h3 : (s.extract (a + 1) s.size).extract (k + 1) (s.extract (a + 1) s.size).size = s.extract (a + 1 + k + 1) s.size := by
      rw [hz, ext_tail (by omega), show a + 1 + (k + 1) = a + 1 + k + 1 by omega, show a + 1 + (s.size - (a + 1)) = s.size by omega]
     rw [h3, ext_tail (by omega), Nat.add_zero, segs_split s n (a + 1 + k) (by omega) (by omega)]
   ·have := hno (j - (a + 1)) (by omega)
    rwa [ext_bt s (by omega), show a + 1 + (j - (a + 1)) = j by omega] at this
   ·rwa [ext_bt s (by omega)] at hb
def refFits (pattern path : ByteArray) : Option (List Prm) := if (splitP pattern).2.2 = true ∧ isPathB path = true then refGo ((segsP pattern).map pcOf) (segsP path) [] else none
theorem ref_fits (pattern path : ByteArray) : refFits pattern path = fitsP pattern path := by
 unfold refFits fitsP
 by_cases h : (splitP pattern).2.2 = true ∧ isPathB path = true
 ·rw [if_pos h, if_pos h, split_segs h.1]
  obtain ⟨h1, h2⟩ := h
  have hz : 0 < path.size := by
   unfold isPathB at h2
   simp at h2
   exact h2.1
  rw [ref_fit _ (fun p hp => by
   have := (split_wf h1).1 p (by rw [split_segs h1]; exact hp)
   exact this.1), segsP_A path, segs_split path _ 0 (Nat.le_refl _) hz]
  rfl
 ·rw [if_neg h, if_neg h]
theorem chk_no' {s : ByteArray} (h : (splitP s).2.2 = false) : (checkP s).2 = 130 := by
 unfold checkP
 generalize splitP s = r at *
 obtain ⟨l, p, g⟩ := r
 dsimp only at h
 subst h
 rfl
theorem chk_yes' {s : ByteArray} (h : (splitP s).2.2 = true) : checkP s = (0, 0) := by
 unfold checkP
 generalize splitP s = r at *
 obtain ⟨l, p, g⟩ := r
 dsimp only at h
 subst h
 rfl
theorem info_rprm : (Tryz.prog.info? 71).map (fun i => (i.zero, i.size, i.bytes)) = some (some (.agg #[.string ⟨#[]⟩, .string ⟨#[]⟩, .bool false]), 3, 40) := by kernel_rfl
def GivesRf (w : World) (r : Option (List Prm)) (e : Ending) (w' : World) : Prop :=
 ∃ A c, e = .returned (.tuple #[.slice A (fitVal r).1.length c, .bool (fitVal r).2]) ∧ Row w' A (flat3 (fitVal r).1) ∧ Below w.heap.size w w'
theorem gives_rnofit {w w' : World} {r : Option (List Prm)} {A : Option Addr} {c : Nat} (h : r = none) (hb : Below w.heap.size w w') : GivesRf w r (.returned (.tuple #[.slice A 0 c, .bool false])) w' := by
 subst h
 exact ⟨A, c, rfl, Row.nil _ _, hb⟩
theorem gives_rfit {w w' : World} {r : Option (List Prm)} {l : List Prm} {v : Value} {n : Nat} (h : r = some l) (ho : w'.ownsRow n 71 3 v l.length (flat3 l)) (hb : Below w.heap.size w w') : GivesRf w r (.returned (.tuple #[v, .bool true])) w' := by
 subst h
 obtain ⟨A, c, rfl⟩ := own_slice ho
 exact ⟨A, c, rfl, own_row ho, hb⟩
theorem pcOf_kind (x : ByteArray) : (pcOf x).1 = 0 ∨ (pcOf x).1 = 1 ∨ (pcOf x).1 = 2 := by
 unfold pcOf
 by_cases h : 0 < x.size ∧ bt x 0 = 58
 ·rw [if_pos h]; exact .inr (.inl rfl)
 ·rw [if_neg h]
  by_cases h : 0 < x.size ∧ bt x 0 = 42
  ·rw [if_pos h]; exact .inr (.inr rfl)
  ·rw [if_neg h]; exact .inl rfl
theorem segs_size (s : ByteArray) : ∀ (n a : Nat), ∀ x ∈ segsGo s n a, x.size ≤ s.size
 | 0, _, x, h => by cases h
 | n + 1, a, x, h => by
  unfold segsGo at h
  by_cases ha : a < s.size
  ·rw [if_pos ha] at h
   rcases List.mem_cons.1 h with rfl | h
   ·rw [ByteArray.size_extract]; omega
   ·exact segs_size s n _ x h
  ·rw [if_neg ha] at h; cases h
theorem refGo_zero {y x : ByteArray} {l : List Pc} {xs : List ByteArray} {out : List Prm} : refGo (((0 : Int), y) :: l) (x :: xs) out = if x = y then refGo l xs out else none := by
 conv => lhs; unfold refGo
 rw [if_pos rfl]
theorem refGo_one {y x : ByteArray} {l : List Pc} {xs : List ByteArray} {out : List Prm} : refGo (((1 : Int), y) :: l) (x :: xs) out = if x.size = 0 then none else refGo l xs (out ++ [(y, x, true)]) := by
 conv => lhs; unfold refGo
 rw [if_neg (show ¬ (1 : Int) = 0 by decide), if_pos rfl]
theorem refGo_two {y x : ByteArray} {l : List Pc} {xs : List ByteArray} {out : List Prm} : refGo (((2 : Int), y) :: l) (x :: xs) out = some (out ++ [(y, joinS x xs, true)]) := by
 conv => lhs; unfold refGo
 rw [if_neg (show ¬ (2 : Int) = 0 by decide), if_neg (show ¬ (2 : Int) = 1 by decide)]
theorem refGo_short {p : Pc} {l : List Pc} {out : List Prm} : refGo (p :: l) [] out = none := rfl
theorem refGo_end {xs : List ByteArray} {out : List Prm} : refGo [] xs out = if xs = [] then some out else none := by
 cases xs with
 | nil => rfl
 | cons x xs => rw [if_neg (by simp)]; rfl
set_option maxRecDepth 20000 in
set_option maxHeartbeats 8000000 in
theorem rFits_any (s path : ByteArray) (w : World) (hs : s.size ≤ 4194304) (hp : path.size ≤ 4194304) :
  Calls Tryz.prog 56 #[.string s, .string path] w (GivesRf w (refFits s path)) := by
 obtain ⟨i0, hi0, hz0, hz1, hz2⟩ := info_parts info_rprm
 have HC := Lib.hid (fun W => rCheck_any s W hs)
 have HIP := Lib.hid (fun W => rIsPath_any path W (by omega))
 have HPC := Lib.hid (fun W => rPieces_any s W hs)
 have HSP := Lib.hid (fun W => rSplit_any path W hp)
 have hno := @chk_no' s
 have hye := @chk_yes' s
 have hrf : refFits s path = if (splitP s).2.2 = true ∧ isPathB path = true then refGo (rPieces s) (segsP path) [] else none := rfl
 have hpk : ∀ q ∈ rPieces s, q.1 = 0 ∨ q.1 = 1 ∨ q.1 = 2 := fun q hq => by
  obtain ⟨x, _, rfl⟩ := List.mem_map.1 hq
  exact pcOf_kind x
 have hpl : (rPieces s).length ≤ 4194304 := by
  unfold rPieces
  rw [List.length_map]
  have := segsP_len s
  omega
 have hsl : (segsP path).length ≤ 4194304 := by have := segsP_len path; omega
 have hss : ∀ x ∈ segsP path, x.size ≤ 4194304 := fun x hx => by have := segs_size path _ _ x hx; omega
 generalize rPieces s = pl at *
 generalize segsP path = sl at *
 generalize refFits s path = R at *
 unfold chkVal at HC
 generalize checkP s = ck at *
 obtain ⟨cp, ce⟩ := ck
 dsimp only at HC hno
 have HPK := Lib.hid hpk
 have HSS := Lib.hid hss
 clear hpk hss
 cases hg : (splitP s).2.2
 ·have hce := hno hg
  subst hce
  have HR := Lib.hid (show R = none by rw [hrf, hg]; exact if_neg (fun h => by cases h.1))
  clear hrf hno hye hg
  go_enter Tryz.func56, Tryz.ntmps56
  go_wp2_with fail
  refine (HC.out _).mono ?_
  rintro e w1 ⟨rfl, hb1⟩
  have B1 := ((Below.refl w.heap.size w).alloc (Nat.le_refl _) (.cells #[] 71)).trans (hb1.mono (by simp))
  clear hb1
  go_wp2
  go_ret2
  exact gives_rnofit HR.out B1
 ·obtain ⟨rfl, rfl⟩ : cp = 0 ∧ ce = 0 := ⟨congrArg Prod.fst (hye hg), congrArg Prod.snd (hye hg)⟩
  cases hpp : isPathB path
  ·have HR := Lib.hid (show R = none by rw [hrf, hpp]; exact if_neg (fun h => by cases h.2))
   rw [hpp] at HIP
   clear hrf hno hye hg
   go_enter Tryz.func56, Tryz.ntmps56
   go_wp2_with fail
   refine (HC.out _).mono ?_
   rintro e w1 ⟨rfl, hb1⟩
   have B1 := ((Below.refl w.heap.size w).alloc (Nat.le_refl _) (.cells #[] 71)).trans (hb1.mono (by simp))
   clear hb1
   go_wp2_with fail
   refine (HIP.out _).mono ?_
   rintro e w2 ⟨rfl, rfl⟩
   go_wp2
   go_ret2
   exact gives_rnofit HR.out B1
  ·have HF := Lib.hid (show R = refGo pl sl [] by rw [hrf, if_pos ⟨hg, hpp⟩])
   rw [hpp] at HIP
   clear hrf hno hye hg
   go_enter Tryz.func56, Tryz.ntmps56
   go_wp2_with fail
   refine (HC.out _).mono ?_
   rintro e w1 ⟨rfl, hb1⟩
   have B1 := ((Below.refl w.heap.size w).alloc (Nat.le_refl _) (.cells #[] 71)).trans (hb1.mono (by simp))
   clear hb1
   go_wp2_with fail
   refine (HIP.out _).mono ?_
   rintro e w2 ⟨rfl, rfl⟩
   go_wp2_with fail
   refine (HPC.out _).mono ?_
   rintro e w3 ⟨PA, Pn, rfl, ho3, hb3⟩
   have B3 := B1.trans (hb3.mono B1.size)
   clear hb3 B1
   go_wp2_with fail
   refine (HSP.out _).mono ?_
   rintro e w4 ⟨SA, Sn, rfl, ho4, hb4⟩
   have B4 := B3.trans (hb4.mono B3.size)
   have HPR := Lib.hid (own_row (own_below ho3 hb4))
   have HSR := Lib.hid (own_row ho4)
   clear hb4 B3 ho3 ho4 HC HIP HPC HSP
   go_wp2
   go_loopw [11, 12] (fun v i wr => ∃ (k : Nat) (out : List Prm), k ≤ pl.length ∧ k ≤ sl.length ∧ i = .int .i64 k ∧ out.length ≤ k ∧ Hid (refGo (pl.drop k) (sl.drop k) out = R) ∧ wr.ownsRow w4.heap.size 71 3 v out.length (flat3 out) ∧ Below w4.heap.size w4 wr) (fun _ i _ => pl.length - (RowKit.intOf i).toNat)
   case atStart => exact ⟨0, [], by omega, by omega, rfl, Nat.le_refl _, Lib.hid HF.out.symm, World.ownsRow_lit _ #[] 0 (Nat.le_refl _) (by unfold maxLen; omega) rfl, (Below.refl _ _).alloc (Nat.le_refl _) _⟩
   case round =>
    clear HF
    obtain ⟨k, out, hk, hk2, rfl, hol, HFT, hown, hbr⟩ := hrel
    have hbw := B4.trans (hbr.mono B4.size)
    have hft := HFT.out
    by_cases hlt : k < pl.length
    ·obtain ⟨⟨x, y⟩, hxy⟩ := some_of_lt hlt
     have hkI : (k : Int) < (pl.length : Int) := by omega
     have hkx := HPK.out _ (List.mem_of_getElem? hxy)
     dsimp only at hkx
     obtain ⟨b, off, rfl, hb, f0, f1⟩ := (HPR.out.below hbr).pc hxy
     rw [drop_of_some hxy] at hft
     by_cases hl2 : k < sl.length
     rotate_left
     ·have hge : (sl.length : Int) ≤ (k : Int) := by omega
      rw [show sl.drop k = [] from List.drop_eq_nil_of_le (by omega), refGo_short] at hft
      have HR := Lib.hid hft.symm
      clear hft HFT hxy
      go_wp2
      go_ret2
      exact gives_rnofit HR.out hbw
     obtain ⟨u, hu⟩ := some_of_lt hl2
     have hge : ¬ (sl.length : Int) ≤ (k : Int) := by omega
     have hlI : (k : Int) < (sl.length : Int) := by omega
     have hus := HSS.out _ (List.mem_of_getElem? hu)
     obtain ⟨b', off', rfl, hb', g0⟩ := (HSR.out.below hbr).str hu
     rw [drop_of_some hu] at hft
     have HXY := Lib.hid hxy
     have HU := Lib.hid hu
     clear hxy hu HFT
     rcases hkx with rfl | rfl | rfl
     ·rw [refGo_zero] at hft
      by_cases huy : u = y
      ·rw [if_pos huy] at hft
       have hq : (u.toList == y.toList) = true := by rw [eq_str]; exact decide_eq_true huy
       have HR := Lib.hid hft
       clear hft huy
       go_wp2_with fail
       go_quiet (fail)
       go_wp2
       go_roundw
       case rel => exact ⟨k + 1, out, by omega, by omega, by go_num, by omega, HR, own_below hown (below_drewN (Below.refl _ _) _), below_drewN hbr _⟩
       case measure => simp [RowKit.intOf]; omega
      ·rw [if_neg huy] at hft
       have hq : (u.toList == y.toList) = false := by rw [eq_str]; exact decide_eq_false huy
       have HR := Lib.hid hft.symm
       clear hft huy
       go_wp2_with fail
       go_quiet (fail)
       go_wp2
       go_ret2
       exact gives_rnofit HR.out (below_drewN hbw _)
     ·rw [refGo_one] at hft
      by_cases huz : u.size = 0
      ·rw [if_pos huz] at hft
       have hq : u.toList.isEmpty = true := by rw [empty_eq]; exact decide_eq_true huz
       have HR := Lib.hid hft.symm
       clear hft huz
       go_wp2
       go_ret2
       exact gives_rnofit HR.out hbw
      ·rw [if_neg huz] at hft
       have hq : u.toList.isEmpty = false := by rw [empty_eq]; exact decide_eq_false huz
       have HR := Lib.hid hft
       clear hft huz
       have hb4 : b < w4.heap.size := by
        obtain ⟨b2, o2, e, h, _⟩ := HPR.out.pc HXY.out
        cases e
        exact h
       have hb4' : b' < w4.heap.size := by
        obtain ⟨b2, o2, e, h, _⟩ := HSR.out.str HU.out
        cases e
        exact h
       have HNB := Lib.hid (show some b ≠ u11.ownBlock from fun e => by have := own_lt hown _ e.symm; omega)
       have HNB' := Lib.hid (show some b' ≠ u11.ownBlock from fun e => by have := own_lt hown _ e.symm; omega)
       have HS := Lib.hid (show wr.cell? ⟨b, off + k * 2 + 1, none⟩ = some (.string y) ∧ wr.cell? ⟨b', off' + k, none⟩ = some (.string u) from ⟨f1, g0⟩)
       go_wp2_with fail
       go_region_held3 (fun w' => w'.cell? ⟨b, off + k * 2 + 1, none⟩ = some (.string y) ∧ w'.cell? ⟨b', off' + k, none⟩ = some (.string u)) (first | exact HS.out | exact ⟨hSB0, hSB1⟩ | assumption | go_keep) ((refine step_append_any _ rfl (.tmp 71) (.tmp 82) 57 rfl w4.heap.size 71 i0 (.agg #[.string ⟨#[]⟩, .string ⟨#[]⟩, .bool false]) 3 40 Tryz.underlying57 hi0 hz0 hz1 hz2 rfl (by decide) _ _ _ (by rfl) (hown.drew.alloc _) _ (some ⟨wr.heap.size, 0, none⟩) 1 1 [.string y, .string u, .bool true] (by rfl) (reads_of_row (row_newc _ _ _ (by simp)) rfl (by decide)) (by intro u hu; simp at hu; rcases hu with rfl | rfl | rfl <;> rfl) (by unfold maxLen; omega) (by omega) (by have := hbr.size; simp; omega) ?_; intro v' w2 hown2 hg2 alt2; have hSB0 := (cell_far hg2 ⟨b, off + k * 2 + 1, none⟩ (by simp; omega) HNB.out).trans ((World.cell?_alloc_lt _ _ _ (by simp; omega)).trans f1); have hSB1 := (cell_far hg2 ⟨b', off' + k, none⟩ (by simp; omega) HNB'.out).trans ((World.cell?_alloc_lt _ _ _ (by simp; omega)).trans g0)))
       all_goals
        have hb5 := ((below_drew hbr).alloc (by have := hbr.size; simpa using this) (.cells #[.string y, .string u, .bool true] 71)).grown hg2 (by have := hbr.size; simp; omega) (own_lt hown)
        have hov : w2.ownsRow w4.heap.size 71 3 v' (out ++ [((y, u, true) : Prm)]).length (flat3 (out ++ [((y, u, true) : Prm)])) := by rw [flat3_append, List.length_append]; exact hown2
        clear hown2 hg2 alt2 hSB0 hSB1 HNB HNB' HS
        go_wp2
        go_roundw
        case rel => exact ⟨k + 1, _, by omega, by omega, by go_num, by rw [List.length_append]; simp; omega, HR, hov, hb5⟩
        case measure => simp [RowKit.intOf]; omega
     ·rw [refGo_two] at hft
      have HR := Lib.hid hft.symm
      clear hft
      obtain ⟨xo, rfl⟩ : ∃ xo : World, xo = wr := ⟨_, rfl⟩
      have hkk : (k : Int) + 1 ≤ (sl.length : Int) := by omega
      go_wp2
      go_loopw [13, 14] (fun v j wr => ∃ (jj : Nat) (t : ByteArray), v = .string t ∧ j = .int .i64 (jj : Int) ∧ k + 1 ≤ jj ∧ jj ≤ sl.length ∧ t.size ≤ jj * 4194305 ∧ Hid (joinS t (sl.drop jj) = joinS u (sl.drop (k + 1))) ∧ wr = xo) (fun _ j _ => sl.length - (RowKit.intOf j).toNat)
      case atStart => exact ⟨k + 1, u, rfl, by go_num, Nat.le_refl _, by omega, by omega, Lib.hid rfl, rfl⟩
      case round =>
       obtain ⟨jj, t, rfl, rfl, hj1, hj2, htz, HJ, rfl⟩ := hrel
       by_cases hjl : jj < sl.length
       ·obtain ⟨x2, hx2⟩ := some_of_lt hjl
        have hjI : (jj : Int) < (sl.length : Int) := by omega
        have hx2s := HSS.out _ (List.mem_of_getElem? hx2)
        have g2 : wr.cell? ⟨b', off' + jj, none⟩ = some (.string x2) := by
         obtain ⟨b2, o2, e, _, h⟩ := (HSR.out.below hbr).str hx2
         cases e
         exact h
        have HJ2 := Lib.hid (show joinS (t ++ ((⟨#[47]⟩ : ByteArray) ++ x2)) (sl.drop (jj + 1)) = joinS u (sl.drop (k + 1)) by rw [← HJ.out, drop_of_some hx2]; rfl)
        clear HJ hx2
        go_wp2
        go_roundw
        case rel => exact ⟨jj + 1, _, rfl, by go_num, by omega, by omega, by rw [ByteArray.size_append, ByteArray.size_append]; show t.size + (1 + x2.size) ≤ _; omega, HJ2, by first | rfl | trivial⟩
        case measure => simp [RowKit.intOf]; omega
       ·have hjI : ¬ (jj : Int) < (sl.length : Int) := by omega
        have HT := Lib.hid (show t = joinS u (sl.drop (k + 1)) by
         have h := HJ.out
         rw [show sl.drop jj = [] from List.drop_eq_nil_of_le (by omega)] at h
         exact h)
        have HR2 := Lib.hid (show R = some (out ++ [((y, t, true) : Prm)]) by rw [HR.out, HT.out])
        clear HJ HT HR
        go_wp2_with (at_builtin; refine wpList_append_any _ rfl (.tmp 105) (.tmp 113) 57 rfl w4.heap.size 71 i0 (.agg #[.string ⟨#[]⟩, .string ⟨#[]⟩, .bool false]) 3 40 Tryz.underlying57 hi0 hz0 hz1 hz2 rfl (by decide) _ _ _ (by rfl) (hown.alloc _) _ (some ⟨wr.heap.size, 0, none⟩) 1 1 [.string y, .string t, .bool true] (by rfl) (reads_of_row (row_newc _ _ _ (by simp)) rfl (by decide)) (by intro u hu; simp at hu; rcases hu with rfl | rfl | rfl <;> rfl) (by unfold maxLen; omega) (by omega) (by have := hbr.size; simp; omega) ?_; intro va wv hownv hgv altv)
        have hbv := (hbw.alloc hbw.size (.cells #[.string y, .string t, .bool true] 71)).grown hgv (by have := hbw.size; simp; omega) (fun g hg => Nat.le_trans B4.size (own_lt hown g hg))
        have hov : wv.ownsRow w4.heap.size 71 3 va (out ++ [((y, t, true) : Prm)]).length (flat3 (out ++ [((y, t, true) : Prm)])) := by rw [flat3_append, List.length_append]; exact hownv
        clear hownv hgv altv
        go_wp2
        go_ret2
        exact gives_rfit HR2.out hov hbv
    ·obtain rfl : k = pl.length := by omega
     have hkI : ¬ (pl.length : Int) < (pl.length : Int) := by omega
     rw [List.drop_length, refGo_end] at hft
     by_cases hz : pl.length = sl.length
     ·rw [if_pos (by rw [hz, List.drop_length])] at hft
      have hq : ((pl.length : Int) != (sl.length : Int)) = false := by rw [hz]; simp
      have HR := Lib.hid hft.symm
      clear hft HFT hz
      go_wp2
      go_ret2
      exact gives_rfit HR.out hown hbw
     ·rw [if_neg (fun h => hz (by have := List.drop_eq_nil_iff.1 h; omega))] at hft
      have hq : ((pl.length : Int) != (sl.length : Int)) = true := by simp; omega
      have HR := Lib.hid hft.symm
      clear hft HFT hz
      go_wp2
      go_ret2
      exact gives_rnofit HR.out hbw
end Go.Proofs.YtiohmnhbmmhnhaaGreatDoor
