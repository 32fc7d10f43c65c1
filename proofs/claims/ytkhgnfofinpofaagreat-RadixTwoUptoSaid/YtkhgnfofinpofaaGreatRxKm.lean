/-
  How the reference counts nodes: the walks of symbols, common and Nodes.
-/
import Derived.Test.YtkhgnfofinpofaaGreatRxKf
import Derived.Test.YtkhgnfofinpofaaGreatRxKs
import Derived.Test.YtkhgnfofinpofaaGreatTgMo
namespace Go.Proofs.YtkhgnfofinpofaaGreat
open Go.RowKit Go.Shelf Go.Lib

def ints (l : List Nat) : List Value := l.map fun n : Nat => Value.int .i64 (n : Int)
theorem ints_length (l : List Nat) : (ints l).length = l.length := List.length_map _
theorem ints_append (a b : List Nat) : ints (a ++ b) = ints a ++ ints b := List.map_append
theorem ints_get {l : List Nat} {k n : Nat} (h : l[k]? = some n) : (ints l)[k]? = some (.int .i64 (n : Int)) := by unfold ints; rw [List.getElem?_map, h]; rfl
theorem ints_oneCell (l : List Nat) : ∀ u ∈ ints l, u.oneCell' = true := by
  intro u hu
  obtain ⟨n, _, rfl⟩ := List.mem_map.1 hu
  rfl
theorem info_intR : (Tryz.prog.info? 3).map (fun i => (i.zero, i.size, i.bytes)) = some (some (.int .i64 0), 1, 8) := by kernel_rfl
theorem info_intsR : (Tryz.prog.info? 64).map (fun i => (i.zero, i.size, i.bytes)) = some (some (.slice none 0 0), 1, 24) := by kernel_rfl
theorem Row.int {w : World} {A : Option Addr} {l : List Nat} {k n : Nat} (h : Row w A (ints l)) (hk : l[k]? = some n) : ∃ b off, A = some ⟨b, off, none⟩ ∧ b < w.heap.size ∧ w.cell? ⟨b, off + k, none⟩ = some (.int .i64 (n : Int)) := by
  obtain ⟨b, off, e, hb, hc⟩ := h.at_ (ints_get hk)
  exact ⟨b, off, e, hb, hc _ _ (ints_get hk)⟩
theorem symTail_append (a b : List Pc) : symTail (a ++ b) = symTail a ++ symTail b := by
  induction a with
  | nil => rfl
  | cons p a ih =>
    show 47 :: (symP p ++ symTail (a ++ b)) = 47 :: (symP p ++ symTail a) ++ symTail b
    rw [ih]
    simp
theorem symTail_take {l : List Pc} {k : Nat} {p : Pc} (h : l[k]? = some p) : symTail (l.take (k + 1)) = symTail (l.take k) ++ 47 :: symP p := by
  rw [take_snoc h, symTail_append]
  show _ ++ 47 :: (symP p ++ []) = _
  rw [List.append_nil]
theorem symP_len (p : Pc) : (symP p).length ≤ p.2.size + 1 := by
  unfold symP
  split
  · simp
  · split
    · simp
    · rw [bl_length]; omega
theorem symTail_len : ∀ l : List Pc, (symTail l).length ≤ 2 * totP l
  | [] => Nat.zero_le _
  | p :: l => by
    have h1 := symP_len p
    have h2 := symTail_len l
    show (symP p ++ symTail l).length + 1 ≤ _
    rw [List.length_append, totP_cons]
    omega
theorem symTail_take_len (l : List Pc) (k : Nat) : (symTail (l.take k)).length ≤ (symTail l).length := by
  have h := symTail_append (l.take k) (l.drop k)
  rw [List.take_append_drop] at h
  rw [h, List.length_append]
  omega
/-- What symbols hands back. -/
def GivesSym (w : World) (l : List Nat) (e : Ending) (w' : World) : Prop :=
  ∃ A c, e = .returned (.slice A l.length c) ∧ w'.ownsRow w.heap.size 3 1 (.slice A l.length c) l.length (ints l) ∧ Below w.heap.size w w'
theorem gives_sym {w w' : World} {l : List Nat} {v : Value} {n : Nat} (hn : w.heap.size ≤ n) (ho : w'.ownsRow n 3 1 v l.length (ints l)) (hb : Below w.heap.size w w') : GivesSym w l (.returned v) w' := by
  obtain ⟨A, c, rfl⟩ := own_slice ho
  exact ⟨A, c, rfl, own_less ho hn, hb⟩
/-- A number more. -/
theorem own_more {w3 : World} {n : Nat} {v : Value} {acc acc' : List Nat} {x : Nat} (h : acc' = acc ++ [x]) (ho : w3.ownsRow n 3 1 v (acc.length + 1) (ints acc ++ [.int .i64 (x : Int)])) : w3.ownsRow n 3 1 v acc'.length (ints acc') := by
  rw [h, ints_append, List.length_append]
  exact ho
theorem bl_get {s : ByteArray} {j n : Nat} (h : (bl s)[j]? = some n) : bt s j = (n : Int) := by
  unfold bl at h
  rw [List.getElem?_map, Option.map_eq_some_iff] at h
  obtain ⟨u, hu, rfl⟩ := h
  unfold bt
  rw [List.getD_eq_getElem?_getD, hu]
  rfl
theorem own_mid {w3 : World} {n m : Nat} {v : Value} {acc : List Nat} {x y : Nat} (ho : w3.ownsRow n 3 1 v (m + 1 + 1) (ints acc ++ [.int .i64 (x : Int)] ++ [.int .i64 (y : Int)])) (hm : m = acc.length := by rfl) : w3.ownsRow n 3 1 v ((acc ++ [x]).length + 1) (ints (acc ++ [x]) ++ [.int .i64 (y : Int)]) := by
  rw [ints_append, List.length_append]
  subst hm
  exact ho
set_option maxRecDepth 20000 in
set_option maxHeartbeats 8000000 in
theorem symbols_any (s : ByteArray) (w : World) (hg : (splitP s).2.2 = true) :
    Calls Tryz.prog 22 #[.string s] w (GivesSym w (rowP (splitP s).1)) := by
  obtain ⟨i0, hi0, hz0, hz1, hz2⟩ := info_parts info_intR
  obtain ⟨h1, _, h3, _, h5, _⟩ := split_wf hg
  have HPC := Lib.hid (fun W => rPieces_any s W (by omega))
  have hrp : rPieces s = (splitP s).1 := (split_segs hg).symm
  rw [hrp] at HPC
  have hkd : ∀ p ∈ (splitP s).1, p.1 = 0 ∨ p.1 = 1 ∨ p.1 = 2 := fun p hp => (h1 p hp).1
  unfold rowP
  have hsl := symTail_len (splitP s).1
  have hpl := totP_len (splitP s).1
  clear hrp h1 hg
  generalize (splitP s).1 = l at *
  have HTL := Lib.hid (symTail_take_len l)
  have HTK := Lib.hid (fun k p h => @symTail_take l k p h)
  have HKD := Lib.hid hkd
  clear hkd
  go_enter Tryz.func22, Tryz.ntmps22
  have hb0 := (Below.refl w.heap.size w).alloc (Nat.le_refl _) (.cells #[] 3)
  have hown0 : (w.alloc (.cells #[] 3)).ownsRow w.heap.size 3 1 (.slice (some ⟨w.heap.size, 0, none⟩) 0 0) 0 [] := World.ownsRow_lit w #[] 0 (Nat.le_refl _) (by unfold maxLen; omega) rfl
  go_wp2_with fail
  refine (HPC.out _).mono ?_
  rintro e w1 ⟨PA, pc, rfl, hop, hb1⟩
  have hbw1 := hb0.trans (hb1.mono hb0.size)
  have hop1 := own_less hop hb0.size
  have hown1 := own_below hown0 hb1
  clear hop hb1 hown0 hb0 HPC
  go_wp2
  go_loopw [3, 5] (fun r i wr => ∃ k : Nat, k ≤ l.length ∧ i = .int .i64 (k : Int) ∧ wr.ownsRow w.heap.size 3 1 r (symTail (l.take k)).length (ints (symTail (l.take k))) ∧ wr.ownsRow w.heap.size 98 2 (.slice PA l.length pc) l.length (flatP l) ∧ Below w.heap.size w wr) (fun _ i _ => l.length - (RowKit.intOf i).toNat)
  case atStart => exact ⟨0, by omega, rfl, hown1, hop1, hbw1⟩
  case round =>
    clear hown1 hop1 hbw1
    obtain ⟨k, hk, rfl, hown, hop, hbw⟩ := hrel
    have htk := HTL.out k
    by_cases hlt : k < l.length
    · obtain ⟨⟨x, y⟩, hx⟩ := some_of_lt hlt
      have hkI : (k : Int) < (l.length : Int) := by omega
      have HX := Lib.hid hx
      have HTS := Lib.hid (HTK.out k _ hx)
      have htk1 := HTL.out (k + 1)
      have hkk := HKD.out _ (List.mem_of_getElem? hx)
      dsimp only at hkk
      clear hx
      generalize hac : symTail (l.take k) = acc at *
      clear hac
      rcases hkk with rfl | rfl | rfl
      · have HTS2 := Lib.hid (show symTail (l.take (k + 1)) = acc ++ 47 :: bl y by rw [HTS.out]; rfl)
        have hlen : acc.length + 1 + y.size ≤ (symTail l).length := by
          have := htk1
          rw [HTS2.out, List.length_append, List.length_cons, bl_length] at this
          omega
        clear HTS htk1
        go_wp2_with (at_builtin; refine wpList_append_any _ rfl (.tmp 16) (.tmp 17) 64 rfl w.heap.size 3 i0 (.int .i64 0) 1 8 Tryz.underlying64 hi0 hz0 hz1 hz2 rfl (by decide) _ _ _ rfl (hown.alloc _) _ (some ⟨wr.heap.size, 0, none⟩) 1 1 [.int .i64 47] rfl (reads_of_row (row_newc _ _ 3 (by simp)) rfl (by decide)) (by intro u hu; simp at hu; rw [hu]; rfl) (by unfold maxLen; omega) (by omega) (by simp; have := hbw.size; omega) ?_; intro v1 w3 hown3 hg3 _; have hb3 := (hbw.alloc hbw.size (.cells #[.int .i64 47] 3)).grown hg3 (by simp; have := hbw.size; omega) (own_lt hown); have hop3 := own_other (hop.alloc (.cells #[.int .i64 47] 3)) hg3 (apart_types (hown.alloc (.cells #[.int .i64 47] 3)) (hop.alloc (.cells #[.int .i64 47] 3)) (by decide)); obtain ⟨b3, off3, rfl, hbl3, d0, d1⟩ := (own_row hop3).pc HX.out; clear hop hg3)
        have hown4 : w3.ownsRow w.heap.size 3 1 v1 (acc ++ [47]).length (ints (acc ++ [47])) := own_more rfl hown3
        have hlen2 : (acc ++ [47]).length + y.size ≤ (symTail l).length := by rw [List.length_append]; exact hlen
        have HTS3 := Lib.hid (show symTail (l.take (k + 1)) = acc ++ [47] ++ bl y by rw [HTS2.out]; simp)
        clear hown hown3 HTS2 hlen
        generalize acc ++ [47] = acc2 at *
        clear d0 d1
        go_loopw [3, 6] (fun r i wr => ∃ j : Nat, j ≤ y.size ∧ i = .int .i64 (j : Int) ∧ wr.ownsRow w.heap.size 3 1 r (acc2 ++ (bl y).take j).length (ints (acc2 ++ (bl y).take j)) ∧ wr.ownsRow w.heap.size 98 2 (.slice (some ⟨b3, off3, none⟩) l.length pc) l.length (flatP l) ∧ Below w.heap.size w wr) (fun _ i _ => y.size - (RowKit.intOf i).toNat)
        case atStart => exact ⟨0, by omega, rfl, by rw [List.take_zero, List.append_nil]; exact hown4, hop3, hb3⟩
        case round =>
          clear hown4 hop3 hb3
          obtain ⟨j, hj, rfl, hown, hop, hbw⟩ := hrel
          obtain ⟨b4, off4, he4, hbl4, c0, c1⟩ := (own_row hop).pc HX.out
          cases he4
          by_cases hjl : j < y.size
          · have hjI : (j : Int) < (y.size : Int) := by omega
            obtain ⟨n, hn⟩ := some_of_lt (show j < (bl y).length by rw [bl_length]; exact hjl)
            have hbt := @bt_eq y j hjl
            have hbn : bt y j = (n : Int) := bl_get hn
            have hn256 : n < 256 := bl_lt (List.mem_of_getElem? hn)
            rw [hbn] at hbt
            have HTJ := Lib.hid (show acc2 ++ (bl y).take (j + 1) = acc2 ++ (bl y).take j ++ [n] by rw [take_snoc hn, List.append_assoc])
            have hzz : (acc2 ++ (bl y).take j).length ≤ acc2.length + j := by rw [List.length_append, List.length_take]; omega
            clear hn hbn
            generalize acc2 ++ (bl y).take j = acc3 at *
            go_wp2_with (at_builtin; refine wpList_append_any _ rfl (.tmp 47) (.tmp 56) 64 rfl w.heap.size 3 i0 (.int .i64 0) 1 8 Tryz.underlying64 hi0 hz0 hz1 hz2 rfl (by decide) _ _ _ rfl (hown.alloc _) _ (some ⟨wr.heap.size, 0, none⟩) 1 1 [.int .i64 (n : Int)] rfl (reads_of_row (row_newc _ _ 3 (by simp)) rfl (by decide)) (by intro u hu; simp at hu; rw [hu]; rfl) (by unfold maxLen; omega) (by omega) (by simp; have := hbw.size; omega) ?_; intro v5 w5 hown5 hg5 _)
            have hb5 := (hbw.alloc hbw.size (.cells #[.int .i64 (n : Int)] 3)).grown hg5 (by simp; have := hbw.size; omega) (own_lt hown)
            have hop5 := own_other (hop.alloc (.cells #[.int .i64 (n : Int)] 3)) hg5 (apart_types (hown.alloc (.cells #[.int .i64 (n : Int)] 3)) (hop.alloc (.cells #[.int .i64 (n : Int)] 3)) (by decide))
            have HO5 := Lib.hid (own_more HTJ.out hown5)
            have HB5 := Lib.hid hb5
            have HP5 := Lib.hid hop5
            clear hown hop hbw hown5 hg5 hb5 hop5 c0 c1
            go_wp2
            go_roundw
            case rel => exact ⟨j + 1, by omega, by go_num, HO5.out, HP5.out, HB5.out⟩
            case measure => simp [RowKit.intOf]; omega
          · obtain rfl : j = y.size := by omega
            rw [List.take_of_length_le (by rw [bl_length]; exact Nat.le_refl _)] at hown
            have HO := Lib.hid hown
            have HP := Lib.hid hop
            clear hown hop
            go_wp2
            go_roundw
            case rel => exact ⟨k + 1, by omega, by go_num, by rw [HTS3.out]; exact HO.out, HP.out, hbw⟩
            case measure => simp [RowKit.intOf]; omega
      · have HTS2 := Lib.hid (show symTail (l.take (k + 1)) = acc ++ [47] ++ [1000] by rw [HTS.out]; simp [symP])
        have hlen : acc.length + 2 ≤ (symTail l).length := by
          have := htk1
          rw [HTS2.out, List.length_append, List.length_append] at this
          simp at this
          omega
        clear HTS htk1
        go_wp2_with (first | (at_builtin; refine wpList_append_any _ rfl (.tmp 16) (.tmp 17) 64 rfl w.heap.size 3 i0 (.int .i64 0) 1 8 Tryz.underlying64 hi0 hz0 hz1 hz2 rfl (by decide) _ _ _ rfl (hown.alloc _) _ (some ⟨wr.heap.size, 0, none⟩) 1 1 [.int .i64 47] rfl (reads_of_row (row_newc _ _ 3 (by simp)) rfl (by decide)) (by intro u hu; simp at hu; rw [hu]; rfl) (by unfold maxLen; omega) (by omega) (by simp; have := hbw.size; omega) ?_; intro v1 w3 hown3 hg3 _; have hb3 := (hbw.alloc hbw.size (.cells #[.int .i64 47] 3)).grown hg3 (by simp; have := hbw.size; omega) (own_lt hown); have hop3 := own_other (hop.alloc (.cells #[.int .i64 47] 3)) hg3 (apart_types (hown.alloc (.cells #[.int .i64 47] 3)) (hop.alloc (.cells #[.int .i64 47] 3)) (by decide)); obtain ⟨b3, off3, rfl, hbl3, d0, d1⟩ := (own_row hop3).pc HX.out; clear hown hop hg3) | (at_builtin; refine wpList_append_any _ rfl (.tmp 25) (.tmp 26) 64 rfl w.heap.size 3 i0 (.int .i64 0) 1 8 Tryz.underlying64 hi0 hz0 hz1 hz2 rfl (by decide) _ _ _ rfl (hown3.alloc _) _ (some ⟨w3.heap.size, 0, none⟩) 1 1 [.int .i64 1000] rfl (reads_of_row (row_newc _ _ 3 (by simp)) rfl (by decide)) (by intro u hu; simp at hu; rw [hu]; rfl) (by unfold maxLen; omega) (by omega) (by simp; have := hb3.size; omega) ?_; intro v5 w5 hown5 hg5 _))
        have hb5 := (hb3.alloc hb3.size (.cells #[.int .i64 1000] 3)).grown hg5 (by simp; have := hb3.size; omega) (own_lt hown3)
        have hop5 := own_other (hop3.alloc (.cells #[.int .i64 1000] 3)) hg5 (apart_types (hown3.alloc (.cells #[.int .i64 1000] 3)) (hop3.alloc (.cells #[.int .i64 1000] 3)) (by decide))
        have HO5 := Lib.hid (own_more (acc := acc ++ [47]) HTS2.out (own_mid hown5))
        have HB5 := Lib.hid hb5
        have HP5 := Lib.hid hop5
        clear hown3 hop3 hb3 hown5 hg5 hb5 hop5
        go_wp2
        go_roundw
        case rel => exact ⟨k + 1, by omega, by go_num, HO5.out, HP5.out, HB5.out⟩
        case measure => simp [RowKit.intOf]; omega
      · have HTS2 := Lib.hid (show symTail (l.take (k + 1)) = acc ++ [47] ++ [1001] by rw [HTS.out]; simp [symP])
        have hlen : acc.length + 2 ≤ (symTail l).length := by
          have := htk1
          rw [HTS2.out, List.length_append, List.length_append] at this
          simp at this
          omega
        clear HTS htk1
        go_wp2_with (first | (at_builtin; refine wpList_append_any _ rfl (.tmp 16) (.tmp 17) 64 rfl w.heap.size 3 i0 (.int .i64 0) 1 8 Tryz.underlying64 hi0 hz0 hz1 hz2 rfl (by decide) _ _ _ rfl (hown.alloc _) _ (some ⟨wr.heap.size, 0, none⟩) 1 1 [.int .i64 47] rfl (reads_of_row (row_newc _ _ 3 (by simp)) rfl (by decide)) (by intro u hu; simp at hu; rw [hu]; rfl) (by unfold maxLen; omega) (by omega) (by simp; have := hbw.size; omega) ?_; intro v1 w3 hown3 hg3 _; have hb3 := (hbw.alloc hbw.size (.cells #[.int .i64 47] 3)).grown hg3 (by simp; have := hbw.size; omega) (own_lt hown); have hop3 := own_other (hop.alloc (.cells #[.int .i64 47] 3)) hg3 (apart_types (hown.alloc (.cells #[.int .i64 47] 3)) (hop.alloc (.cells #[.int .i64 47] 3)) (by decide)); obtain ⟨b3, off3, rfl, hbl3, d0, d1⟩ := (own_row hop3).pc HX.out; clear hown hop hg3) | (at_builtin; refine wpList_append_any _ rfl (.tmp 34) (.tmp 35) 64 rfl w.heap.size 3 i0 (.int .i64 0) 1 8 Tryz.underlying64 hi0 hz0 hz1 hz2 rfl (by decide) _ _ _ rfl (hown3.alloc _) _ (some ⟨w3.heap.size, 0, none⟩) 1 1 [.int .i64 1001] rfl (reads_of_row (row_newc _ _ 3 (by simp)) rfl (by decide)) (by intro u hu; simp at hu; rw [hu]; rfl) (by unfold maxLen; omega) (by omega) (by simp; have := hb3.size; omega) ?_; intro v5 w5 hown5 hg5 _))
        have hb5 := (hb3.alloc hb3.size (.cells #[.int .i64 1001] 3)).grown hg5 (by simp; have := hb3.size; omega) (own_lt hown3)
        have hop5 := own_other (hop3.alloc (.cells #[.int .i64 1001] 3)) hg5 (apart_types (hown3.alloc (.cells #[.int .i64 1001] 3)) (hop3.alloc (.cells #[.int .i64 1001] 3)) (by decide))
        have HO5 := Lib.hid (own_more (acc := acc ++ [47]) HTS2.out (own_mid hown5))
        have HB5 := Lib.hid hb5
        have HP5 := Lib.hid hop5
        clear hown3 hop3 hb3 hown5 hg5 hb5 hop5
        go_wp2
        go_roundw
        case rel => exact ⟨k + 1, by omega, by go_num, HO5.out, HP5.out, HB5.out⟩
        case measure => simp [RowKit.intOf]; omega
    · obtain rfl : k = l.length := by omega
      rw [List.take_length] at hown
      have HO := Lib.hid hown
      clear hown hop
      go_wp2
      go_ret
      exact gives_sym (Nat.le_refl _) HO.out hbw
set_option maxRecDepth 20000 in
set_option maxHeartbeats 4000000 in
theorem rcommon_any (A : Option Addr) (c : Nat) (x : List Nat) (B : Option Addr) (d : Nat) (y : List Nat) (w : World) (hx : Row w A (ints x)) (hy : Row w B (ints y)) (hxl : x.length ≤ 4194304) (hyl : y.length ≤ 4194304) :
    Calls Tryz.prog 23 #[.slice A x.length c, .slice B y.length d] w fun e w' => e = .returned (.int .i64 (comN x y : Nat)) ∧ Drawn w w' := by
  have HX := Lib.hid hx
  have HY := Lib.hid hy
  clear hx hy
  go_enter Tryz.func23, Tryz.ntmps23
  go_wp2
  go_loopw [5] (fun i wr => ∃ k : Nat, k ≤ x.length ∧ k ≤ y.length ∧ i = .int .i64 (k : Int) ∧ Hid (∀ j, j < k → x[j]? = y[j]?) ∧ Hid (Drawn w wr)) (fun i _ => x.length - (RowKit.intOf i).toNat)
  case atStart => exact ⟨0, by omega, by omega, rfl, Lib.hid (fun j h => absurd h (Nat.not_lt_zero _)), Lib.hid (Drawn.refl _)⟩
  case round =>
    obtain ⟨k, hk1, hk2, rfl, HE, HD⟩ := hrel
    by_cases hlx : k < x.length
    · have hdx : decide (k < x.length) = true := decide_eq_true hlx
      by_cases hly : k < y.length
      · have hdy : decide (k < y.length) = true := decide_eq_true hly
        obtain ⟨a, ha⟩ := some_of_lt hlx
        obtain ⟨b, hb⟩ := some_of_lt hly
        obtain ⟨ba, oa, rfl, hba, ca⟩ := (HX.out.below HD.out.below).int ha
        obtain ⟨bb, ob, rfl, hbb, cb⟩ := (HY.out.below HD.out.below).int hb
        have hlxI : (k : Int) < (x.length : Int) := by omega
        have hlyI : (k : Int) < (y.length : Int) := by omega
        by_cases hab : a = b
        · subst hab
          have HE2 : Hid (∀ j, j < k + 1 → x[j]? = y[j]?) := Lib.hid (fun j hj => by
            rcases Nat.lt_or_ge j k with h | h
            · exact HE.out j h
            · obtain rfl : j = k := by omega
              rw [ha, hb])
          have hq : ((a : Int) == (a : Int)) = true := by simp
          clear ha hb HE
          go_wp2_with fail
          go_quiet (fail)
          go_wp2
          go_roundw
          case rel => exact ⟨k + 1, by omega, by omega, by go_num, HE2, Lib.hid (HD.out.drew _)⟩
          case measure => simp [RowKit.intOf]; omega
        · have hq : ((a : Int) == (b : Int)) = false := by simp; omega
          have HV := Lib.hid (show comN x y = k from comN_eq hk1 hk2 HE.out (.inr (.inr (by rw [ha, hb]; intro e; exact hab (Option.some.inj e)))))
          clear ha hb HE hab
          go_wp2_with fail
          go_quiet (fail)
          go_wp2
          go_ret
          exact ⟨ret_int (by rw [HV.out]), HD.out.drew _⟩
      · have hdy : decide (k < y.length) = false := decide_eq_false hly
        have HV := Lib.hid (show comN x y = k from comN_eq hk1 hk2 HE.out (.inr (.inl (by omega))))
        clear HE
        go_wp2_with fail
        go_quiet (fail)
        go_wp2
        go_ret
        exact ⟨ret_int (by rw [HV.out]), HD.out.drew _⟩
    · have hdx : decide (k < x.length) = false := decide_eq_false hlx
      have HV := Lib.hid (show comN x y = k from comN_eq hk1 hk2 HE.out (.inl (by omega)))
      clear HE
      go_wp2_with fail
      go_quiet (fail)
      go_wp2
      go_ret
      exact ⟨ret_int (by rw [HV.out]), HD.out.drew _⟩
end Go.Proofs.YtkhgnfofinpofaaGreat

/-
  How the reference counts nodes: the walk of Nodes.
-/
namespace Go.Proofs.YtkhgnfofinpofaaGreat
open Go.RowKit Go.Shelf Go.Lib

/-- A row of rows of numbers, to be read. -/
def TabAt (w : World) (OA : Option Addr) (rows : List (List Nat)) : Prop := ∃ vals : List Value, Row w OA vals ∧ ∀ (i : Nat) x, rows[i]? = some x → ∃ UA uc, vals[i]? = some (.slice UA x.length uc) ∧ Row w UA (ints x)
theorem TabAt.below {w w' : World} {OA : Option Addr} {rows : List (List Nat)} (h : TabAt w OA rows) (hb : Below w.heap.size w w') : TabAt w' OA rows := by
  obtain ⟨vals, h1, h2⟩ := h
  refine ⟨vals, h1.below hb, fun i x hx => ?_⟩
  obtain ⟨UA, uc, h3, h4⟩ := h2 i x hx
  exact ⟨UA, uc, h3, h4.below hb⟩
theorem TabAt.at_ {w : World} {OA : Option Addr} {rows : List (List Nat)} (h : TabAt w OA rows) {i : Nat} {x : List Nat} (hx : rows[i]? = some x) : ∃ b off UA uc, OA = some ⟨b, off, none⟩ ∧ b < w.heap.size ∧ w.cell? ⟨b, off + i, none⟩ = some (.slice UA x.length uc) ∧ Row w UA (ints x) := by
  obtain ⟨vals, h1, h2⟩ := h
  obtain ⟨UA, uc, h3, h4⟩ := h2 i x hx
  obtain ⟨b, off, e, hb, hc⟩ := h1.at_ h3
  exact ⟨b, off, UA, uc, e, hb, hc _ _ h3, h4⟩
theorem TabAt.of_tab {w : World} {base n : Nat} {OA : Option Addr} {oc : Nat} {vals : List Value} {ps : List (Value × List Nat)} {rows : List (List Nat)} (h : TabG ints 64 3 1 w base (.slice OA n oc) vals ps) (hv : ps.map (·.1) = vals) (hp : ps.map (·.2) = rows) : TabAt w OA rows := by
  refine ⟨vals, ?_, fun i x hx => ?_⟩
  · have ho := h.own
    obtain ⟨A, c, e⟩ := own_slice ho
    injection e with e1 e2 e3
    subst e1 e2 e3
    exact own_row ho
  · rw [← hp, List.getElem?_map, Option.map_eq_some_iff] at hx
    obtain ⟨⟨u, x'⟩, hx, rfl⟩ := hx
    have ho := h.at_ hx
    obtain ⟨A, c, rfl⟩ := own_slice ho
    exact ⟨A, c, by rw [← hv, List.getElem?_map, hx]; rfl, own_row ho⟩
def is0 (x : List Nat) (n : Nat) : Bool := decide (n = x.length) || (decide (1000 ≤ x.getD (n - 1) 0) || decide (1000 ≤ x.getD n 0))
def pj (rows : List (List Nat)) (x : List Nat) (i n j : Nat) : Bool := decide (comN x (rows.getD j []) = n) && (decide ((rows.getD j []).length = n) || !decide (j = i))
def isTo (rows : List (List Nat)) (x : List Nat) (i n j : Nat) : Bool := is0 x n || (List.range j).any (pj rows x i n)
theorem isTo_zero (rows : List (List Nat)) (x : List Nat) (i n : Nat) : isTo rows x i n 0 = is0 x n := by unfold isTo; simp
theorem isTo_succ (rows : List (List Nat)) (x : List Nat) (i n j : Nat) : isTo rows x i n (j + 1) = (isTo rows x i n j || pj rows x i n j) := by
  unfold isTo
  rw [List.range_succ, List.any_append, ← Bool.or_assoc]
  simp
theorem isTo_up {rows : List (List Nat)} {x : List Nat} {i n j : Nat} (h : isTo rows x i n j = true) : ∀ d, isTo rows x i n (j + d) = true
  | 0 => h
  | d + 1 => by rw [← Nat.add_assoc, isTo_succ, isTo_up h d]; rfl
theorem isN_to {rows : List (List Nat)} {i n : Nat} {x : List Nat} (hx : rows[i]? = some x) : isN rows i n = isTo rows x i n rows.length := by
  unfold isN isTo is0
  rw [hx, Bool.or_assoc, Bool.or_assoc]
  rfl
def allTo (rows : List (List Nat)) (x : List Nat) (n j : Nat) : Bool := (List.range j).all fun j => decide (comN x (rows.getD j []) < n)
theorem allTo_succ (rows : List (List Nat)) (x : List Nat) (n j : Nat) : allTo rows x n (j + 1) = (allTo rows x n j && decide (comN x (rows.getD j []) < n)) := by
  unfold allTo
  rw [List.range_succ, List.all_append]
  simp
theorem firstN_to {rows : List (List Nat)} {i n : Nat} {x : List Nat} (hx : rows[i]? = some x) : firstN rows i n = allTo rows x n i := by
  unfold firstN allTo
  rw [getD_some hx]
theorem cntN_small (rows : List (List Nat)) (i : Nat) : ∀ n, n ≤ 2 → cntN rows i n = 0
  | 0, _ => rfl
  | n + 1, h => by
    unfold cntN
    rw [cntN_small rows i n (by omega), if_neg (by unfold hitB; rw [decide_eq_false (show ¬ 2 ≤ n by omega)]; simp)]
theorem cntN_le (rows : List (List Nat)) (i : Nat) : ∀ n, cntN rows i n ≤ n
  | 0 => Nat.le_refl _
  | n + 1 => by
    have := cntN_le rows i n
    unfold cntN
    split <;> omega
theorem totN_le {rows : List (List Nat)} {M : Nat} (h : ∀ x ∈ rows, x.length ≤ M) : ∀ i, totN rows i ≤ 1 + i * (M + 1)
  | 0 => by unfold totN; omega
  | i + 1 => by
    have h1 := totN_le h i
    have h2 := cntN_le rows i ((rows.getD i []).length + 1)
    have h3 : (rows.getD i []).length ≤ M := by
      rw [List.getD_eq_getElem?_getD]
      cases e : rows[i]? with
      | none => exact Nat.zero_le _
      | some x => exact h x (List.mem_of_getElem? e)
    unfold totN
    rw [Nat.succ_mul]
    omega
theorem rows_small {es : List En} (hg : GoodE es) : ∀ x ∈ (pcsE es).map rowP, x.length ≤ 2048 := fun x hx => by
  obtain ⟨l, hl, rfl⟩ := List.mem_map.1 hx
  obtain ⟨y, hy, rfl⟩ := List.mem_map.1 hl
  have h1 := symTail_len y.2.2.1
  have h2 := (hg.wf hy).2.2.1
  have h3 := (split_wf (s := y.1) (by rw [hg.pcs y hy])).2.2.2.2.1
  unfold rowP
  omega
set_option maxRecDepth 100000 in
set_option maxHeartbeats 16000000 in
theorem rNodes_any (A : Option Addr) (c : Nat) (es : List En) (w : World) (hr : Row w A (flatKV (keptE es))) (hg : GoodE es) (hl : es.length ≤ 4194304) :
    Calls Tryz.prog 10 #[.slice A es.length c] w fun e w' => e = .returned (.int .i64 (nodesE es : Nat)) ∧ Below w.heap.size w w' := by
  obtain ⟨i0, hi0, hz0, hz1, hz2⟩ := info_parts info_intsR
  have HNR := Lib.hid (show nodesR ((pcsE es).map rowP) = nodesE es from nodes_ref (pcsE es) fun l hl => by
    obtain ⟨x, hx, rfl⟩ := List.mem_map.1 hl
    exact ⟨(hg.wf hx).2.2.2, fun p hp => ((hg.wf hx).1 p hp).1⟩)
  have HSM := Lib.hid (rows_small hg)
  have HSY := Lib.hid (fun W (x : En) (hx : x ∈ es) => symbols_any x.1 W (by rw [hg.pcs x hx]))
  have HRG := Lib.hid (fun (k : Nat) (x : En) (hx : es[k]? = some x) => (show ((pcsE es).map rowP)[k]? = some (rowP (splitP x.1).1) by
    rw [List.getElem?_map, pcsE_get hx, hg.pcs x (List.mem_of_getElem? hx)]
    rfl))
  have hrl : ((pcsE es).map rowP).length = es.length := by rw [List.length_map]; exact List.length_map _
  have HR := Lib.hid hr
  generalize (pcsE es).map rowP = rows at *
  have HRL := Lib.hid hrl
  clear hr hg hrl
  go_enter Tryz.func10, Tryz.ntmps10
  go_wp2
  go_loopw [3, 4] (fun r i wr => ∃ (k : Nat) (vals : List Value) (ps : List (Value × List Nat)), k ≤ es.length ∧ i = .int .i64 (k : Int) ∧ Hid (TabG ints 64 3 1 wr w.heap.size r vals ps) ∧ Hid (ps.map (·.1) = vals) ∧ Hid (ps.map (·.2) = rows.take k) ∧ Hid (vals.length = k) ∧ Below w.heap.size w wr) (fun _ i _ => es.length - (RowKit.intOf i).toNat)
  case atStart => exact ⟨0, [], [], by omega, rfl, Lib.hid (TabG.start w w.heap.size (Nat.le_refl _)), Lib.hid rfl, Lib.hid (by simp), Lib.hid rfl, (Below.refl _ _).alloc (Nat.le_refl _) _⟩
  case round =>
    obtain ⟨k, vals, ps, hk, rfl, HT, HV, HP, HVL, hbw⟩ := hrel
    have hvz : vals.length ≤ 4194304 := by have := HVL.out; omega
    obtain ⟨TA, tc, htv⟩ := own_slice HT.out.own
    subst htv
    by_cases hlt : k < es.length
    · obtain ⟨x, hx⟩ := some_of_lt hlt
      have hkI : (k : Int) < (es.length : Int) := by omega
      have hmem := List.mem_of_getElem? hx
      obtain ⟨b, off, rfl, hb, f0, f1⟩ := (HR.out.below hbw).kv (keptE_get hx)
      have HS := Lib.hid (HSY.out wr x hmem)
      have HROW := Lib.hid (HRG.out k x hx)
      dsimp only at f0 f1
      generalize x.1 = xp at *
      generalize rowP (splitP xp).1 = row at *
      clear hx hmem f1
      go_wp2_with fail
      refine HS.out.mono ?_
      rintro e w2 ⟨SA, sc, rfl, hos, hb2⟩
      have HT2 := Lib.hid (HT.out.pend hb2 hos hbw.size)
      have hbw2 := hbw.trans (hb2.mono hbw.size)
      clear hos hb2 f0 HS
      have hto : w2.ownsRow w.heap.size 64 1 (.slice TA vals.length tc) vals.length vals := HT2.out.own
      go_wp2_with (at_builtin; refine wpList_append_any _ rfl (.tmp 20) (.tmp 27) 63 rfl w.heap.size 64 i0 (.slice none 0 0) 1 24 Tryz.underlying63 hi0 hz0 hz1 hz2 rfl (by decide) _ _ _ rfl (hto.alloc _) _ (some ⟨w2.heap.size, 0, none⟩) 1 1 [.slice SA row.length sc] rfl (reads_of_row (row_newc _ _ 64 (by simp)) rfl (by decide)) (by intro u hu; simp at hu; rw [hu]; rfl) (by unfold maxLen; omega) (by omega) (by simp; have := hbw2.size; omega) ?_; intro v' w3 hown3 hg3 _)
      have hb3 := (hbw2.alloc hbw2.size (.cells #[.slice SA row.length sc] 64)).grown hg3 (by simp; have := hbw2.size; omega) (own_lt hto)
      have HT3 := Lib.hid ((HT2.out.alloc (.cells #[.slice SA row.length sc] 64)).grow (by decide) hg3 (v' := v') (vals' := vals ++ [.slice SA row.length sc]) (by rw [List.length_append]; exact hown3))
      have HV3 := Lib.hid (show (ps ++ [(Value.slice SA row.length sc, row)]).map (·.1) = vals ++ [.slice SA row.length sc] by rw [List.map_append, HV.out]; rfl)
      have HP3 := Lib.hid (show (ps ++ [(Value.slice SA row.length sc, row)]).map (·.2) = rows.take (k + 1) by rw [List.map_append, HP.out, take_snoc HROW.out]; rfl)
      have HB3 := Lib.hid hb3
      clear hto hown3 hg3 hb3
      go_wp2
      go_roundw
      case rel => exact ⟨k + 1, _, _, by omega, by go_num, HT3, HV3, HP3, Lib.hid (by rw [List.length_append, HVL.out]; rfl), HB3.out⟩
      case measure => simp [RowKit.intOf]; omega
    · obtain rfl : k = es.length := by omega
      have hPs := HP.out
      rw [List.take_of_length_le (by rw [HRL.out]; exact Nat.le_refl _)] at hPs
      have HTA := Lib.hid (TabAt.of_tab HT.out HV.out hPs)
      have hvl := HVL.out
      have hrle := HRL.out
      have hrz : rows.length ≤ 4194304 := by omega
      have hvr : vals.length = rows.length := by omega
      clear HT HV HP hPs HSY HRG HR hk hlt hvl hrle hvz HVL HRL
      obtain ⟨w1, rfl⟩ : ∃ w1 : World, w1 = wr := ⟨_, rfl⟩
      generalize vals.length = vn at *
      subst hvr
      have HTN := Lib.hid (fun i => @totN_le rows 2048 HSM.out i)
      have HCN := Lib.hid (cntN_le rows)
      go_wp2
      go_loopw [5, 6] (fun nv i wr => ∃ k : Nat, k ≤ rows.length ∧ i = .int .i64 (k : Int) ∧ nv = .int .i64 (totN rows k : Nat) ∧ Hid (Drawn w1 wr)) (fun _ i _ => rows.length - (RowKit.intOf i).toNat)
      case atStart => exact ⟨0, by omega, rfl, rfl, Lib.hid (Drawn.refl _)⟩
      case round =>
        obtain ⟨i, hi, rfl, rfl, HD⟩ := hrel
        have htn := HTN.out i
        by_cases hil : i < rows.length
        · obtain ⟨x, hx⟩ := some_of_lt hil
          have hiI : (i : Int) < (rows.length : Int) := by omega
          have hxz := HSM.out x (List.mem_of_getElem? hx)
          have HX := Lib.hid hx
          have HTT := Lib.hid (show totN rows (i + 1) = totN rows i + cntN rows i (x.length + 1) by
            show totN rows i + cntN rows i ((rows.getD i []).length + 1) = _
            rw [getD_some hx])
          have hcs := cntN_small rows i 2 (Nat.le_refl _)
          clear hx
          generalize totN rows i = ti at *
          obtain ⟨wo, rfl⟩ : ∃ wo : World, wo = wr := ⟨_, rfl⟩
          go_wp2
          go_loopw [5, 7] (fun nv m wr => ∃ n : Nat, 2 ≤ n ∧ n ≤ x.length + 2 ∧ (2 < n → n ≤ x.length + 1) ∧ m = .int .i64 (n : Int) ∧ nv = .int .i64 ((ti + cntN rows i n : Nat) : Int) ∧ Hid (Drawn w1 wr)) (fun _ m _ => x.length + 2 - (RowKit.intOf m).toNat)
          case atStart => exact ⟨2, by omega, by omega, fun h => absurd h (by omega), rfl, by rw [hcs]; rfl, HD⟩
          case round =>
            clear hcs HD
            obtain ⟨n, hn2, hnl, hnx, rfl, rfl, HD⟩ := hrel
            have hcn := HCN.out i n
            obtain ⟨b, off, UA, uc, rfl, hb, hcW, hxrW⟩ := HTA.out.at_ HX.out
            have HBW := Lib.hid hb
            have HCW := Lib.hid hcW
            have HXW := Lib.hid hxrW
            have hc := (HD.out.below.cell (p := ⟨b, off + i, none⟩) hb).trans hcW
            have HXR := Lib.hid (hxrW.below HD.out.below)
            clear hcW hxrW hb
            by_cases hle : n ≤ x.length
            · have hleI : (n : Int) ≤ (x.length : Int) := by omega
              obtain ⟨a, ha⟩ := some_of_lt (show n - 1 < x.length by omega)
              obtain ⟨ub, uo, hUA, hub, ca⟩ := HXR.out.int ha
              have hga : x.getD (n - 1) 0 = a := getD_some ha
              have hw1 : IntKind.i64.wrap ((n : Int) - 1) = (n : Int) - 1 := by rw [IntKind.wrap_i64]; omega
              have hw2 : (0 : Int) ≤ (n : Int) - 1 := by omega
              have hw3 : ((n : Int) - 1).toNat = n - 1 := by omega
              have hw4 : (n : Int) - 1 < (x.length : Int) := by omega
              obtain ⟨x3, rfl⟩ : ∃ x3 : World, x3 = wr := ⟨_, rfl⟩
              subst hUA
              obtain ⟨tn, htk⟩ : ∃ tn, ti + cntN rows i n = tn := ⟨_, rfl⟩
              rw [htk]
              have htb : tn ≤ 1 + i * (2048 + 1) + n := by omega
              have HTK := Lib.hid htk
              clear htk
              go_upto_region 13 with (fail)
              go_cut [8] (fun v wx => v = .bool (is0 x n) ∧ x3 = wx)
              case first =>
                by_cases hnl2 : n = x.length
                · have hq : ((n : Int) == (x.length : Int)) = true := by simp; omega
                  have HI0 := Lib.hid (show is0 x n = true by unfold is0; rw [decide_eq_true hnl2]; rfl)
                  clear hnl2
                  go_wp2_with (fail)
                  go_meet
                  exact ⟨by rw [HI0.out], rfl⟩
                · have hq : ((n : Int) == (x.length : Int)) = false := by simp; omega
                  obtain ⟨bv, hbv⟩ := some_of_lt (show n < x.length by omega)
                  obtain ⟨ub2, uo2, hUA2, hub2, cb⟩ := HXR.out.int hbv
                  cases hUA2
                  have hgb : x.getD n 0 = bv := getD_some hbv
                  have hnI : (n : Int) < (x.length : Int) := by omega
                  by_cases ha1 : 1000 ≤ a
                  · have haI : (1000 : Int) ≤ (a : Int) := by omega
                    have HI0 := Lib.hid (show is0 x n = true by unfold is0; rw [hga, decide_eq_true ha1]; simp)
                    clear hnl2 ha hbv hga hgb ha1
                    go_wp2_with (fail)
                    go_meet
                    exact ⟨by rw [HI0.out], rfl⟩
                  · have haI : ¬ (1000 : Int) ≤ (a : Int) := by omega
                    by_cases hb1 : 1000 ≤ bv
                    · have hbI : (1000 : Int) ≤ (bv : Int) := by omega
                      have HI0 := Lib.hid (show is0 x n = true by unfold is0; rw [hgb, decide_eq_true hb1]; simp)
                      clear hnl2 ha hbv hga hgb ha1 hb1
                      go_wp2_with (fail)
                      go_meet
                      exact ⟨by rw [HI0.out], rfl⟩
                    · have hbI : ¬ (1000 : Int) ≤ (bv : Int) := by omega
                      have HI0 := Lib.hid (show is0 x n = false by unfold is0; rw [hga, hgb, decide_eq_false hnl2, decide_eq_false ha1, decide_eq_false hb1]; rfl)
                      clear hnl2 ha hbv hga hgb ha1 hb1
                      go_wp2_with (fail)
                      go_meet
                      exact ⟨by rw [HI0.out], rfl⟩
              obtain ⟨rfl, rfl⟩ := hcut
              clear hw1 hw2 hw3 hw4 ca ha hga
              go_wp2
              go_loopw [8, 9] (fun iv jv wr => ∃ j : Nat, j ≤ rows.length ∧ jv = .int .i64 (j : Int) ∧ iv = .bool (isTo rows x i n j) ∧ Hid (Drawn w1 wr)) (fun _ jv _ => rows.length - (RowKit.intOf jv).toNat)
              case atStart => exact ⟨0, by omega, rfl, by rw [isTo_zero], HD⟩
              case round =>
                clear HD hc
                obtain ⟨j, hj, rfl, rfl, HD4⟩ := hrel
                by_cases hgo : j < rows.length ∧ isTo rows x i n j = false
                · obtain ⟨hjl, hfalse⟩ := hgo
                  have hjI : (j : Int) < (rows.length : Int) := by omega
                  obtain ⟨y, hy⟩ := some_of_lt hjl
                  obtain ⟨b5, off5, YA, yc, he5, hb5, hc5, hyr⟩ := (HTA.out.below HD4.out.below).at_ hy
                  cases he5
                  have hcx := (HD4.out.below.cell (p := ⟨b, off + i, none⟩) HBW.out).trans HCW.out
                  have HAS := Lib.hid (show isTo rows x i n (j + 1) = (decide (comN x y = n) && (decide (y.length = n) || !decide (j = i))) by
                    rw [isTo_succ, hfalse]
                    unfold pj
                    rw [getD_some hy]
                    rfl)
                  have hyz := HSM.out y (List.mem_of_getElem? hy)
                  have HCM := Lib.hid (fun (W : World) (h : Drawn wr W) => rcommon_any (some ⟨ub, uo, none⟩) uc x YA yc y W ((HXW.out.below HD4.out.below).below h.below) (hyr.below h.below) (by omega) (by omega))
                  have HDR := Lib.hid (fun (W : World) (h : Drawn wr W) => (h.below.cell (p := ⟨b, off + j, none⟩) hb5).trans hc5)
                  clear hyr hy
                  rw [hfalse]
                  clear hfalse
                  generalize comN x y = cm at *
                  generalize y.length = yl at *
                  have fin : ∀ v : Bool, (decide (cm = n) && (decide (yl = n) || !decide (j = i))) = v → isTo rows x i n (j + 1) = v := fun v h => HAS.out.trans h
                  have FIN := Lib.hid fin
                  clear fin
                  by_cases c1 : cm = n
                  · have q1 : ((cm : Int) == (n : Int)) = true := by simp; omega
                    by_cases c2 : yl = n
                    · have q2 : ((yl : Int) == (n : Int)) = true := by simp; omega
                      have HA2 := Lib.hid (FIN.out true (by rw [decide_eq_true c1, decide_eq_true c2]; rfl))
                      clear c1 c2
                      go_wp2_with fail
                      go_quiet (first | (go_at_call 23; exact Calls.quiet_of ((HCM.out _ (by first | exact Drawn.refl _ | exact (Drawn.refl _).drew _)).mono fun e' w' h => ⟨h.1, h.2⟩)))
                      have d5 := HDR.out (wr.drewN nq) ⟨nq, rfl⟩
                      go_wp2
                      go_roundw
                      case rel => exact ⟨j + 1, by omega, by go_num, by rw [HA2.out], Lib.hid (HD4.out.drew _)⟩
                      case measure => simp [RowKit.intOf]; omega
                    · have q2 : ((yl : Int) == (n : Int)) = false := by simp; omega
                      by_cases c3 : j = i
                      · have q3 : ((j : Int) != (i : Int)) = false := by simp; omega
                        have HA2 := Lib.hid (FIN.out false (by rw [decide_eq_true c1, decide_eq_false c2, decide_eq_true c3]; rfl))
                        clear c1 c2 c3
                        go_wp2_with fail
                        go_quiet (first | (go_at_call 23; exact Calls.quiet_of ((HCM.out _ (by first | exact Drawn.refl _ | exact (Drawn.refl _).drew _)).mono fun e' w' h => ⟨h.1, h.2⟩)))
                        have d5 := HDR.out (wr.drewN nq) ⟨nq, rfl⟩
                        go_wp2
                        go_roundw
                        case rel => exact ⟨j + 1, by omega, by go_num, by rw [HA2.out], Lib.hid (HD4.out.drew _)⟩
                        case measure => simp [RowKit.intOf]; omega
                      · have q3 : ((j : Int) != (i : Int)) = true := by simp; omega
                        have HA2 := Lib.hid (FIN.out true (by rw [decide_eq_true c1, decide_eq_false c2, decide_eq_false c3]; rfl))
                        clear c1 c2 c3
                        go_wp2_with fail
                        go_quiet (first | (go_at_call 23; exact Calls.quiet_of ((HCM.out _ (by first | exact Drawn.refl _ | exact (Drawn.refl _).drew _)).mono fun e' w' h => ⟨h.1, h.2⟩)))
                        have d5 := HDR.out (wr.drewN nq) ⟨nq, rfl⟩
                        go_wp2
                        go_roundw
                        case rel => exact ⟨j + 1, by omega, by go_num, by rw [HA2.out], Lib.hid (HD4.out.drew _)⟩
                        case measure => simp [RowKit.intOf]; omega
                  · have q1 : ((cm : Int) == (n : Int)) = false := by simp; omega
                    have HA2 := Lib.hid (FIN.out false (by rw [decide_eq_false c1]; rfl))
                    clear c1
                    go_wp2_with fail
                    go_quiet (first | (go_at_call 23; exact Calls.quiet_of ((HCM.out _ (by first | exact Drawn.refl _ | exact (Drawn.refl _).drew _)).mono fun e' w' h => ⟨h.1, h.2⟩)))
                    go_wp2
                    go_roundw
                    case rel => exact ⟨j + 1, by omega, by go_num, by rw [HA2.out], Lib.hid (HD4.out.drew _)⟩
                    case measure => simp [RowKit.intOf]; omega
                · have hfin : isTo rows x i n j = isN rows i n := by
                    rw [isN_to HX.out]
                    by_cases hjl : j < rows.length
                    · have ht : isTo rows x i n j = true := by
                        cases h : isTo rows x i n j
                        · exact absurd ⟨hjl, h⟩ hgo
                        · rfl
                      have := isTo_up ht (rows.length - j)
                      rw [show j + (rows.length - j) = rows.length by omega] at this
                      rw [ht, this]
                    · have : j = rows.length := by omega
                      rw [this]
                  have hend : (j < rows.length ∧ isN rows i n = true) ∨ ¬ j < rows.length := by
                    by_cases hjl : j < rows.length
                    · refine .inl ⟨hjl, ?_⟩
                      rw [← hfin]
                      cases h : isTo rows x i n j
                      · exact absurd ⟨hjl, h⟩ hgo
                      · rfl
                    · exact .inr hjl
                  rw [hfin]
                  clear hfin hgo
                  rcases hend with ⟨hjl, hv⟩ | hjl
                  · have hjI : (j : Int) < (rows.length : Int) := by omega
                    rw [hv]
                    have HVV := Lib.hid hv
                    clear hv
                    obtain ⟨x4, rfl⟩ : ∃ x4 : World, x4 = wr := ⟨_, rfl⟩
                    skip
                    go_wp2
                    go_loopw [11, 12] (fun fv jv wr => ∃ j : Nat, j ≤ i ∧ jv = .int .i64 (j : Int) ∧ fv = .bool (allTo rows x n j) ∧ Hid (Drawn w1 wr)) (fun _ jv _ => i - (RowKit.intOf jv).toNat)
                    case atStart => exact ⟨0, by omega, rfl, rfl, HD4⟩
                    case round =>
                      clear HD4
                      obtain ⟨j, hj, rfl, rfl, HD5⟩ := hrel
                      by_cases hji : j < i
                      · have hjI : (j : Int) < (i : Int) := by omega
                        have hjr : (j : Int) < (rows.length : Int) := by omega
                        obtain ⟨y, hy⟩ := some_of_lt (show j < rows.length by omega)
                        obtain ⟨b5, off5, YA, yc, he5, hb5, hc5, hyr⟩ := (HTA.out.below HD5.out.below).at_ hy
                        cases he5
                        have hcx := (HD5.out.below.cell (p := ⟨b, off + i, none⟩) HBW.out).trans HCW.out
                        have HAS := Lib.hid (show allTo rows x n (j + 1) = (allTo rows x n j && decide (comN x y < n)) by rw [allTo_succ, getD_some hy])
                        have hyz := HSM.out y (List.mem_of_getElem? hy)
                        have HCM := Lib.hid (fun (W : World) (h : Drawn wr W) => rcommon_any (some ⟨ub, uo, none⟩) uc x YA yc y W ((HXW.out.below HD5.out.below).below h.below) (hyr.below h.below) (by omega) (by omega))
                        clear hyr hy
                        generalize comN x y = cm at *
                        cases hal : allTo rows x n j
                        · have HA2 := Lib.hid (show allTo rows x n (j + 1) = false by rw [HAS.out, hal]; rfl)
                          clear HAS hal
                          go_wp2_with fail
                          go_quiet (fail)
                          go_wp2
                          go_roundw
                          case rel => exact ⟨j + 1, by omega, by go_num, by first | (rw [HA2.out]; done) | (rw [HA2.out]; congr 1; exact decide_eq_false (by omega)) | (rw [HA2.out]; congr 1; exact decide_eq_true (by omega)), Lib.hid (HD5.out.drew _)⟩
                          case measure => simp [RowKit.intOf]; omega
                        · by_cases hcn2 : cm < n
                          · have hci : (cm : Int) < (n : Int) := by omega
                            have HA2 := Lib.hid (show allTo rows x n (j + 1) = true by rw [HAS.out, hal, decide_eq_true hcn2]; rfl)
                            clear HAS hal hcn2
                            go_wp2_with fail
                            go_quiet (first | (go_at_call 23; exact Calls.quiet_of ((HCM.out _ (by first | exact Drawn.refl _ | exact (Drawn.refl _).drew _)).mono fun e' w' h => ⟨h.1, h.2⟩)))
                            go_wp2
                            go_roundw
                            case rel => exact ⟨j + 1, by omega, by go_num, by first | (rw [HA2.out]; done) | (rw [HA2.out]; congr 1; exact decide_eq_false (by omega)) | (rw [HA2.out]; congr 1; exact decide_eq_true (by omega)), Lib.hid (HD5.out.drew _)⟩
                            case measure => simp [RowKit.intOf]; omega
                          · have hci : ¬ (cm : Int) < (n : Int) := by omega
                            have HA2 := Lib.hid (show allTo rows x n (j + 1) = false by rw [HAS.out, hal, decide_eq_false hcn2]; rfl)
                            clear HAS hal hcn2
                            go_wp2_with fail
                            go_quiet (first | (go_at_call 23; exact Calls.quiet_of ((HCM.out _ (by first | exact Drawn.refl _ | exact (Drawn.refl _).drew _)).mono fun e' w' h => ⟨h.1, h.2⟩)))
                            go_wp2
                            go_roundw
                            case rel => exact ⟨j + 1, by omega, by go_num, by first | (rw [HA2.out]; done) | (rw [HA2.out]; congr 1; exact decide_eq_false (by omega)) | (rw [HA2.out]; congr 1; exact decide_eq_true (by omega)), Lib.hid (HD5.out.drew _)⟩
                            case measure => simp [RowKit.intOf]; omega
                      · obtain rfl : j = i := by omega
                        have hfj := firstN_to (n := n) HX.out
                        cases hal : allTo rows x n j
                        · have HC2 := Lib.hid (show cntN rows j (n + 1) = cntN rows j n by
                            show cntN rows j n + _ = _
                            rw [if_neg (by unfold hitB; rw [hfj, hal]; simp)]
                            rfl)
                          clear hfj hal
                          go_wp2
                          go_roundw
                          case rel => exact ⟨n + 1, by omega, by omega, fun _ => by omega, by go_num, by rw [HC2.out, HTK.out], HD5⟩
                          case measure => simp [RowKit.intOf]; omega
                        · have HC2 := Lib.hid (show cntN rows j (n + 1) = cntN rows j n + 1 by
                            show cntN rows j n + _ = _
                            rw [if_pos (by unfold hitB; rw [hfj, hal, HVV.out, decide_eq_true hn2]; rfl)])
                          clear hfj hal
                          go_wp2
                          go_roundw
                          case rel => exact ⟨n + 1, by omega, by omega, fun _ => by omega, by go_num, by rw [HC2.out, ← Nat.add_assoc, HTK.out]; go_num, HD5⟩
                          case measure => simp [RowKit.intOf]; omega
                  · have hjI : ¬ (j : Int) < (rows.length : Int) := by omega
                    obtain ⟨x4, rfl⟩ : ∃ x4 : World, x4 = wr := ⟨_, rfl⟩
                    cases hv : isN rows i n
                    · skip
                      have HC2 := Lib.hid (show cntN rows i (n + 1) = cntN rows i n by
                        show cntN rows i n + _ = _
                        rw [if_neg (by unfold hitB; rw [hv]; simp)]
                        rfl)
                      clear hv
                      go_wp2
                      go_roundw
                      case rel => exact ⟨n + 1, by omega, by omega, fun _ => by omega, by go_num, by rw [HC2.out, HTK.out], HD4⟩
                      case measure => simp [RowKit.intOf]; omega
                    · have HVV := Lib.hid hv
                      clear hv
                      go_wp2
                      go_loopw [11, 12] (fun fv jv wr => ∃ j : Nat, j ≤ i ∧ jv = .int .i64 (j : Int) ∧ fv = .bool (allTo rows x n j) ∧ Hid (Drawn w1 wr)) (fun _ jv _ => i - (RowKit.intOf jv).toNat)
                      case atStart => exact ⟨0, by omega, rfl, rfl, HD4⟩
                      case round =>
                        clear HD4
                        obtain ⟨j, hj, rfl, rfl, HD5⟩ := hrel
                        by_cases hji : j < i
                        · have hjI : (j : Int) < (i : Int) := by omega
                          have hjr : (j : Int) < (rows.length : Int) := by omega
                          obtain ⟨y, hy⟩ := some_of_lt (show j < rows.length by omega)
                          obtain ⟨b5, off5, YA, yc, he5, hb5, hc5, hyr⟩ := (HTA.out.below HD5.out.below).at_ hy
                          cases he5
                          have hcx := (HD5.out.below.cell (p := ⟨b, off + i, none⟩) HBW.out).trans HCW.out
                          have HAS := Lib.hid (show allTo rows x n (j + 1) = (allTo rows x n j && decide (comN x y < n)) by rw [allTo_succ, getD_some hy])
                          have hyz := HSM.out y (List.mem_of_getElem? hy)
                          have HCM := Lib.hid (fun (W : World) (h : Drawn wr W) => rcommon_any (some ⟨ub, uo, none⟩) uc x YA yc y W ((HXW.out.below HD5.out.below).below h.below) (hyr.below h.below) (by omega) (by omega))
                          clear hyr hy
                          generalize comN x y = cm at *
                          cases hal : allTo rows x n j
                          · have HA2 := Lib.hid (show allTo rows x n (j + 1) = false by rw [HAS.out, hal]; rfl)
                            clear HAS hal
                            go_wp2_with fail
                            go_quiet (fail)
                            go_wp2
                            go_roundw
                            case rel => exact ⟨j + 1, by omega, by go_num, by first | (rw [HA2.out]; done) | (rw [HA2.out]; congr 1; exact decide_eq_false (by omega)) | (rw [HA2.out]; congr 1; exact decide_eq_true (by omega)), Lib.hid (HD5.out.drew _)⟩
                            case measure => simp [RowKit.intOf]; omega
                          · by_cases hcn2 : cm < n
                            · have hci : (cm : Int) < (n : Int) := by omega
                              have HA2 := Lib.hid (show allTo rows x n (j + 1) = true by rw [HAS.out, hal, decide_eq_true hcn2]; rfl)
                              clear HAS hal hcn2
                              go_wp2_with fail
                              go_quiet (first | (go_at_call 23; exact Calls.quiet_of ((HCM.out _ (by first | exact Drawn.refl _ | exact (Drawn.refl _).drew _)).mono fun e' w' h => ⟨h.1, h.2⟩)))
                              go_wp2
                              go_roundw
                              case rel => exact ⟨j + 1, by omega, by go_num, by first | (rw [HA2.out]; done) | (rw [HA2.out]; congr 1; exact decide_eq_false (by omega)) | (rw [HA2.out]; congr 1; exact decide_eq_true (by omega)), Lib.hid (HD5.out.drew _)⟩
                              case measure => simp [RowKit.intOf]; omega
                            · have hci : ¬ (cm : Int) < (n : Int) := by omega
                              have HA2 := Lib.hid (show allTo rows x n (j + 1) = false by rw [HAS.out, hal, decide_eq_false hcn2]; rfl)
                              clear HAS hal hcn2
                              go_wp2_with fail
                              go_quiet (first | (go_at_call 23; exact Calls.quiet_of ((HCM.out _ (by first | exact Drawn.refl _ | exact (Drawn.refl _).drew _)).mono fun e' w' h => ⟨h.1, h.2⟩)))
                              go_wp2
                              go_roundw
                              case rel => exact ⟨j + 1, by omega, by go_num, by first | (rw [HA2.out]; done) | (rw [HA2.out]; congr 1; exact decide_eq_false (by omega)) | (rw [HA2.out]; congr 1; exact decide_eq_true (by omega)), Lib.hid (HD5.out.drew _)⟩
                              case measure => simp [RowKit.intOf]; omega
                        · obtain rfl : j = i := by omega
                          have hfj := firstN_to (n := n) HX.out
                          cases hal : allTo rows x n j
                          · have HC2 := Lib.hid (show cntN rows j (n + 1) = cntN rows j n by
                              show cntN rows j n + _ = _
                              rw [if_neg (by unfold hitB; rw [hfj, hal]; simp)]
                              rfl)
                            clear hfj hal
                            go_wp2
                            go_roundw
                            case rel => exact ⟨n + 1, by omega, by omega, fun _ => by omega, by go_num, by rw [HC2.out, HTK.out], HD5⟩
                            case measure => simp [RowKit.intOf]; omega
                          · have HC2 := Lib.hid (show cntN rows j (n + 1) = cntN rows j n + 1 by
                              show cntN rows j n + _ = _
                              rw [if_pos (by unfold hitB; rw [hfj, hal, HVV.out, decide_eq_true hn2]; rfl)])
                            clear hfj hal
                            go_wp2
                            go_roundw
                            case rel => exact ⟨n + 1, by omega, by omega, fun _ => by omega, by go_num, by rw [HC2.out, ← Nat.add_assoc, HTK.out]; go_num, HD5⟩
                            case measure => simp [RowKit.intOf]; omega
            · have hleI : ¬ (n : Int) ≤ (x.length : Int) := by omega
              have HTF := Lib.hid (show totN rows (i + 1) = ti + cntN rows i n by
                rw [HTT.out]
                congr 1
                by_cases h2 : 2 < n
                · have := hnx h2
                  rw [show n = x.length + 1 by omega]
                · rw [cntN_small rows i n (by omega), cntN_small rows i (x.length + 1) (by omega)])
              go_wp2
              go_roundw
              case rel => exact ⟨i + 1, by omega, by go_num, by rw [HTF.out], HD⟩
              case measure => simp [RowKit.intOf]; omega
        · obtain rfl : i = rows.length := by omega
          have HF := Lib.hid (show totN rows rows.length = nodesE es from HNR.out)
          have hbF := hbw.trans (HD.out.below.mono hbw.size)
          go_wp2
          go_ret
          exact ⟨ret_int (by rw [HF.out]), hbF⟩
end Go.Proofs.YtkhgnfofinpofaaGreat
