/-
 RtL, without what this claim does not reach.
-/
import Derived.Test.YtiohmnhbmmhnhaaGreatDoorZRtE
namespace Go.Proofs.YtiohmnhbmmhnhaaGreatDoor
open Go.RowKit Go.Shelf Go.Lib
structure OwnA (base : Nat) (w : World) (v : Value) (ls : List Ra) : Prop where
 row : w.ownsRow base 38 9 v ls.length (flatA ls)
 met : ∀ x ∈ ls, w.ownsRow base 9 1 (mv x) x.1.2.1.length (x.1.2.1.map .string)
section
variable {base : Nat} {w w2 w3 : World} {v v' : Value} {ls : List Ra}
theorem OwnA.below (h : OwnA base w v ls) (hb : Below w.heap.size w w2) : OwnA base w2 v ls := ⟨own_below h.row hb, fun x hx => own_below (h.met x hx) hb⟩
theorem OwnA.mono (h : OwnA base w v ls) {b : Nat} (hb : b ≤ base) : OwnA b w v ls := ⟨h.row.mono hb, fun x hx => (h.met x hx).mono hb⟩
theorem OwnA.push (h : OwnA base w v ls) {x : Ra} (hx : w.ownsRow base 9 1 (mv x) x.1.2.1.length (x.1.2.1.map .string)) (hg : w.grownBy w2 v.ownBlock) (hr : w2.ownsRow base 38 9 v' (ls ++ [x]).length (flatA (ls ++ [x]))) : OwnA base w2 v' (ls ++ [x]) :=
 ⟨hr, fun y hy => by
  rcases List.mem_append.1 hy with hy | hy
  ·exact own_other (h.met y hy) hg (apart_types h.row (h.met y hy) (by decide))
  ·obtain rfl := List.mem_singleton.1 hy
   exact own_other hx hg (apart_types h.row hx (by decide))⟩
theorem OwnA.ok (h : OwnA base w v ls) : AOk w ls := fun x hx => ⟨own_row (h.met x hx), own_cap (h.met x hx)⟩
end
def GivesRa (w : World) (l : List Rt) (e : Ending) (w' : World) : Prop :=
 ∃ A c ls, e = .returned (.slice A ls.length c) ∧ OwnA w.heap.size w' (.slice A ls.length c) ls ∧ plA ls = l ∧ Below w.heap.size w w'
theorem own_noS (w : World) : (w.alloc (.cells #[] 9)).ownsRow w.heap.size 9 1 (.slice (some ⟨w.heap.size, 0, none⟩) 0 0) 0 [] := World.ownsRow_lit w #[] 0 (Nat.le_refl _) (by unfold maxLen; omega) rfl
set_option maxRecDepth 100000 in
set_option maxHeartbeats 4000000 in
theorem routes_any (A : Option Addr) (c : Nat) (la : List Ra) (w : World) (hr : Row w A (flatA la)) (hm : AOk w la) (hk : bulkRt (plA la) ≤ 1048576) :
  Calls Tryz.prog 12 #[.slice A la.length c] w (GivesRa w (plA la)) := by
 obtain ⟨i0, hi0, hz0, hz1, hz2⟩ := info_parts info_string
 obtain ⟨r0, hr0, hv0, hv1, hv2⟩ := info_parts info_route
 have hlen4 := bulkRt_len (plA la)
 rw [plA_length] at hlen4
 have HR := Lib.hid (fun (W : World) (h : Below w.heap.size w W) => hr.below h)
 have HM := Lib.hid (fun (W : World) (h : Below w.heap.size w W) => hm.below h)
 have HK := Lib.hid hk
 have hlen5 : la.length ≤ 262144 := by omega
 clear hr hm hk
 go_enter Tryz.func12, Tryz.ntmps12
 go_wp2
 go_loopw [3, 8] (fun v i wr => ∃ (k : Nat) (ls : List Ra), k ≤ la.length ∧ i = .int .i64 k ∧ Hid (OwnA w.heap.size wr v ls) ∧ Hid (plA ls = (plA la).take k) ∧ Hid (ls.length = k) ∧ Hid (Below w.heap.size w wr)) (fun _ i _ => la.length - (RowKit.intOf i).toNat)
 case atStart => exact ⟨0, [], by omega, rfl, Lib.hid ⟨World.ownsRow_nil _ _ _ _, fun x hx => by cases hx⟩, Lib.hid rfl, Lib.hid rfl, Lib.hid (Below.refl _ _)⟩
 case round =>
  obtain ⟨k, ls, hkl, rfl, HO, HP, HL, HB⟩ := hrel
  by_cases hlt : k < la.length
  ·obtain ⟨x, hx⟩ := some_of_lt hlt
   have HPX := Lib.hid (plA_get hx)
   have HSX := Lib.hid (slim_mem HK.out (List.mem_of_getElem? HPX.out))
   have HMX := Lib.hid (HM.out wr HB.out x (List.mem_of_getElem? hx)).1
   obtain ⟨b, off, rfl, hbl, f0, f1, f2, f3, f4, f5, f6, f7, f8⟩ := (HR.out wr HB.out).ra hx
   have hki : (k : Int) < (la.length : Int) := by omega
   clear hx
   obtain ⟨⟨⟨MA, mc⟩, ml, p⟩, XT⟩ := x
   dsimp only at f0 f1 f2 f3 f4 f5 f6 f7 f8 HPX HSX HMX
   have hnum := HSX.out.num
   dsimp only at hnum
   obtain ⟨LA, lc, rfl⟩ := own_slice HO.out.row
   have hb1 : Below wr.heap.size wr (wr.alloc (.cells #[.slice MA ml.length mc, .string p, .slice XT.A XT.n XT.c, .int .i64 XT.k, .string XT.x, .string XT.y, .string XT.z, .int .i64 XT.s, .int .i64 XT.m] 38)) := (Below.refl _ _).alloc (Nat.le_refl _) _
   have hb2 : Below wr.heap.size wr ((wr.alloc (.cells #[.slice MA ml.length mc, .string p, .slice XT.A XT.n XT.c, .int .i64 XT.k, .string XT.x, .string XT.y, .string XT.z, .int .i64 XT.s, .int .i64 XT.m] 38)).alloc (.cells #[] 9)) := hb1.alloc (by simp) _
   have hN2 : Blk ((wr.alloc (.cells #[.slice MA ml.length mc, .string p, .slice XT.A XT.n XT.c, .int .i64 XT.k, .string XT.x, .string XT.y, .string XT.z, .int .i64 XT.s, .int .i64 XT.m] 38)).alloc (.cells #[] 9)) wr.heap.size 38 #[.slice MA ml.length mc, .string p, .slice XT.A XT.n XT.c, .int .i64 XT.k, .string XT.x, .string XT.y, .string XT.z, .int .i64 XT.s, .int .i64 XT.m] := (Blk.new wr _ _).alloc _
   have hown0 : ((wr.alloc (.cells #[.slice MA ml.length mc, .string p, .slice XT.A XT.n XT.c, .int .i64 XT.k, .string XT.x, .string XT.y, .string XT.z, .int .i64 XT.s, .int .i64 XT.m] 38)).alloc (.cells #[] 9)).ownsRow (wr.heap.size + 1) 9 1 (.slice (some ⟨wr.heap.size + 1, 0, none⟩) 0 0) 0 [] := by
    have := own_noS (wr.alloc (.cells #[.slice MA ml.length mc, .string p, .slice XT.A XT.n XT.c, .int .i64 XT.k, .string XT.x, .string XT.y, .string XT.z, .int .i64 XT.s, .int .i64 XT.m] 38))
    simpa using this
   have hr2 := HMX.out.below hb2
   have HB2 := Lib.hid hb2
   have HN2 := Lib.hid hN2
   have HR2 := Lib.hid hr2
   have HW0 := Lib.hid hown0
   have hrl : ls.length ≤ 1048576 := by have := HL.out; have := HK.out; omega
   clear hb1 hb2 hN2 hr2 hown0
   go_wp2_with (first
    | (at_builtin; refine wpList_append_any _ rfl (.tmp 12) (.tmp 14) 33 rfl (wr.heap.size + 1) 9 i0 (.string ⟨#[]⟩) 1 16 Tryz.underlying33 hi0 hz0 hz1 hz2 rfl (by decide) (.slice (some ⟨wr.heap.size + 1, 0, none⟩) 0 0) 0 [] rfl HW0.out _ MA ml.length mc (ml.map .string) rfl (reads_of_row HR2.out (by simp) (by decide)) (by intro u hu; obtain ⟨y, _, rfl⟩ := List.mem_map.1 hu; rfl) (by unfold maxLen; omega) (by omega) (by simp) ?_; intro v3 w3 hown3 hg3 halt3; rw [Nat.zero_add] at hown3; obtain ⟨CA, cc, rfl⟩ := own_slice hown3; (have HB3 := Lib.hid (HB2.out.grown hg3 (by simp; omega) (fun k hk => by simp [Value.ownBlock] at hk; omega))); (have HN3 := Lib.hid (HN2.out.grown hg3 (by simp [Value.ownBlock]))); (have HO3 := Lib.hid (show w3.ownsRow (wr.heap.size + 1) 9 1 (.slice CA ml.length cc) ml.length (ml.map .string) from hown3)); clear hown3 hg3 halt3; (have hnb3 : wr.heap.size < w3.heap.size := HN3.out.lt); (have c0 : w3.cell? ⟨wr.heap.size, 0, none⟩ = some (.slice MA ml.length mc) := HN3.out.cell 0); (have c1 : w3.cell? ⟨wr.heap.size, 1, none⟩ = some (.string p) := HN3.out.cell 1); (have c2 : w3.cell? ⟨wr.heap.size, 2, none⟩ = some (.slice XT.A XT.n XT.c) := HN3.out.cell 2); (have c3 : w3.cell? ⟨wr.heap.size, 3, none⟩ = some (.int .i64 XT.k) := HN3.out.cell 3); (have c4 : w3.cell? ⟨wr.heap.size, 4, none⟩ = some (.string XT.x) := HN3.out.cell 4); (have c5 : w3.cell? ⟨wr.heap.size, 5, none⟩ = some (.string XT.y) := HN3.out.cell 5); (have c6 : w3.cell? ⟨wr.heap.size, 6, none⟩ = some (.string XT.z) := HN3.out.cell 6); (have c7 : w3.cell? ⟨wr.heap.size, 7, none⟩ = some (.int .i64 XT.s) := HN3.out.cell 7); (have c8 : w3.cell? ⟨wr.heap.size, 8, none⟩ = some (.int .i64 XT.m) := HN3.out.cell 8); (have cf : w3.frozen? ⟨wr.heap.size, 0, none⟩ = false := HN3.out.frozen 0); (have HB4 := Lib.hid ((HB3.out.setCell (p := ⟨wr.heap.size, 0, none⟩) (Nat.le_refl wr.heap.size) (.slice CA ml.length cc)).alloc (by have := HB3.out.size; simpa using this) (.cells (raV (((CA, cc), ml, p), XT)).toArray 38))); (have HO4 := Lib.hid ((kept_none HO3.out (grownBy_cell w3 ⟨wr.heap.size, 0, none⟩ (.slice CA ml.length cc)) (own_blk_ne HO3.out HN3.out (by decide))).alloc (.cells (raV (((CA, cc), ml, p), XT)).toArray 38))); (have HA4 := Lib.hid (HO.out.below HB4.out)))
    | (at_builtin; refine wpList_append_any _ rfl (.tmp 17) (.tmp 19) 22 rfl w.heap.size 38 r0 (.agg #[.slice none 0 0, .string ⟨#[]⟩, .slice none 0 0, .int .i64 0, .string ⟨#[]⟩, .string ⟨#[]⟩, .string ⟨#[]⟩, .int .i64 0, .int .i64 0]) 9 136 Tryz.underlying22 hr0 hv0 hv1 hv2 rfl (by decide) (.slice LA ls.length lc) ls.length (flatA ls) rfl HA4.out.row _ (some ⟨w3.heap.size, 0, none⟩) 1 1 (raV (((CA, cc), ml, p), XT)) rfl (reads_of_row (row_newc _ _ 38 (by simp)) rfl (by decide)) (by intro u hu; simp [raV] at hu; rcases hu with rfl | rfl | rfl | rfl | rfl | rfl | rfl | rfl | rfl <;> rfl) (by unfold maxLen; omega) (by omega) (by have := HB.out.size; have := HB4.out.size; exact Nat.le_trans HB.out.size HB4.out.size) ?_; intro v5 w5 hown5 hg5 halt5))
   have hrow5 : w5.ownsRow w.heap.size 38 9 v5 (ls ++ [((((CA, cc), ml, p), XT) : Ra)]).length (flatA (ls ++ [((((CA, cc), ml, p), XT) : Ra)])) := by rw [flatA_append, List.length_append]; exact hown5
   have HO5 := Lib.hid (HA4.out.push (x := (((CA, cc), ml, p), XT)) (HO4.out.mono (by have := HB.out.size; omega)) hg5 hrow5)
   have HB5 := Lib.hid ((HB.out.trans (HB4.out.mono HB.out.size)).grown hg5 (Nat.le_trans HB.out.size HB4.out.size) (fun k hk => own_lt HA4.out.row k hk))
   have HP5 := Lib.hid (show plA (ls ++ [((((CA, cc), ml, p), XT) : Ra)]) = (plA la).take (k + 1) by rw [plA_append, HP.out, take_snoc HPX.out]; rfl)
   have HL5 := Lib.hid (show (ls ++ [((((CA, cc), ml, p), XT) : Ra)]).length = k + 1 by rw [List.length_append, HL.out]; rfl)
   clear hown5 hg5 halt5 hrow5 HO4 HA4 HB4 c0 c1 c2 c3 c4 c5 c6 c7 c8 cf
   go_roundw
   case rel => exact ⟨k + 1, _, by omega, by go_num, HO5, HP5, HL5, HB5⟩
   case measure => simp [RowKit.intOf]; omega
  ·obtain rfl : k = la.length := by omega
   obtain ⟨LA, lc, rfl⟩ := own_slice HO.out.row
   have HPE := Lib.hid (show plA ls = plA la by rw [HP.out, ← plA_length la, List.take_length])
   go_wp2
   go_ret
   exact ⟨LA, lc, ls, rfl, HO.out, HPE.out, HB.out⟩
structure OwnR (base : Nat) (w : World) (v : Value) (ls : List Rv) : Prop where
 row : w.ownsRow base 93 2 v ls.length (flatR ls)
 met : ∀ x ∈ ls, w.ownsRow base 9 1 (.slice x.1.1 x.2.1.length x.1.2) x.2.1.length (x.2.1.map .string)
section
variable {base : Nat} {w w2 w3 : World} {v v' : Value} {ls : List Rv}
theorem OwnR.below (h : OwnR base w v ls) (hb : Below w.heap.size w w2) : OwnR base w2 v ls := ⟨own_below h.row hb, fun x hx => own_below (h.met x hx) hb⟩
theorem OwnR.mono (h : OwnR base w v ls) {b : Nat} (hb : b ≤ base) : OwnR b w v ls := ⟨h.row.mono hb, fun x hx => (h.met x hx).mono hb⟩
theorem OwnR.push (h : OwnR base w v ls) {x : Rv} (hx : w.ownsRow base 9 1 (.slice x.1.1 x.2.1.length x.1.2) x.2.1.length (x.2.1.map .string)) (hg : w.grownBy w2 v.ownBlock) (hr : w2.ownsRow base 93 2 v' (ls ++ [x]).length (flatR (ls ++ [x]))) : OwnR base w2 v' (ls ++ [x]) :=
 ⟨hr, fun y hy => by
  rcases List.mem_append.1 hy with hy | hy
  ·exact own_other (h.met y hy) hg (apart_types h.row (h.met y hy) (by decide))
  ·obtain rfl := List.mem_singleton.1 hy
   exact own_other hx hg (apart_types h.row hx (by decide))⟩
theorem OwnR.ok (h : OwnR base w v ls) : MOk w ls := fun x hx => ⟨own_row (h.met x hx), own_cap (h.met x hx)⟩
end
def GivesRr (w : World) (l : List Rt) (e : Ending) (w' : World) : Prop :=
 ∃ A c ls, e = .returned (.slice A ls.length c) ∧ OwnR w.heap.size w' (.slice A ls.length c) ls ∧ plR ls = l ∧ Below w.heap.size w w'
set_option maxRecDepth 100000 in
set_option maxHeartbeats 4000000 in
theorem plain_any (A : Option Addr) (c : Nat) (la : List Ra) (w : World) (hr : Row w A (flatA la)) (hm : AOk w la) (hk : bulkRt (plA la) ≤ 1048576) :
  Calls Tryz.prog 15 #[.slice A la.length c] w (GivesRr w (plA la)) := by
 obtain ⟨i0, hi0, hz0, hz1, hz2⟩ := info_parts info_string
 obtain ⟨r0, hr0, hv0, hv1, hv2⟩ := info_parts info_rroute
 have hlen4 := bulkRt_len (plA la)
 rw [plA_length] at hlen4
 have HR := Lib.hid (fun (W : World) (h : Below w.heap.size w W) => hr.below h)
 have HM := Lib.hid (fun (W : World) (h : Below w.heap.size w W) => hm.below h)
 have HK := Lib.hid hk
 have hlen5 : la.length ≤ 262144 := by omega
 clear hr hm hk
 go_enter Tryz.func15, Tryz.ntmps15
 go_wp2
 go_loopw [3, 8] (fun v i wr => ∃ (k : Nat) (ls : List Rv), k ≤ la.length ∧ i = .int .i64 k ∧ Hid (OwnR w.heap.size wr v ls) ∧ Hid (plR ls = (plA la).take k) ∧ Hid (ls.length = k) ∧ Hid (Below w.heap.size w wr)) (fun _ i _ => la.length - (RowKit.intOf i).toNat)
 case atStart => exact ⟨0, [], by omega, rfl, Lib.hid ⟨World.ownsRow_nil _ _ _ _, fun x hx => by cases hx⟩, Lib.hid rfl, Lib.hid rfl, Lib.hid (Below.refl _ _)⟩
 case round =>
  obtain ⟨k, ls, hkl, rfl, HO, HP, HL, HB⟩ := hrel
  obtain ⟨LA, lc, rfl⟩ := own_slice HO.out.row
  by_cases hlt : k < la.length
  ·obtain ⟨x, hx⟩ := some_of_lt hlt
   have HPX := Lib.hid (plA_get hx)
   have HSX := Lib.hid (slim_mem HK.out (List.mem_of_getElem? HPX.out))
   have HMX := Lib.hid (HM.out wr HB.out x (List.mem_of_getElem? hx)).1
   obtain ⟨b, off, rfl, hbl, f0, f1, f2, f3, f4, f5, f6, f7, f8⟩ := (HR.out wr HB.out).ra hx
   have hki : (k : Int) < (la.length : Int) := by omega
   clear hx
   obtain ⟨⟨⟨MA, mc⟩, ml, p⟩, XT⟩ := x
   dsimp only at f0 f1 f2 f3 f4 f5 f6 f7 f8 HPX HSX HMX
   have hnum := HSX.out.num
   dsimp only at hnum
   have hb1 : Below wr.heap.size wr (wr.alloc (.cells #[.slice MA ml.length mc, .string p, .slice XT.A XT.n XT.c, .int .i64 XT.k, .string XT.x, .string XT.y, .string XT.z, .int .i64 XT.s, .int .i64 XT.m] 38)) := (Below.refl _ _).alloc (Nat.le_refl _) _
   have HB1 := Lib.hid hb1
   have HN1 : Hid (Blk (wr.alloc (.cells #[.slice MA ml.length mc, .string p, .slice XT.A XT.n XT.c, .int .i64 XT.k, .string XT.x, .string XT.y, .string XT.z, .int .i64 XT.s, .int .i64 XT.m] 38)) wr.heap.size 38 #[.slice MA ml.length mc, .string p, .slice XT.A XT.n XT.c, .int .i64 XT.k, .string XT.x, .string XT.y, .string XT.z, .int .i64 XT.s, .int .i64 XT.m]) := Lib.hid (Blk.new wr _ _)
   have hrl : ls.length ≤ 1048576 := by have := HL.out; omega
   clear hb1
   go_upto_region 5 with (fail)
   obtain ⟨nb, hnb⟩ : ∃ nb : Nat, nb = wr.heap.size := ⟨_, rfl⟩
   have HNB := Lib.hid hnb
   rw [← hnb] at HN1
   generalize hwa : wr.alloc (.cells #[.slice MA ml.length mc, .string p, .slice XT.A XT.n XT.c, .int .i64 XT.k, .string XT.x, .string XT.y, .string XT.z, .int .i64 XT.s, .int .i64 XT.m] 38) = wa at *
   have hbs : wr.heap.size ≤ wa.heap.size := HB1.out.size
   rw [← hnb]
   clear hwa hnb f0 f1 f2 f3 f4 f5 f6 f7 f8
   have HSC := Lib.hid (fun (w' : World) (h : Below wa.heap.size wa w') => (⟨(HN1.out.below h HN1.out.lt).cell 0, (HN1.out.below h HN1.out.lt).cell 1⟩ : w'.cell? ⟨nb, 0, none⟩ = some (.slice MA ml.length mc) ∧ w'.cell? ⟨nb, 1, none⟩ = some (.string p)))
   have hS0 := HSC.out _ (below_drew (Below.refl wa.heap.size wa))
   have HD := Lib.hid (below_drew (Below.refl wa.heap.size wa))
   refine region_T (t := 10) (S := fun w' => w'.cell? ⟨nb, 0, none⟩ = some (.slice MA ml.length mc) ∧ w'.cell? ⟨nb, 1, none⟩ = some (.string p)) (by kernel_rfl) hS0 (fun hHeld => ?_)
   refine' anyT_take (i := 0) (v := _) rfl (by kernel_rfl) (by kernel_rfl) (by kernel_rfl) (by kernel_rfl) (by rfl) (fun _ _ _ h => h) (Or.inl ⟨by rfl, ?h1y⟩) hHeld ?h1r
   case h1y => (intro w hSw; (try dsimp only at hSw); (try simp only [List.getElem_toArray, List.getElem_cons_zero]); go_simp; try (with_reducible rfl))
   (try simp only [List.getElem_toArray, List.getElem_cons_zero, Act.put, List.setIfInBounds_toArray, List.set_cons_zero, List.set_cons_succ])
   refine' anyT_take (i := 2) (v := _) rfl (by kernel_rfl) (by kernel_rfl) (by kernel_rfl) (by kernel_rfl) (by rfl) (fun _ _ _ h => h) (Or.inl ⟨by rfl, ?h2y⟩) hHeld ?h2r
   case h2y => (intro w hSw; (try dsimp only at hSw); (try simp only [List.getElem_toArray, List.getElem_cons_succ, List.getElem_cons_zero]); go_simp; try (with_reducible rfl))
   (try simp only [List.getElem_toArray, List.getElem_cons_succ, List.getElem_cons_zero, Act.put, List.setIfInBounds_toArray, List.set_cons_zero, List.set_cons_succ])
   refine' anyT_take (i := 3) (v := _) rfl (by kernel_rfl) (by kernel_rfl) (by kernel_rfl) (by kernel_rfl) (by rfl) (fun _ _ _ h => h) (Or.inl ⟨by rfl, ?h3y⟩) hHeld ?h3r
   case h3y => (intro w hSw; (try dsimp only at hSw); obtain ⟨s0, s1⟩ := hSw; (try simp only [List.getElem_toArray, List.getElem_cons_succ, List.getElem_cons_zero]); go_simp; try (with_reducible rfl))
   (try simp only [List.getElem_toArray, List.getElem_cons_succ, List.getElem_cons_zero, Act.put, List.setIfInBounds_toArray, List.set_cons_zero, List.set_cons_succ])
   refine' anyT_take (i := 5) (v := _) rfl (by kernel_rfl) (by kernel_rfl) (by kernel_rfl) (by kernel_rfl) (by rfl) (fun _ _ _ h => h) (Or.inl ⟨by rfl, ?h4y⟩) hHeld ?h4r
   case h4y => (intro w hSw; (try dsimp only at hSw); (try simp only [List.getElem_toArray, List.getElem_cons_succ, List.getElem_cons_zero]); go_simp; try (with_reducible rfl))
   (try simp only [List.getElem_toArray, List.getElem_cons_succ, List.getElem_cons_zero, Act.put, List.setIfInBounds_toArray, List.set_cons_zero, List.set_cons_succ])
   refine' anyT_take (i := 6) (v := _) rfl (by kernel_rfl) (by kernel_rfl) (by kernel_rfl) (by kernel_rfl) (by rfl) (fun _ _ _ h => h) (Or.inl ⟨by rfl, ?h5y⟩) hHeld ?h5r
   case h5y => (intro w hSw; (try dsimp only at hSw); obtain ⟨s0, s1⟩ := hSw; (try simp only [List.getElem_toArray, List.getElem_cons_succ, List.getElem_cons_zero]); go_simp; try (with_reducible rfl))
   (try simp only [List.getElem_toArray, List.getElem_cons_succ, List.getElem_cons_zero, Act.put, List.setIfInBounds_toArray, List.set_cons_zero, List.set_cons_succ])
   refine anyT_ready (rs := [1]) (by kernel_rfl) (by simp) ?_
   refine AllReadyT.cons rfl (fun K hK => ?_) AllReadyT.nil
   go_simp
   have HB2 := Lib.hid (HD.out.alloc HD.out.size (.cells #[] 9))
   have HW0 : Hid ((wa.drew.alloc (.cells #[] 9)).ownsRow wa.heap.size 9 1 (.slice (some ⟨wa.heap.size, 0, none⟩) 0 0) 0 []) := Lib.hid (own_noS wa.drew)
   refine hK.out _ _ (.inr (HSC.out _ HB2.out)) (fun _ => ?_)
   clear hK K
   (try simp only [List.getElem_toArray, List.getElem_cons_succ, List.getElem_cons_zero, Act.put, List.setIfInBounds_toArray, List.set_cons_zero, List.set_cons_succ])
   refine anyT_ready (rs := [4]) (by kernel_rfl) (by simp) ?_
   refine AllReadyT.cons rfl (fun K hK => ?_) AllReadyT.nil
   refine step_append_any _ rfl (.tmp 13) (.tmp 15) 33 rfl wa.heap.size 9 i0 (.string ⟨#[]⟩) 1 16 Tryz.underlying33 hi0 hz0 hz1 hz2 rfl (by decide) (.slice (some ⟨wa.heap.size, 0, none⟩) 0 0) 0 [] (by rfl) HW0.out _ MA ml.length mc (ml.map .string) (by rfl) (reads_of_row ((HMX.out.below HB1.out).below HB2.out) (by simp) (by decide)) (by intro u hu; obtain ⟨y, _, rfl⟩ := List.mem_map.1 hu; rfl) (by unfold maxLen; omega) (by omega) (by simp) ?_
   intro v3 w3 hown3 hg3 halt3
   rw [Nat.zero_add] at hown3
   obtain ⟨CA, cc, rfl⟩ := own_slice hown3
   have HB3 := Lib.hid (HB2.out.grown hg3 (by simp) (fun k hk => by simp [Value.ownBlock] at hk; omega))
   have HO3 := Lib.hid (show w3.ownsRow wa.heap.size 9 1 (.slice CA ml.length cc) ml.length (ml.map .string) from hown3)
   clear hown3 hg3 halt3
   refine hK.out _ _ (.inr (HSC.out _ HB3.out)) (fun _ => ?_)
   clear hK K
   (try simp only [List.getElem_toArray, List.getElem_cons_succ, List.getElem_cons_zero, Act.put, List.setIfInBounds_toArray, List.set_cons_zero, List.set_cons_succ])
   refine' anyT_take (i := 7) (v := _) rfl (by kernel_rfl) (by kernel_rfl) (by kernel_rfl) (by kernel_rfl) (by rfl) (fun _ _ _ h => h) (Or.inl ⟨by rfl, ?h6y⟩) (HSC.out _ HB3.out) ?h6r
   case h6y => (intro w hSw; (try dsimp only at hSw); (try simp only [List.getElem_toArray, List.getElem_cons_succ, List.getElem_cons_zero]); go_simp; try (with_reducible rfl))
   (try simp only [List.getElem_toArray, List.getElem_cons_succ, List.getElem_cons_zero, Act.put, List.setIfInBounds_toArray, List.set_cons_zero, List.set_cons_succ])
   refine anyT_ready (rs := [8]) (by kernel_rfl) (by simp) ?_
   refine AllReadyT.cons rfl (fun K hK => ?_) AllReadyT.nil
   go_simp
   have HB4 := Lib.hid (HB3.out.alloc HB3.out.size (.cells #[.slice CA ml.length cc, .string p] 93))
   refine hK.out _ _ (.inr (HSC.out _ HB4.out)) (fun _ => ?_)
   clear hK K
   (try simp only [List.getElem_toArray, List.getElem_cons_succ, List.getElem_cons_zero, Act.put, List.setIfInBounds_toArray, List.set_cons_zero, List.set_cons_succ])
   have HA4 := Lib.hid ((HO.out.below HB1.out).below HB4.out)
   have HO4 := Lib.hid (HO3.out.alloc (.cells #[.slice CA ml.length cc, .string p] 93))
   refine anyT_ready (rs := [9]) (by kernel_rfl) (by simp) ?_
   refine AllReadyT.cons rfl (fun K hK => ?_) AllReadyT.nil
   refine step_append_any _ rfl (.tmp 12) (.tmp 20) 31 rfl w.heap.size 93 r0 (.agg #[.slice none 0 0, .string ⟨#[]⟩]) 2 40 Tryz.underlying31 hr0 hv0 hv1 hv2 rfl (by decide) (.slice LA ls.length lc) ls.length (flatR ls) (by rfl) HA4.out.row _ (some ⟨w3.heap.size, 0, none⟩) 1 1 (rvV ((CA, cc), ml, p)) (by rfl) (reads_of_row (row_newc w3 _ 93 rfl) rfl (by decide)) (by intro u hu; simp [rvV] at hu; rcases hu with rfl | rfl <;> rfl) (by unfold maxLen; omega) (by omega) (Nat.le_trans HB.out.size (Nat.le_trans hbs HB4.out.size)) ?_
   intro v5 w5 hown5 hg5 halt5
   have hrow5 : w5.ownsRow w.heap.size 93 2 v5 (ls ++ [(((CA, cc), ml, p) : Rv)]).length (flatR (ls ++ [(((CA, cc), ml, p) : Rv)])) := by rw [flatR_append, List.length_append]; exact hown5
   have HO5 := Lib.hid (HA4.out.push (x := ((CA, cc), ml, p)) (HO4.out.mono (Nat.le_trans HB.out.size hbs)) hg5 hrow5)
   have HB5 := Lib.hid (((HB.out.trans (HB1.out.mono HB.out.size)).trans (HB4.out.mono (Nat.le_trans HB.out.size hbs))).grown hg5 (Nat.le_trans HB.out.size (Nat.le_trans hbs HB4.out.size)) (fun k hk => own_lt HA4.out.row k hk))
   have HP5 := Lib.hid (show plR (ls ++ [(((CA, cc), ml, p) : Rv)]) = (plA la).take (k + 1) by rw [plR_append, HP.out, take_snoc HPX.out]; rfl)
   have HL5 := Lib.hid (show (ls ++ [(((CA, cc), ml, p) : Rv)]).length = k + 1 by rw [List.length_append, HL.out]; rfl)
   have hS5 : w5.cell? ⟨nb, 0, none⟩ = some (.slice MA ml.length mc) ∧ w5.cell? ⟨nb, 1, none⟩ = some (.string p) := by
    have hN5 := (HN1.out.below HB4.out HN1.out.lt).grown hg5 (fun e => own_blk_ne HA4.out.row (HN1.out.below HB4.out HN1.out.lt) (by decide) e.symm)
    exact ⟨hN5.cell 0, hN5.cell 1⟩
   clear hown5 hg5 halt5 hrow5 HO4 HA4
   refine hK.out _ _ (.inr hS5) (fun _ => ?_)
   clear hK K
   (try simp only [List.getElem_toArray, List.getElem_cons_succ, List.getElem_cons_zero, Act.put, List.setIfInBounds_toArray, List.set_cons_zero, List.set_cons_succ])
   refine anyT_ready (rs := [10]) (by kernel_rfl) (by simp) ?_
   refine AllReadyT.cons rfl (fun K hK => ?_) AllReadyT.nil
   go_simp
   refine hK.out _ _ (.inl (by rfl)) (fun _ => ?_)
   clear hK K
   (try simp only [List.getElem_toArray, List.getElem_cons_succ, List.getElem_cons_zero, Act.put, List.setIfInBounds_toArray, List.set_cons_zero, List.set_cons_succ])
   refine anyT_done (by kernel_rfl) ?_ _
   clear hS5 hS0 hHeld
   go_wp2
   go_roundw
   case rel => exact ⟨k + 1, _, by omega, by go_num, HO5, HP5, HL5, HB5⟩
   case measure => simp [RowKit.intOf]; omega
  ·obtain rfl : k = la.length := by omega
   have HPE := Lib.hid (show plR ls = plA la by rw [HP.out, ← plA_length la, List.take_length])
   go_wp2
   go_ret
   exact ⟨LA, lc, ls, rfl, HO.out, HPE.out, HB.out⟩
end Go.Proofs.YtiohmnhbmmhnhaaGreatDoor
namespace Go.Proofs.YtiohmnhbmmhnhaaGreatDoor
open Go.RowKit Go.Shelf Go.Lib
set_option maxRecDepth 20000 in
set_option maxHeartbeats 1000000 in
theorem textsS_any (A B : Option Addr) (c d : Nat) (l m : List ByteArray) (w : World) (hr : Row w A (l.map .string)) (hs : Row w B (m.map .string)) (hl : l.length ≤ 1099511627776) (_hm : m.length ≤ 1099511627776) :
  Calls Tryz.prog 16 #[.slice A l.length c, .slice B m.length d] w fun e w' => e = .returned (.bool (decide (l = m))) ∧ Below w.heap.size w w' := by
 by_cases hlen : l.length = m.length
 ·have hne : ((l.length : Int) != (m.length : Int)) = false := by simp; omega
  have hml : m.length ≤ l.length := by omega
  have HL := Lib.hid hlen
  clear hlen
  go_enter Tryz.func16, Tryz.ntmps16
  go_wp2
  go_loopw [13] (fun i wr => ∃ (k q : Nat), k ≤ l.length ∧ i = .int .i64 k ∧ wr = w.drewN q ∧ l.take k = m.take k) (fun i _ => l.length - (RowKit.intOf i).toNat)
  case atStart => exact ⟨0, 0, by omega, rfl, rfl, rfl⟩
  case round =>
   obtain ⟨k, q, hk, rfl, rfl, htk⟩ := hrel
   have HT := Lib.hid htk
   clear htk
   by_cases hlt : k < l.length
   ·obtain ⟨x, hxy⟩ := some_of_lt hlt
    obtain ⟨x', hxy'⟩ := some_of_lt (show k < m.length by have := HL.out; omega)
    obtain ⟨b, off, rfl, hb, h0⟩ := hr.str hxy
    obtain ⟨b', off', rfl, hb', h0'⟩ := hs.str hxy'
    have hkm : k < m.length := lt_of_some hxy'
    have HX := Lib.hid hxy
    have HX' := Lib.hid hxy'
    clear hxy hxy'
    have hki : (k : Int) < (l.length : Int) := by omega
    have hki' : (k : Int) < (m.length : Int) := by omega
    cases hx : (x.toList == x'.toList)
    ·have hneq : ¬ l = m := fun e => by
      have h2 := HX.out
      rw [e, HX'.out] at h2
      injection h2 with h2
      rw [h2] at hx
      simp at hx
     have HN := Lib.hid hneq
     clear hneq
     go_wp2_with fail
     go_quiet (fail)
     go_wp2
     go_ret
     exact ⟨ret_bool (by rw [decide_eq_false HN.out]), below_drewN (below_drewN (Below.refl _ _) _) _⟩
    ·have HE := Lib.hid (show x = x' by rw [of_decide_eq_true ((eq_str x x').symm.trans hx)])
     go_wp2_with fail
     go_quiet (fail)
     go_wp2
     go_roundw
     case rel => exact ⟨k + 1, _, by omega, by go_num, rfl, by rw [take_snoc HX.out, take_snoc HX'.out, HT.out, HE.out]⟩
     case measure => simp [RowKit.intOf]; omega
   ·obtain rfl : k = l.length := by omega
    have he : l = m := by
     have := HT.out
     rw [List.take_length, HL.out, List.take_length] at this
     exact this
    have HE := Lib.hid he
    clear he
    go_wp2
    go_ret
    exact ⟨ret_bool (by rw [decide_eq_true HE.out]), (below_drewN (Below.refl _ _) _)⟩
 ·have hne : ((l.length : Int) != (m.length : Int)) = true := by simp; omega
  have HN := Lib.hid (show ¬ l = m from fun e => hlen (by rw [e]))
  clear hlen
  go_enter Tryz.func16, Tryz.ntmps16
  go_wp2
  go_ret
  exact ⟨ret_bool (by rw [decide_eq_false HN.out]), Below.refl _ _⟩
theorem textsSS_any {A B : Option Addr} (c d : Nat) (l : List ByteArray) (w : World) (hr : Row w A (l.map .string)) (hs : Row w B (l.map .string)) (hl : l.length ≤ 1099511627776) :
  Calls Tryz.prog 16 #[.slice A l.length c, .slice B l.length d] w fun e w' => e = .returned (.bool true) ∧ Below w.heap.size w w' := by
 have hS := textsS_any A B c d l l w hr hs hl hl
 rw [decide_eq_true rfl] at hS
 exact hS
set_option maxRecDepth 20000 in
set_option maxHeartbeats 1000000 in
theorem paramsS_same (A B : Option Addr) (c d : Nat) (l : List Pr) (w : World) (hr : Row w A (flat3 l)) (hs : Row w B (flat3 l)) (hl : l.length ≤ 4398046511104) :
  Calls Tryz.prog 26 #[.slice A l.length c, .slice B l.length d] w fun e w' => e = .returned (.bool true) ∧ ∃ q : Nat, w' = w.drewN q := by
 have hne : ((l.length : Int) != (l.length : Int)) = false := by simp
 go_enter Tryz.func26, Tryz.ntmps26
 go_wp2
 go_loopw [13] (fun i wr => ∃ (k q : Nat), k ≤ l.length ∧ i = .int .i64 k ∧ wr = w.drewN q) (fun i _ => l.length - (RowKit.intOf i).toNat)
 case atStart => exact ⟨0, 0, by omega, rfl, rfl⟩
 case round =>
  obtain ⟨k, q, hk, rfl, rfl⟩ := hrel
  by_cases hlt : k < l.length
  ·obtain ⟨⟨x, y, z⟩, hxy⟩ := some_of_lt hlt
   obtain ⟨b, off, rfl, hb, h0, h1, h2⟩ := hr.trip hxy
   obtain ⟨b', off', rfl, hb', h0', h1', h2'⟩ := hs.trip hxy
   clear hxy
   have hki : (k : Int) < (l.length : Int) := by omega
   have hxx : (x.toList == x.toList) = true := by simp
   have hyy : (y.toList == y.toList) = true := by simp
   have hzz : (z == z) = true := by simp
   go_wp2_with fail
   go_quiet (fail)
   go_wp2
   go_roundw
   case rel => exact ⟨k + 1, _, by omega, by go_num, rfl⟩
   case measure => simp [RowKit.intOf]; omega
  ·obtain rfl : k = l.length := by omega
   go_wp2
   go_ret
   exact ⟨rfl, _, rfl⟩
set_option maxRecDepth 20000 in
set_option maxHeartbeats 2000000 in
theorem shares_any (x y : Rv) (w : World) (hx : MOne w x) (hy : MOne w y) (hs : Slim x.2) (ht : Slim y.2) :
  Calls Tryz.prog 43 #[.agg #[.slice x.1.1 x.2.1.length x.1.2, .string x.2.2], .agg #[.slice y.1.1 y.2.1.length y.1.2, .string y.2.2]] w fun e w' => e = .returned (.bool (sharesR x.2 y.2)) ∧ Below w.heap.size w w' := by
 obtain ⟨⟨A, c⟩, l, p⟩ := x
 obtain ⟨⟨B, d⟩, m, q⟩ := y
 obtain ⟨hr, _⟩ := hx
 obtain ⟨hr2, _⟩ := hy
 obtain ⟨_, hn, _⟩ := hs
 obtain ⟨_, hn2, _⟩ := ht
 dsimp only at hr hr2 hn hn2 ⊢
 have HSR := Lib.hid (show sharesR (l, p) (m, q) = if l.length = 0 ∨ m.length = 0 then decide (l.length = m.length) else l.any fun z => inL m z from rfl)
 have hb0 : Below w.heap.size w ((w.alloc (.cells #[.slice A l.length c, .string p] 93)).alloc (.cells #[.slice B m.length d, .string q] 93)) := ((Below.refl _ w).alloc (Nat.le_refl _) _).alloc (by simp) _
 have HB0 := Lib.hid hb0
 have HIN := Lib.hid (fun (z : ByteArray) => rInL_any B d m z ((w.alloc (.cells #[.slice A l.length c, .string p] 93)).alloc (.cells #[.slice B m.length d, .string q] 93)) (hr2.below hb0) (by omega))
 have hrA := hr.below hb0
 generalize sharesR (l, p) (m, q) = res at *
 clear hb0 hr hr2
 by_cases h0 : l.length = 0
 ·have HV := Lib.hid (show res = ((l.length : Int) == (m.length : Int)) by
   rw [HSR.out, if_pos (.inl h0)]
   rw [Bool.eq_iff_iff, decide_eq_true_eq, beq_iff_eq]
   omega)
  have hi : ((l.length : Int) == 0) = true := beq_iff_eq.2 (by omega)
  clear h0 HSR hrA
  go_enter Tryz.func43, Tryz.ntmps43
  go_wp2
  go_ret
  exact ⟨ret_bool HV.out.symm, HB0.out⟩
 ·have hi : ((l.length : Int) == 0) = false := beq_eq_false_iff_ne.2 (by omega)
  by_cases h1 : m.length = 0
  ·have HV := Lib.hid (show res = ((l.length : Int) == (m.length : Int)) by
    rw [HSR.out, if_pos (.inr h1)]
    rw [Bool.eq_iff_iff, decide_eq_true_eq, beq_iff_eq]
    omega)
   have hi2 : ((m.length : Int) == 0) = true := beq_iff_eq.2 (by omega)
   clear h0 h1 HSR hrA
   go_enter Tryz.func43, Tryz.ntmps43
   go_wp2
   go_ret
   exact ⟨ret_bool HV.out.symm, HB0.out⟩
  ·have hi2 : ((m.length : Int) == 0) = false := beq_eq_false_iff_ne.2 (by omega)
   have HV := Lib.hid (show res = l.any fun z => inL m z by rw [HSR.out, if_neg (fun h => by rcases h with h | h; exact h0 h; exact h1 h)])
   clear h0 h1 HSR
   go_enter Tryz.func43, Tryz.ntmps43
   go_wp2
   have HRA := Lib.hid hrA
   have hsz : w.heap.size + 1 < ((w.alloc (.cells #[.slice A l.length c, .string p] 93)).alloc (.cells #[.slice B m.length d, .string q] 93)).heap.size := by simp
   have hc1 : ((w.alloc (.cells #[.slice A l.length c, .string p] 93)).alloc (.cells #[.slice B m.length d, .string q] 93)).cell? ⟨w.heap.size + 1, 0, none⟩ = some (.slice B m.length d) := World.cell?_alloc_at _ _ _ _ (by simp)
   generalize (w.alloc (.cells #[.slice A l.length c, .string p] 93)).alloc (.cells #[.slice B m.length d, .string q] 93) = w1 at *
   clear hrA
   go_loop [27] (fun i => ∃ k : Nat, k ≤ l.length ∧ i = .int .i64 k ∧ Hid (∀ j z, j < k → l[j]? = some z → inL m z = false)) (fun i => l.length - (RowKit.intOf i).toNat)
   case atStart => exact ⟨0, by omega, rfl, Lib.hid (fun j z h => absurd h (Nat.not_lt_zero _))⟩
   case round =>
    obtain ⟨k, hk, rfl, HK⟩ := hrel
    by_cases hlt : k < l.length
    ·obtain ⟨z, hz⟩ := some_of_lt hlt
     obtain ⟨b, off, rfl, hb, f0⟩ := HRA.out.str hz
     have HC := Lib.hid (HIN.out z)
     have HX := Lib.hid hz
     clear hz
     cases hp : inL m z
     ·have HK2 : Hid (∀ j x, j < k + 1 → l[j]? = some x → inL m x = false) := Lib.hid (fun j y hj hy => by
       rcases Nat.lt_or_ge j k with h | h
       ·exact HK.out j y h hy
       ·obtain rfl : j = k := by omega
        have := HX.out.symm.trans hy
        obtain rfl := Option.some.inj this
        exact hp)
      rw [hp] at HC
      clear hp HK
      go_wp2_with fail
      refine HC.out.mono ?_
      rintro e w2 ⟨rfl, rfl⟩
      go_wp2
      go_round
      case rel => exact ⟨k + 1, by omega, by go_num, HK2⟩
      case measure => simp [RowKit.intOf]; omega
     ·have HV2 := Lib.hid (show res = true by rw [HV.out]; exact List.any_eq_true.2 ⟨z, List.mem_of_getElem? HX.out, hp⟩)
      rw [hp] at HC
      clear hp HK
      go_wp2_with fail
      refine HC.out.mono ?_
      rintro e w2 ⟨rfl, rfl⟩
      go_wp2
      go_ret
      exact ⟨ret_bool HV2.out.symm, HB0.out⟩
    ·obtain rfl : k = l.length := by omega
     have HV2 := Lib.hid (show res = false by
      rw [HV.out, List.any_eq_false]
      intro z hz
      obtain ⟨j, hj, rfl⟩ := List.getElem_of_mem hz
      rw [HK.out j _ hj (List.getElem?_eq_getElem hj)]
      decide)
     go_wp2
     go_ret
     exact ⟨ret_bool HV2.out.symm, HB0.out⟩
end Go.Proofs.YtiohmnhbmmhnhaaGreatDoor
namespace Go.Proofs.YtiohmnhbmmhnhaaGreatDoor
open Go.RowKit Go.Shelf Go.Lib
end Go.Proofs.YtiohmnhbmmhnhaaGreatDoor
namespace Go.Proofs.YtiohmnhbmmhnhaaGreatDoor
open Go.RowKit Go.Shelf Go.Lib
theorem results_two {fn : Func} {t u : Tmp} (h : fn.results = #[.tmp t, .tmp u]) (tmps : Array Value) (P : Program) (w : World) :
  (results fn tmps).run P w = .ok (.tuple #[tmps.getD t undef, tmps.getD u undef]) w := by
 simp [results, h]
theorem goR_pat {ahead rest : List Rt} {r : Rt} {i : Nat} (h : ¬ (checkP r.2).2 = 0) : newGoR ahead (r :: rest) i = (i, 130) := by
 unfold newGoR
 rw [if_pos h]
theorem goR_met {ahead rest : List Rt} {r : Rt} {i : Nat} (h : (checkP r.2).2 = 0) (h2 : wrongM r.1 = true) : newGoR ahead (r :: rest) i = (i, 141) := by
 unfold newGoR
 rw [if_neg (fun k => k h), if_pos h2]
theorem goR_names {ahead rest : List Rt} {r : Rt} {i : Nat} (h : (checkP r.2).2 = 0) (h2 : wrongM r.1 = false) (h3 : namesR ahead r = true) : newGoR ahead (r :: rest) i = (i, 142) := by
 unfold newGoR
 rw [if_neg (fun k => k h), if_neg (by rw [h2]; decide), if_pos h3]
theorem goR_twice {ahead rest : List Rt} {r : Rt} {i : Nat} (h : (checkP r.2).2 = 0) (h2 : wrongM r.1 = false) (h3 : namesR ahead r = false) (h4 : twiceR ahead r = true) : newGoR ahead (r :: rest) i = (i, 131) := by
 unfold newGoR
 rw [if_neg (fun k => k h), if_neg (by rw [h2]; decide), if_neg (by rw [h3]; decide), if_pos h4]
theorem goR_on {ahead rest : List Rt} {r : Rt} {i : Nat} (h : (checkP r.2).2 = 0) (h2 : wrongM r.1 = false) (h3 : namesR ahead r = false) (h4 : twiceR ahead r = false) : newGoR ahead (r :: rest) i = newGoR (ahead ++ [r]) rest (i + 1) := by
 rw [newGoR, if_neg (fun k => k h), if_neg (by rw [h2]; decide), if_neg (by rw [h3]; decide), if_neg (by rw [h4]; decide)]
theorem any_none {l : List Rt} {f : Rt → Bool} (h : ∀ j x, j < l.length → l[j]? = some x → f x = false) : l.any f = false := by
 rw [List.any_eq_false]
 intro z hz
 obtain ⟨j, hj, rfl⟩ := List.getElem_of_mem hz
 rw [h j _ hj (List.getElem?_eq_getElem hj)]
 decide
theorem gives_two {w w' : World} {r : Nat × Int} {i : Nat} {c : Int} (h : r = (i, c)) (hb : Below w.heap.size w w') : Ending.returned (.tuple #[.int .i64 (i : Nat), .int .i64 c]) = .returned (.tuple #[.int .i64 (r.1 : Nat), .int .i64 r.2]) ∧ Below w.heap.size w w' := by
 subst h
 exact ⟨rfl, hb⟩
set_option maxRecDepth 100000 in
set_option maxHeartbeats 4000000 in
theorem rtRNew_any (A : Option Addr) (c : Nat) (ls : List Rv) (w : World) (hr : Row w A (flatR ls)) (hc : ls.length ≤ c) (hm : MOk w ls) (hk : bulkRt (plR ls) ≤ 1048576) :
  Calls Tryz.prog 14 #[.slice A ls.length c] w fun e w' => e = .returned (.tuple #[.int .i64 ((newR (plR ls)).1 : Nat), .int .i64 (newR (plR ls)).2]) ∧ Below w.heap.size w w' := by
 obtain ⟨l, hl⟩ : ∃ l, plR ls = l := ⟨_, rfl⟩
 obtain ⟨res, hres⟩ : ∃ res, newR l = res := ⟨_, rfl⟩
 have HLL := Lib.hid (show l.length = ls.length by rw [← hl, plR_length])
 rw [hl] at hk ⊢
 rw [hres]
 have HPL := Lib.hid hl
 have HRES := Lib.hid hres
 have HK := Lib.hid hk
 have HR := Lib.hid (fun (W : World) (h : Below w.heap.size w W) => hr.below h)
 have HM := Lib.hid (fun (W : World) (h : Below w.heap.size w W) => hm.below h)
 clear hl hres hk hr hm
 by_cases h256 : 256 < ls.length
 ·have hi : (256 : Int) < (ls.length : Int) := by omega
  have HV := Lib.hid (show res = (256, 140) by rw [← HRES.out]; unfold newR; rw [if_pos (by rw [HLL.out]; exact h256)])
  go_enter Tryz.func14, Tryz.ntmps14
  go_wp2
  refine bodyPost_ret (results_two rfl _ _ _) rfl ?_
  exact gives_two (i := 256) HV.out (Below.refl _ _)
 have hi : ¬ (256 : Int) < (ls.length : Int) := by omega
 have hle : ls.length ≤ 256 := by omega
 have HNP := Lib.hid (show res = newGoR [] l 0 by rw [← HRES.out]; unfold newR; rw [if_neg (by rw [HLL.out]; exact h256)])
 clear h256 HRES
 go_enter Tryz.func14, Tryz.ntmps14
 go_wp2
 go_loopw [19] (fun i wr => ∃ k : Nat, k ≤ ls.length ∧ i = .int .i64 k ∧ Hid (res = newGoR (l.take k) (l.drop k) k) ∧ Hid (Below w.heap.size w wr)) (fun i _ => ls.length - (RowKit.intOf i).toNat)
 case atStart => exact ⟨0, by omega, rfl, HNP, Lib.hid (Below.refl _ _)⟩
 case round =>
  obtain ⟨k, hkl, rfl, HN, HB⟩ := hrel
  by_cases hlt : k < ls.length
  ·obtain ⟨x, hx⟩ := some_of_lt hlt
   have HLK := Lib.hid (show l[k]? = some x.2 by rw [← HPL.out]; exact plR_get hx)
   have HSX := Lib.hid (slim_mem HK.out (List.mem_of_getElem? HLK.out))
   have HMX := Lib.hid (fun (W : World) (h : Below w.heap.size w W) => HM.out W h x (List.mem_of_getElem? hx))
   obtain ⟨b, off, rfl, hbl, f0, f1⟩ := (HR.out wr HB.out).rv hx
   have HSL := Lib.hid (show l.drop k = x.2 :: l.drop (k + 1) from drop_some HLK.out)
   have HTK := Lib.hid (show (l.take k).length = k by rw [List.length_take, HLL.out]; omega)
   have HTS := Lib.hid (show l.take (k + 1) = l.take k ++ [x.2] from take_snoc HLK.out)
   have hki : (k : Int) < (ls.length : Int) := by omega
   have hkc : (k : Int) ≤ (c : Int) := by omega
   clear hx
   obtain ⟨⟨MA, mc⟩, ml, p⟩ := x
   dsimp only at f0 f1 HLK HSX HMX HSL HTS
   have hsp := HSX.out.pat
   have hsn := HSX.out.num
   dsimp only at hsp hsn
   have HBA := Lib.hid (HB.out.alloc HB.out.size (.cells #[.slice MA ml.length mc, .string p] 93))
   have HNA : Hid (Blk (wr.alloc (.cells #[.slice MA ml.length mc, .string p] 93)) wr.heap.size 93 #[.slice MA ml.length mc, .string p]) := Lib.hid (Blk.new _ _ _)
   have HCK := Lib.hid (fun W => rCheck_any p W (by omega))
   obtain ⟨cp, hcp⟩ : ∃ cp, checkP p = cp := ⟨_, rfl⟩
   rw [hcp] at HCK
   obtain ⟨c0, c1⟩ := cp
   have HCP := Lib.hid (show (checkP p).2 = c1 by rw [hcp])
   clear hcp
   go_wp2_with fail
   obtain ⟨nb, hnb⟩ : ∃ nb : Nat, nb = wr.heap.size := ⟨_, rfl⟩
   obtain ⟨wa, hwa⟩ : ∃ wa : World, wa = wr.alloc (.cells #[.slice MA ml.length mc, .string p] 93) := ⟨_, rfl⟩
   rw [← hwa] at HBA HNA
   rw [← hnb] at HNA
   rw [← hwa, ← hnb]
   clear hwa hnb f0 f1 hbl
   refine (HCK.out wa).mono ?_
   rintro e w1 ⟨rfl, hb1⟩
   unfold chkVal
   dsimp only
   have HB1 := Lib.hid (HBA.out.trans (hb1.mono HBA.out.size))
   have HN1 := Lib.hid (HNA.out.below hb1 HNA.out.lt)
   have n0 : w1.cell? ⟨nb, 0, none⟩ = some (.slice MA ml.length mc) := HN1.out.cell 0
   have n1 : w1.cell? ⟨nb, 1, none⟩ = some (.string p) := HN1.out.cell 1
   have hnl : nb < w1.heap.size := HN1.out.lt
   clear hb1 HCK HBA HNA
   by_cases hc0 : c1 = 0
   ·subst hc0
    have HWR := Lib.hid (rWrong_any MA mc ml w1 (HMX.out w1 HB1.out).1 (HMX.out w1 HB1.out).2 hsn HSX.out.met)
    cases hw : wrongM ml
    ·rw [hw] at HWR
     have HWM := Lib.hid hw
     clear hw
     go_wp2_with fail
     refine HWR.out.mono ?_
     rintro e w2 ⟨rfl, rfl⟩
     clear n0 n1 hnl HWR
     go_wp2
     obtain ⟨xo, rfl⟩ : ∃ xo : World, xo = wr := ⟨_, rfl⟩
     go_loopw [41] (fun i wr => ∃ j : Nat, j ≤ k ∧ i = .int .i64 j ∧ Hid (∀ jj y, jj < j → (l.take k)[jj]? = some y → (decide ((cmpR y.2 p).1 = 0) && decide (y.2 ≠ p)) = false) ∧ Hid (Below w1.heap.size w1 wr)) (fun i _ => k - (RowKit.intOf i).toNat)
     case atStart => exact ⟨0, by omega, rfl, Lib.hid (fun jj y h => absurd h (Nat.not_lt_zero _)), Lib.hid (Below.refl _ _)⟩
     case round =>
      obtain ⟨j, hj, rfl, HJ, HBX⟩ := hrel
      have HBW := Lib.hid (HB1.out.trans (HBX.out.mono HB1.out.size))
      have HNX := Lib.hid (HN1.out.below HBX.out HN1.out.lt)
      by_cases hjl : j < k
      ·obtain ⟨y, hy⟩ := some_of_lt (show j < ls.length by omega)
       have HYL := Lib.hid (show (l.take k)[j]? = some y.2 by rw [List.getElem?_take_of_lt hjl, ← HPL.out]; exact plR_get hy)
       have HSY := Lib.hid (slim_mem HK.out (List.mem_of_mem_take (List.mem_of_getElem? HYL.out)))
       obtain ⟨b2, off2, e2, hb2l, g0, g1⟩ := (HR.out wr HBW.out).rv hy
       injection e2 with e2
       injection e2 with e2 e3
       subst e2
       subst e3
       have m0 : wr.cell? ⟨nb, 0, none⟩ = some (.slice MA ml.length mc) := HNX.out.cell 0
       have m1 : wr.cell? ⟨nb, 1, none⟩ = some (.string p) := HNX.out.cell 1
       have hnlx : nb < wr.heap.size := HNX.out.lt
       have hji : (j : Int) < (k : Int) := by omega
       clear hy
       obtain ⟨⟨YA, yc⟩, yl, yp⟩ := y
       dsimp only at g0 g1 HYL HSY
       have hyp := HSY.out.pat
       dsimp only at hyp
       have HCM := Lib.hid (fun W => rCompare_any yp p W (by omega) (by omega))
       have HBY := Lib.hid (HBX.out.alloc HBX.out.size (.cells #[.slice YA yl.length yc, .string yp] 93))
       obtain ⟨cr, hcr⟩ : ∃ cr, cmpR yp p = cr := ⟨_, rfl⟩
       rw [hcr] at HCM
       obtain ⟨n, ce⟩ := cr
       have HCR := Lib.hid (show (cmpR yp p).1 = n by rw [hcr])
       clear hcr
       go_wp2_with fail
       refine (HCM.out _).mono ?_
       rintro e w4 ⟨rfl, hb4⟩
       unfold chkVal
       dsimp only
       have HB4 := Lib.hid (HBY.out.trans (hb4.mono HBY.out.size))
       have hb4' : Below (wr.heap.size + 1) (wr.alloc (.cells #[.slice YA yl.length yc, .string yp] 93)) w4 := by simpa using hb4
       have HN4 := Lib.hid (HN1.out.below HB4.out HN1.out.lt)
       have p1 : w4.cell? ⟨nb, 1, none⟩ = some (.string p) := HN4.out.cell 1
       have y1 : w4.cell? ⟨wr.heap.size, 1, none⟩ = some (.string yp) := by rw [hb4'.cell (p := ⟨wr.heap.size, 1, none⟩) (by simp), World.cell?_alloc_new]; rfl
       have hnl4 : nb < w4.heap.size := HN4.out.lt
       have hyl4 : wr.heap.size < w4.heap.size := by have := hb4'.size; simp at this; omega
       clear hb4 hb4' m0 m1 g0 g1 HCM HBY
       by_cases hn0 : n = 0
       ·by_cases hyq : yp = p
        ·have hq : (yp.toList == p.toList) = true := by rw [eq_str]; exact decide_eq_true hyq
         have hq2 : (yp.toList != p.toList) = false := by simp [bne, hq]
         have HJ2 : Hid (∀ jj y, jj < j + 1 → (l.take k)[jj]? = some y → (decide ((cmpR y.2 p).1 = 0) && decide (y.2 ≠ p)) = false) := Lib.hid (fun jj z hjj hz => by
          rcases Nat.lt_or_ge jj j with h | h
          ·exact HJ.out jj z h hz
          ·obtain rfl : jj = j := by omega
           rw [HYL.out] at hz
           rw [← Option.some.inj hz]
           simp [hyq])
         subst hn0
         clear HJ hyq
         go_wp2
         go_roundw
         case rel => exact ⟨j + 1, by omega, by go_num, HJ2, HB4⟩
         case measure => simp [RowKit.intOf]; omega
        ·have hq : (yp.toList == p.toList) = false := by rw [eq_str]; exact decide_eq_false hyq
         have HV := Lib.hid (show res = (k, 142) by
          rw [HN.out, HSL.out]
          exact goR_names (HCP.out) HWM.out (List.any_eq_true.2 ⟨_, List.mem_of_getElem? HYL.out, by
           rw [HCR.out, hn0, decide_eq_true rfl, decide_eq_true hyq]
           rfl⟩))
         have HBE := Lib.hid (HB1.out.trans (HB4.out.mono HB1.out.size))
         subst hn0
         clear HJ hyq
         go_wp2
         refine bodyPost_ret (results_two rfl _ _ _) rfl ?_
         exact gives_two HV.out HBE.out
       ·have hnn : (n == 0) = false := by simpa using hn0
        have HJ2 : Hid (∀ jj y, jj < j + 1 → (l.take k)[jj]? = some y → (decide ((cmpR y.2 p).1 = 0) && decide (y.2 ≠ p)) = false) := Lib.hid (fun jj z hjj hz => by
         rcases Nat.lt_or_ge jj j with h | h
         ·exact HJ.out jj z h hz
         ·obtain rfl : jj = j := by omega
          rw [HYL.out] at hz
          rw [← Option.some.inj hz, HCR.out, decide_eq_false hn0]
          rfl)
        clear HJ hn0
        go_wp2
        go_roundw
        case rel => exact ⟨j + 1, by omega, by go_num, HJ2, HB4⟩
        case measure => simp [RowKit.intOf]; omega
      ·obtain rfl : j = k := by omega
       have HNN := Lib.hid (show namesR (l.take j) (ml, p) = false from any_none (f := fun x => decide ((cmpR x.2 p).1 = 0) && decide (x.2 ≠ p)) (fun jj y hjj hy => HJ.out jj y (by rw [HTK.out] at hjj; exact hjj) hy))
       clear HJ hjl
       obtain ⟨xq, rfl⟩ : ∃ xq : World, xq = wr := ⟨_, rfl⟩
       go_wp2
       go_loopw [68] (fun i wr => ∃ i3 : Nat, i3 ≤ j ∧ i = .int .i64 i3 ∧ Hid (∀ jj y, jj < i3 → (l.take j)[jj]? = some y → (decide (y.2 = p) && sharesR y (ml, p)) = false) ∧ Hid (Below xq.heap.size xq wr)) (fun i _ => j - (RowKit.intOf i).toNat)
       case atStart => exact ⟨0, by omega, rfl, Lib.hid (fun jj y h => absurd h (Nat.not_lt_zero _)), Lib.hid (Below.refl _ _)⟩
       case round =>
        obtain ⟨i3, hi3, rfl, HJ, HBZ⟩ := hrel
        have HBV := Lib.hid (HBW.out.trans (HBZ.out.mono HBW.out.size))
        have HNZ := Lib.hid (HNX.out.below HBZ.out HNX.out.lt)
        by_cases hil : i3 < j
        ·obtain ⟨y, hy⟩ := some_of_lt (show i3 < ls.length by omega)
         have HYL := Lib.hid (show (l.take j)[i3]? = some y.2 by rw [List.getElem?_take_of_lt hil, ← HPL.out]; exact plR_get hy)
         have HSY := Lib.hid (slim_mem HK.out (List.mem_of_mem_take (List.mem_of_getElem? HYL.out)))
         obtain ⟨b2, off2, e2, hb2l, g0, g1⟩ := (HR.out wr HBV.out).rv hy
         have HYM := Lib.hid (fun (W : World) (h : Below w.heap.size w W) => HM.out W h y (List.mem_of_getElem? hy))
         injection e2 with e2
         injection e2 with e2 e3
         subst e2
         subst e3
         have m0 : wr.cell? ⟨nb, 0, none⟩ = some (.slice MA ml.length mc) := HNZ.out.cell 0
         have m1 : wr.cell? ⟨nb, 1, none⟩ = some (.string p) := HNZ.out.cell 1
         have hnlx : nb < wr.heap.size := HNZ.out.lt
         have hji : (i3 : Int) < (j : Int) := by omega
         clear hy
         obtain ⟨⟨YA, yc⟩, yl, yp⟩ := y
         dsimp only at g0 g1 HYL HSY HYM
         have HBY := Lib.hid (HBV.out.alloc HBV.out.size (.cells #[.slice YA yl.length yc, .string yp] 93))
         have HSH := Lib.hid (shares_any ((YA, yc), yl, yp) ((MA, mc), ml, p) (wr.alloc (.cells #[.slice YA yl.length yc, .string yp] 93)) (HYM.out _ HBY.out) (HMX.out _ HBY.out) HSY.out HSX.out)
         have HBZ1 := Lib.hid (HBZ.out.alloc HBZ.out.size (.cells #[.slice YA yl.length yc, .string yp] 93))
         dsimp only at HSH
         by_cases hyq : yp = p
         ·have hq : (yp.toList == p.toList) = true := by rw [eq_str]; exact decide_eq_true hyq
          have HYP := Lib.hid (show decide (yp = p) = true from decide_eq_true hyq)
          cases hsh : sharesR (yl, yp) (ml, p)
          ·rw [hsh] at HSH
           have HJ2 : Hid (∀ jj y, jj < i3 + 1 → (l.take j)[jj]? = some y → (decide (y.2 = p) && sharesR y (ml, p)) = false) := Lib.hid (fun jj z hjj hz => by
            rcases Nat.lt_or_ge jj i3 with h | h
            ·exact HJ.out jj z h hz
            ·obtain rfl : jj = i3 := by omega
             rw [HYL.out] at hz
             rw [← Option.some.inj hz, hsh, Bool.and_false])
           clear HJ hyq hsh
           go_wp2_with fail
           refine HSH.out.mono ?_
           rintro e w4 ⟨rfl, hb4⟩
           have HB4 := Lib.hid (HBZ1.out.trans (hb4.mono HBZ1.out.size))
           clear hb4
           go_wp2
           go_roundw
           case rel => exact ⟨i3 + 1, by omega, by go_num, HJ2, HB4⟩
           case measure => simp [RowKit.intOf]; omega
          ·rw [hsh] at HSH
           have HV := Lib.hid (show res = (j, 131) by
            rw [HN.out, HSL.out]
            exact goR_twice HCP.out HWM.out HNN.out (List.any_eq_true.2 ⟨_, List.mem_of_getElem? HYL.out, by rw [hsh, Bool.and_true]; exact HYP.out⟩))
           clear HJ hyq hsh
           go_wp2_with fail
           refine HSH.out.mono ?_
           rintro e w4 ⟨rfl, hb4⟩
           have HBE := Lib.hid (HBY.out.trans (hb4.mono HBY.out.size))
           clear hb4
           go_wp2
           refine bodyPost_ret (results_two rfl _ _ _) rfl ?_
           exact gives_two HV.out HBE.out
         ·have hq : (yp.toList == p.toList) = false := by rw [eq_str]; exact decide_eq_false hyq
          have HJ2 : Hid (∀ jj y, jj < i3 + 1 → (l.take j)[jj]? = some y → (decide (y.2 = p) && sharesR y (ml, p)) = false) := Lib.hid (fun jj z hjj hz => by
           rcases Nat.lt_or_ge jj i3 with h | h
           ·exact HJ.out jj z h hz
           ·obtain rfl : jj = i3 := by omega
            rw [HYL.out] at hz
            rw [← Option.some.inj hz]
            show (decide (yp = p) && _) = false
            rw [decide_eq_false hyq, Bool.false_and])
          clear HJ hyq
          go_wp2
          go_roundw
          case rel => exact ⟨i3 + 1, by omega, by go_num, HJ2, HBZ1⟩
          case measure => simp [RowKit.intOf]; omega
        ·obtain rfl : i3 = j := by omega
         have HTW := Lib.hid (show twiceR (l.take i3) (ml, p) = false from any_none (f := fun x => decide (x.2 = p) && sharesR x (ml, p)) (fun jj y hjj hy => HJ.out jj y (by rw [HTK.out] at hjj; exact hjj) hy))
         have HN9 : Hid (res = newGoR (l.take (i3 + 1)) (l.drop (i3 + 1)) (i3 + 1)) := Lib.hid (by rw [HTS.out, HN.out, HSL.out]; exact goR_on HCP.out HWM.out HNN.out HTW.out)
         go_wp2
         go_roundw
         case rel => exact ⟨i3 + 1, by omega, by go_num, HN9, HBV⟩
         case measure => simp [RowKit.intOf]; omega
    ·rw [hw] at HWR
     have HV := Lib.hid (show res = (k, 141) by rw [HN.out, HSL.out]; exact goR_met HCP.out hw)
     clear hw
     go_wp2_with fail
     refine HWR.out.mono ?_
     rintro e w2 ⟨rfl, rfl⟩
     go_wp2
     refine bodyPost_ret (results_two rfl _ _ _) rfl ?_
     exact gives_two HV.out HB1.out
   ·have hcn : (c1 != 0) = true := by simpa using hc0
    have HV := Lib.hid (show res = (k, 130) by rw [HN.out, HSL.out]; exact goR_pat (by rw [HCP.out]; exact hc0))
    clear hc0
    go_wp2
    refine bodyPost_ret (results_two rfl _ _ _) rfl ?_
    exact gives_two HV.out HB1.out
  ·obtain rfl : k = ls.length := by omega
   have HV := Lib.hid (show res = (0, 0) by rw [HN.out, ← HLL.out, List.drop_length]; rfl)
   go_wp2
   refine bodyPost_ret (results_two rfl _ _ _) rfl ?_
   exact gives_two (i := 0) HV.out HB.out
end Go.Proofs.YtiohmnhbmmhnhaaGreatDoor
namespace Go.Proofs.YtiohmnhbmmhnhaaGreatDoor
open Go.RowKit Go.Shelf Go.Lib
def rtS : ByteArray := ⟨#[47, 97, 47, 58, 120]⟩
def rtP : ByteArray := ⟨#[47, 97, 47, 55]⟩
def rtX : ByteArray := ⟨#[120]⟩
def rt7 : ByteArray := ⟨#[55]⟩
def rtPut : ByteArray := ⟨#[80, 85, 84]⟩
def rtL : List Rt := [([mGet], rtS)]
theorem aw_new : newP rtL = (0, 0) := by decide +kernel
theorem aw_pat : patR rtL rtP = some rtS := by decide +kernel
theorem aw_par : parP rtS rtP = [(rtX, rt7, true)] := by decide +kernel
theorem aw_head : foundP rtL (plc rtS rtL) mHead = 0 := by decide +kernel
theorem aw_put : foundP rtL (plc rtS rtL) rtPut = -1 := by decide +kernel
theorem aw_m1 : matchP rtL false mHead rtP = ⟨1, 0, rtS, [(rtX, rt7, true)], [], ⟨#[]⟩⟩ := by
 unfold matchP
 rw [aw_pat, matchF_found (by rw [aw_head]; decide), aw_head, aw_par]
theorem aw_m2 : (matchP rtL false rtPut rtP).kind = 2 ∧ (matchP rtL false rtPut rtP).route = -1 := by
 unfold matchP
 rw [aw_pat, matchF_allow (by rw [aw_put]; decide), aw_put]
 exact ⟨by decide +kernel, rfl⟩
theorem own_some {w : World} {base : Nat} {e : TypeId} {size n : Nat} {A : Option Addr} {c : Nat} {xs : List Value} (h : w.ownsRow base e size (.slice A n c) n xs) (hn : 0 < n) : ∃ g, A = some ⟨g, 0, none⟩ ∧ base ≤ g ∧ g < w.heap.size := by
 obtain ⟨g, cap, hv, _, hlt⟩ := h.form hn
 injection hv with hA _ _
 exact ⟨g, hA, (h.lt g (by rw [hA]; rfl)).1, hlt⟩
theorem run_fieldM (a b c d e f : Value) (w : World) : (Instr.field 47 (.agg #[a, b, c, d, e, f]) 0).run Tryz.prog w = .ok a w := by
 simp [Instr.field, go_sem]
 rfl
set_option maxRecDepth 100000 in
set_option maxHeartbeats 4000000 in
theorem awake_any (w : World) (hg : GlobR w) :
  Calls Tryz.prog 11 #[] w fun e w' => e = .returned (.bool true) ∧ Below w.heap.size w w' := by
 have hfd := run_fieldM
 have hb0 : Below w.heap.size w ((w.alloc (.cells #[.string ⟨#[71, 69, 84]⟩] 9)).alloc (.cells #[.slice (some ⟨w.heap.size, 0, none⟩) 1 1, .string ⟨#[47, 97, 47, 58, 120]⟩, .slice none 0 0, .int .i64 0, .string ⟨#[]⟩, .string ⟨#[]⟩, .string ⟨#[]⟩, .int .i64 0, .int .i64 0] 38)) := ((Below.refl _ w).alloc (Nat.le_refl _) _).alloc (by simp) _
 have HNW := rtNew_any (some ⟨w.heap.size + 1, 0, none⟩) 1 [(((some ⟨w.heap.size, 0, none⟩, 1), [mGet], rtS), zTl)] false ((w.alloc (.cells #[.string ⟨#[71, 69, 84]⟩] 9)).alloc (.cells #[.slice (some ⟨w.heap.size, 0, none⟩) 1 1, .string ⟨#[47, 97, 47, 58, 120]⟩, .slice none 0 0, .int .i64 0, .string ⟨#[]⟩, .string ⟨#[]⟩, .string ⟨#[]⟩, .int .i64 0, .int .i64 0] 38))
  (row_newc _ _ _ (by simp)) (fun x hx => by
   obtain rfl := List.mem_singleton.1 hx
   exact ⟨(row_newc w #[.string ⟨#[71, 69, 84]⟩] 9 rfl).alloc _, Nat.le_refl _⟩) (show bulkRt rtL ≤ 1048576 by decide +kernel) (hg.beyond hb0)
 rw [show plA [((((some ⟨w.heap.size, 0, none⟩, 1), [mGet], rtS), zTl) : Ra)] = rtL from rfl, aw_new] at HNW
 have HN := Lib.hid HNW
 have HB0 := Lib.hid hb0
 have HG := Lib.hid hg
 clear HNW hb0 hg
 go_enter Tryz.func11, Tryz.ntmps11
 go_wp2_with fail
 refine HN.out.mono ?_
 rintro e w1 (⟨h, _⟩ | ⟨_, t, rfl, ht, hT, hb⟩)
 ·exact absurd rfl h
 ·have HB1 := Lib.hid (HB0.out.trans (hb.mono HB0.out.size))
  have HT := Lib.hid hT
  have HM1 := Lib.hid (Match_any t false rtL mHead rtP w1 hT (by decide) (HG.out.beyond HB1.out))
  rw [aw_m1] at HM1
  clear hb hT ht HN
  go_wp2_with fail
  refine HM1.out.mono ?_
  rintro e w2 ⟨PA, pc, AA, ac, rfl, hop, hoa, hb2⟩
  dsimp only at hop hoa ⊢
  simp only [List.length_cons, List.length_nil, Nat.zero_add] at hop hoa ⊢
  obtain ⟨gb, rfl, _, hgl⟩ := own_some hop (by decide)
  obtain ⟨b, off, e, _, hcl⟩ := own_row hop (by decide)
  injection e with e
  injection e with e1 e2
  subst e1
  subst e2
  have k1 : w2.cell? ⟨gb, 1, none⟩ = some (.string ⟨#[55]⟩) := by
   have := hcl 1 (.string rt7) rfl
   rwa [Nat.zero_add] at this
  have HB2 := Lib.hid (HB1.out.trans (hb2.mono HB1.out.size))
  have HBX := Lib.hid (HB2.out.alloc HB2.out.size (.cells #[.int .i64 1, .int .i64 0, .string rtS, .slice (some ⟨gb, 0, none⟩) 1 pc, .slice AA 0 ac, .string ⟨#[]⟩] 47))
  have HM2 := Lib.hid (Match_any t false rtL rtPut rtP (w2.alloc (.cells #[.int .i64 1, .int .i64 0, .string rtS, .slice (some ⟨gb, 0, none⟩) 1 pc, .slice AA 0 ac, .string ⟨#[]⟩] 47)) ((HT.out.below hb2).below ((Below.refl _ _).alloc (Nat.le_refl _) _)) (by decide) (HG.out.beyond HBX.out))
  have hk2 := aw_m2.1
  generalize matchP rtL false rtPut rtP = m2 at *
  obtain ⟨mk, mr, mp, mpar, mal, md⟩ := m2
  dsimp only at hk2
  subst hk2
  clear hcl hop hoa hb2 HM1
  go_wp2_with fail
  refine HM2.out.mono ?_
  rintro e w4 ⟨PA2, pc2, AA2, ac2, rfl, _, _, hb4⟩
  have HB4 := Lib.hid (HBX.out.trans (hb4.mono HBX.out.size))
  clear hb4
  dsimp only
  go_wp2
  go_ret
  exact ⟨rfl, HB4.out⟩
end Go.Proofs.YtiohmnhbmmhnhaaGreatDoor
