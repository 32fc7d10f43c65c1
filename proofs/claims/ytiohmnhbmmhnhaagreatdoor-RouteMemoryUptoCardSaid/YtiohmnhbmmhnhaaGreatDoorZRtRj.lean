/-
 RtRj, without what this claim does not reach.
-/
import Derived.Test.YtiohmnhbmmhnhaaGreatDoorZRtRf
namespace Go.Proofs.YtiohmnhbmmhnhaaGreatDoor
open Go.RowKit Go.Shelf Go.Lib
def otherB (s : ByteArray) : Bool := !decide (bt s (s.size - 1) = 47) || decide (1 < s.size)
set_option maxRecDepth 20000 in
theorem rOther_any (s : ByteArray) (w : World) (h0 : 0 < s.size) (hs : s.size ≤ 4194304) :
  Calls Tryz.prog 55 #[.string s] w fun e w' => e = .returned (.tuple #[.string (otherP s), .bool (otherB s)]) ∧ w = w' := by
 obtain ⟨n, hn⟩ : ∃ n, s.size = n + 1 := ⟨s.size - 1, by omega⟩
 have hsz : (s.size : Int) - 1 = (n : Int) := by omega
 have hnl : n < s.size := by omega
 have hnl2 : (n : Int) < (s.size : Int) := by omega
 have hb : s.size - 1 = n := by omega
 have hbe := bt_eq hnl
 by_cases hc : bt s n = 47
 ·have hq : ((s[n].toNat : Int) != 47) = false := by rw [hbe, hc]; rfl
  have HO := Lib.hid (show otherP s = s.extract 0 n by rw [other_yes ⟨h0, by rw [hb]; exact hc⟩, hb])
  have HB := Lib.hid (show otherB s = decide (1 < s.size) by unfold otherB; rw [hb, decide_eq_true hc]; rfl)
  clear hc hn hb hbe
  go_enter Tryz.func55, Tryz.ntmps55
  go_wp2
  refine bodyPost_ret (results_two rfl _ _ _) rfl ?_
  exact ⟨by rw [HO.out, HB.out, show decide (1 < s.size) = decide ((1 : Int) < (s.size : Int)) from by rw [decide_eq_decide]; omega]; rfl, rfl⟩
 ·have hq : ((s[n].toNat : Int) != 47) = true := by rw [hbe]; exact bne_iff_ne.2 hc
  have HO := Lib.hid (show otherP s = s ++ (⟨#[47]⟩ : ByteArray) by rw [other_no (fun h => hc (by rw [← hb]; exact h.2))])
  have HB := Lib.hid (show otherB s = true by unfold otherB; rw [hb, decide_eq_false hc]; rfl)
  clear hc hn hb hbe
  go_enter Tryz.func55, Tryz.ntmps55
  go_wp2
  refine bodyPost_ret (results_two rfl _ _ _) rfl ?_
  exact ⟨by rw [HO.out, HB.out]; rfl, rfl⟩
theorem fit_path {path p : ByteArray} (h : fitT path p = true) : isPathB path = true := by
 unfold fitT at h
 rw [← ref_fits] at h
 unfold refFits at h
 by_cases hc : (splitP p).2.2 = true ∧ isPathB path = true
 ·exact hc.2
 ·rw [if_neg hc] at h
  cases h
theorem pat_nopath {l : List Rt} {path : ByteArray} (h : isPathB path = false) : patR l path = none := by
 cases hp : patR l path with
 | none => rfl
 | some p =>
  have := fit_path (pat_some hp).2
  rw [h] at this
  cases this
theorem match_nopath {l : List Rt} {sl : Bool} {m path : ByteArray} (h : isPathB path = false) : matchP l sl m path = mNone := by
 unfold matchP
 rw [pat_nopath h]
 exact matchF_no fun hc => by
  have h1 := hc.1
  rw [segR_no h] at h1
  exact absurd h1 (by decide)
theorem path_pos {path : ByteArray} (h : isPathB path = true) : 0 < path.size := by
 unfold isPathB at h
 rw [Bool.and_eq_true] at h
 exact of_decide_eq_true h.1
theorem other_none {l : List Rt} {path : ByteArray} (h0 : 0 < path.size) (h : otherB path = false) : patR l (otherP path) = none := by
 refine pat_nopath ?_
 unfold otherB at h
 rw [Bool.or_eq_false_iff] at h
 have h1 : bt path (path.size - 1) = 47 := by simpa using h.1
 have h2 : ¬ 1 < path.size := of_decide_eq_false h.2
 cases hp : isPathB (otherP path)
 ·rfl
 ·have h3 := path_pos hp
  rw [other_yes ⟨h0, h1⟩, ByteArray.size_extract] at h3
  omega
def GivesRm (w : World) (m : Mt) (e : Ending) (w' : World) : Prop :=
 ∃ PA pc AA ac, e = .returned (.agg #[.int .i64 m.kind, .int .i64 m.route, .string m.pat, .slice PA m.par.length pc, .slice AA m.allow.length ac, .string m.dest]) ∧ Row w' PA (flat3 m.par) ∧ w'.ownsRow w.heap.size 9 1 (.slice AA m.allow.length ac) m.allow.length (m.allow.map .string) ∧ Below w.heap.size w w'
theorem gives_rm_none {w w' : World} {m : Mt} (h : m = mNone) (hb : Below w.heap.size w w') : GivesRm w m (.returned (.agg #[.int .i64 0, .int .i64 (-1), .string ⟨#[]⟩, .slice none 0 0, .slice none 0 0, .string ⟨#[]⟩])) w' := by
 subst h
 exact ⟨none, 0, none, 0, rfl, Row.nil _ _, World.ownsRow_nil _ _ _ _, hb⟩
theorem gives_rm_near {w w' : World} {m : Mt} {d : ByteArray} (h : m = ⟨4, -1, ⟨#[]⟩, [], [], d⟩) (hb : Below w.heap.size w w') : GivesRm w m (.returned (.agg #[.int .i64 4, .int .i64 (-1), .string ⟨#[]⟩, .slice none 0 0, .slice none 0 0, .string d])) w' := by
 subst h
 exact ⟨none, 0, none, 0, rfl, Row.nil _ _, World.ownsRow_nil _ _ _ _, hb⟩
theorem put6_row {W : World} {n : Nat} {a b c d e f : Value} {PA : Option Addr} {xs : List Value} (h : Row W PA xs) (hne : ∀ g off, PA = some ⟨g, off, none⟩ → 0 < xs.length → n ≠ g) : Row (put6 W n a b c d e f) PA xs := fun hl => by
 obtain ⟨g, off, e1, hlt, hc⟩ := h hl
 have hg := hne g off e1 hl
 refine ⟨g, off, e1, by simp [put6, World.setCell]; exact hlt, fun j v hv => ?_⟩
 unfold put6
 rw [World.cell?_setCell_far _ _ _ _ hg, World.cell?_setCell_far _ _ _ _ hg, World.cell?_setCell_far _ _ _ _ hg, World.cell?_setCell_far _ _ _ _ hg, World.cell?_setCell_far _ _ _ _ hg, World.cell?_setCell_far _ _ _ _ hg]
 exact hc j v hv
theorem trip_ne {W : World} {PA : Option Addr} {ps : List Prm} {n : Nat} {T : TypeId} {i0 i1 : Int} {s2 s5 : ByteArray} {A3 A4 : Option Addr} {n3 c3 n4 c4 : Nat} (h : Row W PA (flat3 ps)) (hN : Blk W n T #[.int .i64 i0, .int .i64 i1, .string s2, .slice A3 n3 c3, .slice A4 n4 c4, .string s5]) :
  ∀ g off, PA = some ⟨g, off, none⟩ → 0 < (flat3 ps).length → n ≠ g := by
 intro g off e hl hng
 subst hng
 cases ps with
 | nil => exact absurd hl (by simp [flat3])
 | cons q ps =>
  obtain ⟨x, y, z⟩ := q
  obtain ⟨b', off', e', _, hc⟩ := h hl
  rw [e] at e'
  injection e' with e'
  injection e' with e1 e2
  subst e1
  subst e2
  have h0 := hc 0 (.string x) rfl
  have h1 := hc 1 (.string y) rfl
  rw [hN.cell] at h0 h1
  match off with
  | 0 => simp at h0
  | 1 => simp at h0
  | 2 => simp at h1
  | 3 => simp at h0
  | 4 => simp at h0
  | 5 => simp at h1
  | k + 6 => simp at h0
theorem gives_rm_found {w w' : World} {m : Mt} {z : Int} {p : ByteArray} {ps : List Prm} {PA : Option Addr} {pc : Nat} (h : m = ⟨1, z, p, ps, [], ⟨#[]⟩⟩) (hr : Row w' PA (flat3 ps)) (hb : Below w.heap.size w w') : GivesRm w m (.returned (.agg #[.int .i64 1, .int .i64 z, .string p, .slice PA ps.length pc, .slice none 0 0, .string ⟨#[]⟩])) w' := by
 subst h
 exact ⟨PA, pc, none, 0, rfl, hr, World.ownsRow_nil _ _ _ _, hb⟩
theorem gives_rm_allow {w w' : World} {m : Mt} {k z : Int} {p : ByteArray} {ps : List Prm} {al : List ByteArray} {PA AA : Option Addr} {pc ac : Nat} (h : m = ⟨k, z, p, ps, al, ⟨#[]⟩⟩) (hr : Row w' PA (flat3 ps)) (ha : w'.ownsRow w.heap.size 9 1 (.slice AA al.length ac) al.length (al.map .string)) (hb : Below w.heap.size w w') : GivesRm w m (.returned (.agg #[.int .i64 k, .int .i64 z, .string p, .slice PA ps.length pc, .slice AA al.length ac, .string ⟨#[]⟩])) w' := by
 subst h
 exact ⟨PA, pc, AA, ac, rfl, hr, ha, hb⟩
set_option maxRecDepth 100000 in
set_option maxHeartbeats 4000000 in
theorem rFind_any (A : Option Addr) (c : Nat) (ls : List Rv) (sl : Bool) (m path : ByteArray) (w : World) (hr : Row w A (flatR ls)) (hm : MOk w ls) (hk : bulkRt (plR ls) ≤ 1048576) (hp : path.size ≤ 4194303) :
  Calls Tryz.prog 22 #[.slice A ls.length c, .bool sl, .string m, .string path] w (GivesRm w (matchP (plR ls) sl m path)) := by
 have HB0 : Hid (Below w.heap.size w (w.alloc (.cells #[.int .i64 0, .int .i64 0, .string ⟨#[]⟩, .slice none 0 0, .slice none 0 0, .string ⟨#[]⟩] 59))) := Lib.hid ((Below.refl _ w).alloc (Nat.le_refl _) _)
 have HN0 : Hid (Blk (w.alloc (.cells #[.int .i64 0, .int .i64 0, .string ⟨#[]⟩, .slice none 0 0, .slice none 0 0, .string ⟨#[]⟩] 59)) w.heap.size 59 #[.int .i64 0, .int .i64 0, .string ⟨#[]⟩, .slice none 0 0, .slice none 0 0, .string ⟨#[]⟩]) := Lib.hid (Blk.new w _ _)
 have HIP := Lib.hid (rIsPath_any path (w.alloc (.cells #[.int .i64 0, .int .i64 0, .string ⟨#[]⟩, .slice none 0 0, .slice none 0 0, .string ⟨#[]⟩] 59)) (by omega))
 have HR := Lib.hid (fun (W : World) (h : Below w.heap.size w W) => hr.below h)
 have HM := Lib.hid (fun (W : World) (h : Below w.heap.size w W) => hm.below h)
 have HK := Lib.hid hk
 clear hr hm hk
 cases hip : isPathB path
 ·have HE := Lib.hid (match_nopath (l := plR ls) (sl := sl) (m := m) hip)
  rw [hip] at HIP
  clear hip
  go_enter Tryz.func22, Tryz.ntmps22
  go_wp2_with fail
  generalize (w.alloc (.cells #[.int .i64 0, .int .i64 0, .string ⟨#[]⟩, .slice none 0 0, .slice none 0 0, .string ⟨#[]⟩] 59)) = w0 at *
  refine HIP.out.mono ?_
  rintro e w1 ⟨rfl, rfl⟩
  have hlt0 := HN0.out.lt
  have x0 : w0.cell? ⟨w.heap.size, 0, none⟩ = some (.int .i64 0) := HN0.out.cell 0
  have z0 : w0.frozen? ⟨w.heap.size, 0, none⟩ = false := HN0.out.frozen 0
  have x1 : w0.cell? ⟨w.heap.size, 1, none⟩ = some (.int .i64 0) := HN0.out.cell 1
  have z1 : w0.frozen? ⟨w.heap.size, 1, none⟩ = false := HN0.out.frozen 1
  have x2 : w0.cell? ⟨w.heap.size, 2, none⟩ = some (.string ⟨#[]⟩) := HN0.out.cell 2
  have z2 : w0.frozen? ⟨w.heap.size, 2, none⟩ = false := HN0.out.frozen 2
  have x3 : w0.cell? ⟨w.heap.size, 3, none⟩ = some (.slice none 0 0) := HN0.out.cell 3
  have z3 : w0.frozen? ⟨w.heap.size, 3, none⟩ = false := HN0.out.frozen 3
  have x4 : w0.cell? ⟨w.heap.size, 4, none⟩ = some (.slice none 0 0) := HN0.out.cell 4
  have z4 : w0.frozen? ⟨w.heap.size, 4, none⟩ = false := HN0.out.frozen 4
  have x5 : w0.cell? ⟨w.heap.size, 5, none⟩ = some (.string ⟨#[]⟩) := HN0.out.cell 5
  have z5 : w0.frozen? ⟨w.heap.size, 5, none⟩ = false := HN0.out.frozen 5
  have NF := put6_blk (.int .i64 0) (.int .i64 (-1)) (.string ⟨#[]⟩) (.slice none 0 0) (.slice none 0 0) (.string ⟨#[]⟩) HN0.out
  have BF := put6_below (.int .i64 0) (.int .i64 (-1)) (.string ⟨#[]⟩) (.slice none 0 0) (.slice none 0 0) (.string ⟨#[]⟩) (HB0.out) (Nat.le_refl w.heap.size)
  have c0 : (put6 w0 w.heap.size (.int .i64 0) (.int .i64 (-1)) (.string ⟨#[]⟩) (.slice none 0 0) (.slice none 0 0) (.string ⟨#[]⟩)).cell? ⟨w.heap.size, 0, none⟩ = some (.int .i64 0) := NF.cell 0
  have c1 : (put6 w0 w.heap.size (.int .i64 0) (.int .i64 (-1)) (.string ⟨#[]⟩) (.slice none 0 0) (.slice none 0 0) (.string ⟨#[]⟩)).cell? ⟨w.heap.size, 1, none⟩ = some (.int .i64 (-1)) := NF.cell 1
  have c2 : (put6 w0 w.heap.size (.int .i64 0) (.int .i64 (-1)) (.string ⟨#[]⟩) (.slice none 0 0) (.slice none 0 0) (.string ⟨#[]⟩)).cell? ⟨w.heap.size, 2, none⟩ = some (.string ⟨#[]⟩) := NF.cell 2
  have c3 : (put6 w0 w.heap.size (.int .i64 0) (.int .i64 (-1)) (.string ⟨#[]⟩) (.slice none 0 0) (.slice none 0 0) (.string ⟨#[]⟩)).cell? ⟨w.heap.size, 3, none⟩ = some (.slice none 0 0) := NF.cell 3
  have c4 : (put6 w0 w.heap.size (.int .i64 0) (.int .i64 (-1)) (.string ⟨#[]⟩) (.slice none 0 0) (.slice none 0 0) (.string ⟨#[]⟩)).cell? ⟨w.heap.size, 4, none⟩ = some (.slice none 0 0) := NF.cell 4
  have c5 : (put6 w0 w.heap.size (.int .i64 0) (.int .i64 (-1)) (.string ⟨#[]⟩) (.slice none 0 0) (.slice none 0 0) (.string ⟨#[]⟩)).cell? ⟨w.heap.size, 5, none⟩ = some (.string ⟨#[]⟩) := NF.cell 5
  go_wp2
  show bodyPost _ _ _ _ _ (put6 w0 w.heap.size (.int .i64 0) (.int .i64 (-1)) (.string ⟨#[]⟩) (.slice none 0 0) (.slice none 0 0) (.string ⟨#[]⟩))
  generalize (put6 w0 w.heap.size (.int .i64 0) (.int .i64 (-1)) (.string ⟨#[]⟩) (.slice none 0 0) (.slice none 0 0) (.string ⟨#[]⟩)) = wz at *
  exact bodyPost_ret (v := .agg #[.int .i64 0, .int .i64 (-1), .string ⟨#[]⟩, .slice none 0 0, .slice none 0 0, .string ⟨#[]⟩]) (by simp [results, Tryz.results22, go_sem, c0, c1, c2, c3, c4, c5]) rfl (gives_rm_none HE.out BF)
 ·have hpos := path_pos hip
  have hseg : (segR path).2 = 0 := by rw [segR_yes hip]
  rw [hip] at HIP
  clear hip
  go_enter Tryz.func22, Tryz.ntmps22
  go_wp2_with fail
  generalize (w.alloc (.cells #[.int .i64 0, .int .i64 0, .string ⟨#[]⟩, .slice none 0 0, .slice none 0 0, .string ⟨#[]⟩] 59)) = w0 at *
  refine HIP.out.mono ?_
  rintro e w1 ⟨rfl, rfl⟩
  have HPA := Lib.hid (rPattern_any A c ls path w0 (HR.out w0 HB0.out) HK.out (by omega))
  go_wp2_with fail
  refine HPA.out.mono ?_
  rintro e w1 ⟨rfl, hb1⟩
  have HB1 := Lib.hid (HB0.out.trans (hb1.mono HB0.out.size))
  have HN1 := Lib.hid (HN0.out.below hb1 HN0.out.lt)
  have HMP := Lib.hid (show matchP (plR ls) sl m path = matchF (plR ls) sl m path (patR (plR ls) path) from rfl)
  clear hb1 HPA HIP HN0
  cases hpt : patR (plR ls) path with
  | none =>
   rw [hpt] at HMP
   clear hpt
   simp only [patV, Option.getD_none, Option.isSome_none]
   have HOT := Lib.hid (rOther_any path w1 hpos (by omega))
   go_wp2_with fail
   refine HOT.out.mono ?_
   rintro e w2 ⟨rfl, rfl⟩
   have hlt1 := HN1.out.lt
   have x0 : w1.cell? ⟨w.heap.size, 0, none⟩ = some (.int .i64 0) := HN1.out.cell 0
   have z0 : w1.frozen? ⟨w.heap.size, 0, none⟩ = false := HN1.out.frozen 0
   have x1 : w1.cell? ⟨w.heap.size, 1, none⟩ = some (.int .i64 0) := HN1.out.cell 1
   have z1 : w1.frozen? ⟨w.heap.size, 1, none⟩ = false := HN1.out.frozen 1
   have x2 : w1.cell? ⟨w.heap.size, 2, none⟩ = some (.string ⟨#[]⟩) := HN1.out.cell 2
   have z2 : w1.frozen? ⟨w.heap.size, 2, none⟩ = false := HN1.out.frozen 2
   have x3 : w1.cell? ⟨w.heap.size, 3, none⟩ = some (.slice none 0 0) := HN1.out.cell 3
   have z3 : w1.frozen? ⟨w.heap.size, 3, none⟩ = false := HN1.out.frozen 3
   have x4 : w1.cell? ⟨w.heap.size, 4, none⟩ = some (.slice none 0 0) := HN1.out.cell 4
   have z4 : w1.frozen? ⟨w.heap.size, 4, none⟩ = false := HN1.out.frozen 4
   have x5 : w1.cell? ⟨w.heap.size, 5, none⟩ = some (.string ⟨#[]⟩) := HN1.out.cell 5
   have z5 : w1.frozen? ⟨w.heap.size, 5, none⟩ = false := HN1.out.frozen 5
   cases sl
   ·have HE := Lib.hid (HMP.out.trans (matchF_no fun hc => by cases hc.2))
    have NF := put6_blk (.int .i64 0) (.int .i64 (-1)) (.string ⟨#[]⟩) (.slice none 0 0) (.slice none 0 0) (.string ⟨#[]⟩) HN1.out
    have BF := put6_below (.int .i64 0) (.int .i64 (-1)) (.string ⟨#[]⟩) (.slice none 0 0) (.slice none 0 0) (.string ⟨#[]⟩) (HB1.out) (Nat.le_refl w.heap.size)
    have c0 : (put6 w1 w.heap.size (.int .i64 0) (.int .i64 (-1)) (.string ⟨#[]⟩) (.slice none 0 0) (.slice none 0 0) (.string ⟨#[]⟩)).cell? ⟨w.heap.size, 0, none⟩ = some (.int .i64 0) := NF.cell 0
    have c1 : (put6 w1 w.heap.size (.int .i64 0) (.int .i64 (-1)) (.string ⟨#[]⟩) (.slice none 0 0) (.slice none 0 0) (.string ⟨#[]⟩)).cell? ⟨w.heap.size, 1, none⟩ = some (.int .i64 (-1)) := NF.cell 1
    have c2 : (put6 w1 w.heap.size (.int .i64 0) (.int .i64 (-1)) (.string ⟨#[]⟩) (.slice none 0 0) (.slice none 0 0) (.string ⟨#[]⟩)).cell? ⟨w.heap.size, 2, none⟩ = some (.string ⟨#[]⟩) := NF.cell 2
    have c3 : (put6 w1 w.heap.size (.int .i64 0) (.int .i64 (-1)) (.string ⟨#[]⟩) (.slice none 0 0) (.slice none 0 0) (.string ⟨#[]⟩)).cell? ⟨w.heap.size, 3, none⟩ = some (.slice none 0 0) := NF.cell 3
    have c4 : (put6 w1 w.heap.size (.int .i64 0) (.int .i64 (-1)) (.string ⟨#[]⟩) (.slice none 0 0) (.slice none 0 0) (.string ⟨#[]⟩)).cell? ⟨w.heap.size, 4, none⟩ = some (.slice none 0 0) := NF.cell 4
    have c5 : (put6 w1 w.heap.size (.int .i64 0) (.int .i64 (-1)) (.string ⟨#[]⟩) (.slice none 0 0) (.slice none 0 0) (.string ⟨#[]⟩)).cell? ⟨w.heap.size, 5, none⟩ = some (.string ⟨#[]⟩) := NF.cell 5
    go_wp2
    show bodyPost _ _ _ _ _ (put6 w1 w.heap.size (.int .i64 0) (.int .i64 (-1)) (.string ⟨#[]⟩) (.slice none 0 0) (.slice none 0 0) (.string ⟨#[]⟩))
    generalize (put6 w1 w.heap.size (.int .i64 0) (.int .i64 (-1)) (.string ⟨#[]⟩) (.slice none 0 0) (.slice none 0 0) (.string ⟨#[]⟩)) = wz at *
    exact bodyPost_ret (v := .agg #[.int .i64 0, .int .i64 (-1), .string ⟨#[]⟩, .slice none 0 0, .slice none 0 0, .string ⟨#[]⟩]) (by simp [results, Tryz.results22, go_sem, c0, c1, c2, c3, c4, c5]) rfl (gives_rm_none HE.out BF)
   ·cases hob : otherB path
    ·have HE := Lib.hid (show matchP (plR ls) true m path = mNone by rw [HMP.out, matchF_near ⟨hseg, rfl⟩, other_none hpos hob])
     clear hob
     have NF := put6_blk (.int .i64 0) (.int .i64 (-1)) (.string ⟨#[]⟩) (.slice none 0 0) (.slice none 0 0) (.string ⟨#[]⟩) HN1.out
     have BF := put6_below (.int .i64 0) (.int .i64 (-1)) (.string ⟨#[]⟩) (.slice none 0 0) (.slice none 0 0) (.string ⟨#[]⟩) (HB1.out) (Nat.le_refl w.heap.size)
     have c0 : (put6 w1 w.heap.size (.int .i64 0) (.int .i64 (-1)) (.string ⟨#[]⟩) (.slice none 0 0) (.slice none 0 0) (.string ⟨#[]⟩)).cell? ⟨w.heap.size, 0, none⟩ = some (.int .i64 0) := NF.cell 0
     have c1 : (put6 w1 w.heap.size (.int .i64 0) (.int .i64 (-1)) (.string ⟨#[]⟩) (.slice none 0 0) (.slice none 0 0) (.string ⟨#[]⟩)).cell? ⟨w.heap.size, 1, none⟩ = some (.int .i64 (-1)) := NF.cell 1
     have c2 : (put6 w1 w.heap.size (.int .i64 0) (.int .i64 (-1)) (.string ⟨#[]⟩) (.slice none 0 0) (.slice none 0 0) (.string ⟨#[]⟩)).cell? ⟨w.heap.size, 2, none⟩ = some (.string ⟨#[]⟩) := NF.cell 2
     have c3 : (put6 w1 w.heap.size (.int .i64 0) (.int .i64 (-1)) (.string ⟨#[]⟩) (.slice none 0 0) (.slice none 0 0) (.string ⟨#[]⟩)).cell? ⟨w.heap.size, 3, none⟩ = some (.slice none 0 0) := NF.cell 3
     have c4 : (put6 w1 w.heap.size (.int .i64 0) (.int .i64 (-1)) (.string ⟨#[]⟩) (.slice none 0 0) (.slice none 0 0) (.string ⟨#[]⟩)).cell? ⟨w.heap.size, 4, none⟩ = some (.slice none 0 0) := NF.cell 4
     have c5 : (put6 w1 w.heap.size (.int .i64 0) (.int .i64 (-1)) (.string ⟨#[]⟩) (.slice none 0 0) (.slice none 0 0) (.string ⟨#[]⟩)).cell? ⟨w.heap.size, 5, none⟩ = some (.string ⟨#[]⟩) := NF.cell 5
     go_wp2
     show bodyPost _ _ _ _ _ (put6 w1 w.heap.size (.int .i64 0) (.int .i64 (-1)) (.string ⟨#[]⟩) (.slice none 0 0) (.slice none 0 0) (.string ⟨#[]⟩))
     generalize (put6 w1 w.heap.size (.int .i64 0) (.int .i64 (-1)) (.string ⟨#[]⟩) (.slice none 0 0) (.slice none 0 0) (.string ⟨#[]⟩)) = wz at *
     exact bodyPost_ret (v := .agg #[.int .i64 0, .int .i64 (-1), .string ⟨#[]⟩, .slice none 0 0, .slice none 0 0, .string ⟨#[]⟩]) (by simp [results, Tryz.results22, go_sem, c0, c1, c2, c3, c4, c5]) rfl (gives_rm_none HE.out BF)
    ·have HPB := Lib.hid (rPattern_any A c ls (otherP path) w1 (HR.out w1 HB1.out) HK.out (by have := otherP_size path; omega))
     have HNE := Lib.hid (show matchP (plR ls) true m path = _ from HMP.out.trans (matchF_near ⟨hseg, rfl⟩))
     clear hob x0 x1 x2 x3 x4 x5 z0 z1 z2 z3 z4 z5
     go_wp2_with fail
     refine HPB.out.mono ?_
     rintro e w3 ⟨rfl, hb3⟩
     have HB3 := Lib.hid (HB1.out.trans (hb3.mono HB1.out.size))
     have HN3 := Lib.hid (HN1.out.below hb3 HN1.out.lt)
     have hlt3 := HN3.out.lt
     clear hb3 HPB
     have x0 : w3.cell? ⟨w.heap.size, 0, none⟩ = some (.int .i64 0) := HN3.out.cell 0
     have z0 : w3.frozen? ⟨w.heap.size, 0, none⟩ = false := HN3.out.frozen 0
     have x1 : w3.cell? ⟨w.heap.size, 1, none⟩ = some (.int .i64 0) := HN3.out.cell 1
     have z1 : w3.frozen? ⟨w.heap.size, 1, none⟩ = false := HN3.out.frozen 1
     have x2 : w3.cell? ⟨w.heap.size, 2, none⟩ = some (.string ⟨#[]⟩) := HN3.out.cell 2
     have z2 : w3.frozen? ⟨w.heap.size, 2, none⟩ = false := HN3.out.frozen 2
     have x3 : w3.cell? ⟨w.heap.size, 3, none⟩ = some (.slice none 0 0) := HN3.out.cell 3
     have z3 : w3.frozen? ⟨w.heap.size, 3, none⟩ = false := HN3.out.frozen 3
     have x4 : w3.cell? ⟨w.heap.size, 4, none⟩ = some (.slice none 0 0) := HN3.out.cell 4
     have z4 : w3.frozen? ⟨w.heap.size, 4, none⟩ = false := HN3.out.frozen 4
     have x5 : w3.cell? ⟨w.heap.size, 5, none⟩ = some (.string ⟨#[]⟩) := HN3.out.cell 5
     have z5 : w3.frozen? ⟨w.heap.size, 5, none⟩ = false := HN3.out.frozen 5
     cases hpo : patR (plR ls) (otherP path) with
     | none =>
      rw [hpo] at HNE
      have HE := Lib.hid (show matchP (plR ls) true m path = mNone from HNE.out)
      clear hpo
      simp only [patV, Option.getD_none, Option.isSome_none]
      have NF := put6_blk (.int .i64 0) (.int .i64 (-1)) (.string ⟨#[]⟩) (.slice none 0 0) (.slice none 0 0) (.string ⟨#[]⟩) HN3.out
      have BF := put6_below (.int .i64 0) (.int .i64 (-1)) (.string ⟨#[]⟩) (.slice none 0 0) (.slice none 0 0) (.string ⟨#[]⟩) (HB3.out) (Nat.le_refl w.heap.size)
      have c0 : (put6 w3 w.heap.size (.int .i64 0) (.int .i64 (-1)) (.string ⟨#[]⟩) (.slice none 0 0) (.slice none 0 0) (.string ⟨#[]⟩)).cell? ⟨w.heap.size, 0, none⟩ = some (.int .i64 0) := NF.cell 0
      have c1 : (put6 w3 w.heap.size (.int .i64 0) (.int .i64 (-1)) (.string ⟨#[]⟩) (.slice none 0 0) (.slice none 0 0) (.string ⟨#[]⟩)).cell? ⟨w.heap.size, 1, none⟩ = some (.int .i64 (-1)) := NF.cell 1
      have c2 : (put6 w3 w.heap.size (.int .i64 0) (.int .i64 (-1)) (.string ⟨#[]⟩) (.slice none 0 0) (.slice none 0 0) (.string ⟨#[]⟩)).cell? ⟨w.heap.size, 2, none⟩ = some (.string ⟨#[]⟩) := NF.cell 2
      have c3 : (put6 w3 w.heap.size (.int .i64 0) (.int .i64 (-1)) (.string ⟨#[]⟩) (.slice none 0 0) (.slice none 0 0) (.string ⟨#[]⟩)).cell? ⟨w.heap.size, 3, none⟩ = some (.slice none 0 0) := NF.cell 3
      have c4 : (put6 w3 w.heap.size (.int .i64 0) (.int .i64 (-1)) (.string ⟨#[]⟩) (.slice none 0 0) (.slice none 0 0) (.string ⟨#[]⟩)).cell? ⟨w.heap.size, 4, none⟩ = some (.slice none 0 0) := NF.cell 4
      have c5 : (put6 w3 w.heap.size (.int .i64 0) (.int .i64 (-1)) (.string ⟨#[]⟩) (.slice none 0 0) (.slice none 0 0) (.string ⟨#[]⟩)).cell? ⟨w.heap.size, 5, none⟩ = some (.string ⟨#[]⟩) := NF.cell 5
      go_wp2
      show bodyPost _ _ _ _ _ (put6 w3 w.heap.size (.int .i64 0) (.int .i64 (-1)) (.string ⟨#[]⟩) (.slice none 0 0) (.slice none 0 0) (.string ⟨#[]⟩))
      generalize (put6 w3 w.heap.size (.int .i64 0) (.int .i64 (-1)) (.string ⟨#[]⟩) (.slice none 0 0) (.slice none 0 0) (.string ⟨#[]⟩)) = wz at *
      exact bodyPost_ret (v := .agg #[.int .i64 0, .int .i64 (-1), .string ⟨#[]⟩, .slice none 0 0, .slice none 0 0, .string ⟨#[]⟩]) (by simp [results, Tryz.results22, go_sem, c0, c1, c2, c3, c4, c5]) rfl (gives_rm_none HE.out BF)
     | some q =>
      rw [hpo] at HNE
      have HE := Lib.hid (show matchP (plR ls) true m path = ⟨4, -1, ⟨#[]⟩, [], [], otherP path⟩ from HNE.out)
      clear hpo
      simp only [patV, Option.getD_some, Option.isSome_some]
      have NF := put6_blk (.int .i64 4) (.int .i64 (-1)) (.string ⟨#[]⟩) (.slice none 0 0) (.slice none 0 0) (.string (otherP path)) HN3.out
      have BF := put6_below (.int .i64 4) (.int .i64 (-1)) (.string ⟨#[]⟩) (.slice none 0 0) (.slice none 0 0) (.string (otherP path)) (HB3.out) (Nat.le_refl w.heap.size)
      have c0 : (put6 w3 w.heap.size (.int .i64 4) (.int .i64 (-1)) (.string ⟨#[]⟩) (.slice none 0 0) (.slice none 0 0) (.string (otherP path))).cell? ⟨w.heap.size, 0, none⟩ = some (.int .i64 4) := NF.cell 0
      have c1 : (put6 w3 w.heap.size (.int .i64 4) (.int .i64 (-1)) (.string ⟨#[]⟩) (.slice none 0 0) (.slice none 0 0) (.string (otherP path))).cell? ⟨w.heap.size, 1, none⟩ = some (.int .i64 (-1)) := NF.cell 1
      have c2 : (put6 w3 w.heap.size (.int .i64 4) (.int .i64 (-1)) (.string ⟨#[]⟩) (.slice none 0 0) (.slice none 0 0) (.string (otherP path))).cell? ⟨w.heap.size, 2, none⟩ = some (.string ⟨#[]⟩) := NF.cell 2
      have c3 : (put6 w3 w.heap.size (.int .i64 4) (.int .i64 (-1)) (.string ⟨#[]⟩) (.slice none 0 0) (.slice none 0 0) (.string (otherP path))).cell? ⟨w.heap.size, 3, none⟩ = some (.slice none 0 0) := NF.cell 3
      have c4 : (put6 w3 w.heap.size (.int .i64 4) (.int .i64 (-1)) (.string ⟨#[]⟩) (.slice none 0 0) (.slice none 0 0) (.string (otherP path))).cell? ⟨w.heap.size, 4, none⟩ = some (.slice none 0 0) := NF.cell 4
      have c5 : (put6 w3 w.heap.size (.int .i64 4) (.int .i64 (-1)) (.string ⟨#[]⟩) (.slice none 0 0) (.slice none 0 0) (.string (otherP path))).cell? ⟨w.heap.size, 5, none⟩ = some (.string (otherP path)) := NF.cell 5
      go_wp2
      show bodyPost _ _ _ _ _ (put6 w3 w.heap.size (.int .i64 4) (.int .i64 (-1)) (.string ⟨#[]⟩) (.slice none 0 0) (.slice none 0 0) (.string (otherP path)))
      generalize (put6 w3 w.heap.size (.int .i64 4) (.int .i64 (-1)) (.string ⟨#[]⟩) (.slice none 0 0) (.slice none 0 0) (.string (otherP path))) = wz at *
      exact bodyPost_ret (v := .agg #[.int .i64 4, .int .i64 (-1), .string ⟨#[]⟩, .slice none 0 0, .slice none 0 0, .string (otherP path)]) (by simp [results, Tryz.results22, go_sem, c0, c1, c2, c3, c4, c5]) rfl (gives_rm_near HE.out BF)
  | some p =>
   rw [hpt] at HMP
   obtain ⟨hp1, _⟩ := pat_some hpt
   have hps : p.size ≤ 1048576 := by
    obtain ⟨r, hr, rfl⟩ := List.mem_map.1 hp1
    exact (slim_mem HK.out hr).pat
   have HFT := Lib.hid (by have := rFits_any p path w1 (by omega) (by omega); rw [ref_fits] at this; exact this)
   have HAR := Lib.hid (show allowR (plR ls) path = some (allowOf (plR ls) (fun r : Rt => decide (r.2 = p))) by unfold allowR; rw [hpt]; rfl)
   clear hpt hp1
   simp only [patV, Option.getD_some, Option.isSome_some]
   go_wp2_with fail
   refine HFT.out.mono ?_
   rintro e w2 ⟨PA, pc, rfl, hrow, hb2⟩
   have hfv : (fitVal (fitsP p path)).1 = parP p path := rfl
   rw [hfv] at hrow ⊢
   have HB2 := Lib.hid (HB1.out.trans (hb2.mono HB1.out.size))
   have HN2 := Lib.hid (HN1.out.below hb2 HN1.out.lt)
   have HSV := Lib.hid (serving_any A c ls p m w2 (HR.out w2 HB2.out) (HM.out w2 HB2.out) HK.out)
   have HRP := Lib.hid (fun (W : World) (h : Below w2.heap.size w2 W) => hrow.below h)
   have HFD := Lib.hid (show foundP (plR ls) (plc p (plR ls)) m = servingR (plR ls) p m from serving_same _ _ _)
   clear hb2 hrow HFT hfv
   generalize servingR (plR ls) p m = zs at *
   obtain ⟨ps, hps2⟩ : ∃ ps, parP p path = ps := ⟨_, rfl⟩
   have HPS := Lib.hid hps2
   rw [hps2] at HRP ⊢
   clear hps2
   go_wp2_with fail
   refine HSV.out.mono ?_
   rintro e w3 ⟨rfl, hb3⟩
   have HB3 := Lib.hid (HB2.out.trans (hb3.mono HB2.out.size))
   have HN3 := Lib.hid (HN2.out.below hb3 HN2.out.lt)
   have HRP3 := Lib.hid (fun (W : World) (h : Below w3.heap.size w3 W) => HRP.out W (hb3.trans (h.mono hb3.size)))
   have hlt3 := HN3.out.lt
   clear hb3 HSV HRP
   by_cases hz : 0 ≤ zs
   ·have HE := Lib.hid (HMP.out.trans (matchF_found (by rw [HFD.out]; exact hz)))
    have x0 : w3.cell? ⟨w.heap.size, 0, none⟩ = some (.int .i64 0) := HN3.out.cell 0
    have z0 : w3.frozen? ⟨w.heap.size, 0, none⟩ = false := HN3.out.frozen 0
    have x1 : w3.cell? ⟨w.heap.size, 1, none⟩ = some (.int .i64 0) := HN3.out.cell 1
    have z1 : w3.frozen? ⟨w.heap.size, 1, none⟩ = false := HN3.out.frozen 1
    have x2 : w3.cell? ⟨w.heap.size, 2, none⟩ = some (.string ⟨#[]⟩) := HN3.out.cell 2
    have z2 : w3.frozen? ⟨w.heap.size, 2, none⟩ = false := HN3.out.frozen 2
    have x3 : w3.cell? ⟨w.heap.size, 3, none⟩ = some (.slice none 0 0) := HN3.out.cell 3
    have z3 : w3.frozen? ⟨w.heap.size, 3, none⟩ = false := HN3.out.frozen 3
    have x4 : w3.cell? ⟨w.heap.size, 4, none⟩ = some (.slice none 0 0) := HN3.out.cell 4
    have z4 : w3.frozen? ⟨w.heap.size, 4, none⟩ = false := HN3.out.frozen 4
    have x5 : w3.cell? ⟨w.heap.size, 5, none⟩ = some (.string ⟨#[]⟩) := HN3.out.cell 5
    have z5 : w3.frozen? ⟨w.heap.size, 5, none⟩ = false := HN3.out.frozen 5
    have NF := (put6_blk (.int .i64 1) (.int .i64 zs) (.string p) (.slice PA ps.length pc) (.slice none 0 0) (.string ⟨#[]⟩) HN3.out).alloc (.cells #[.int .i64 1, .int .i64 zs, .string p, .slice PA ps.length pc, .slice none 0 0, .string ⟨#[]⟩] 59)
    have BF := (put6_below (.int .i64 1) (.int .i64 zs) (.string p) (.slice PA ps.length pc) (.slice none 0 0) (.string ⟨#[]⟩) HB3.out (Nat.le_refl w.heap.size)).alloc (put6_below (.int .i64 1) (.int .i64 zs) (.string p) (.slice PA ps.length pc) (.slice none 0 0) (.string ⟨#[]⟩) HB3.out (Nat.le_refl w.heap.size)).size (.cells #[.int .i64 1, .int .i64 zs, .string p, .slice PA ps.length pc, .slice none 0 0, .string ⟨#[]⟩] 59)
    have RF := (put6_row (a := .int .i64 1) (b := .int .i64 zs) (c := .string p) (d := .slice PA ps.length pc) (e := .slice none 0 0) (f := .string ⟨#[]⟩) (HRP3.out w3 (Below.refl _ _)) (trip_ne (HRP3.out w3 (Below.refl _ _)) HN3.out)).alloc (.cells #[.int .i64 1, .int .i64 zs, .string p, .slice PA ps.length pc, .slice none 0 0, .string ⟨#[]⟩] 59)
    have c0 : ((put6 w3 w.heap.size (.int .i64 1) (.int .i64 zs) (.string p) (.slice PA ps.length pc) (.slice none 0 0) (.string ⟨#[]⟩)).alloc (.cells #[.int .i64 1, .int .i64 zs, .string p, .slice PA ps.length pc, .slice none 0 0, .string ⟨#[]⟩] 59)).cell? ⟨w.heap.size, 0, none⟩ = some (.int .i64 1) := NF.cell 0
    have c1 : ((put6 w3 w.heap.size (.int .i64 1) (.int .i64 zs) (.string p) (.slice PA ps.length pc) (.slice none 0 0) (.string ⟨#[]⟩)).alloc (.cells #[.int .i64 1, .int .i64 zs, .string p, .slice PA ps.length pc, .slice none 0 0, .string ⟨#[]⟩] 59)).cell? ⟨w.heap.size, 1, none⟩ = some (.int .i64 zs) := NF.cell 1
    have c2 : ((put6 w3 w.heap.size (.int .i64 1) (.int .i64 zs) (.string p) (.slice PA ps.length pc) (.slice none 0 0) (.string ⟨#[]⟩)).alloc (.cells #[.int .i64 1, .int .i64 zs, .string p, .slice PA ps.length pc, .slice none 0 0, .string ⟨#[]⟩] 59)).cell? ⟨w.heap.size, 2, none⟩ = some (.string p) := NF.cell 2
    have c3 : ((put6 w3 w.heap.size (.int .i64 1) (.int .i64 zs) (.string p) (.slice PA ps.length pc) (.slice none 0 0) (.string ⟨#[]⟩)).alloc (.cells #[.int .i64 1, .int .i64 zs, .string p, .slice PA ps.length pc, .slice none 0 0, .string ⟨#[]⟩] 59)).cell? ⟨w.heap.size, 3, none⟩ = some (.slice PA ps.length pc) := NF.cell 3
    have c4 : ((put6 w3 w.heap.size (.int .i64 1) (.int .i64 zs) (.string p) (.slice PA ps.length pc) (.slice none 0 0) (.string ⟨#[]⟩)).alloc (.cells #[.int .i64 1, .int .i64 zs, .string p, .slice PA ps.length pc, .slice none 0 0, .string ⟨#[]⟩] 59)).cell? ⟨w.heap.size, 4, none⟩ = some (.slice none 0 0) := NF.cell 4
    have c5 : ((put6 w3 w.heap.size (.int .i64 1) (.int .i64 zs) (.string p) (.slice PA ps.length pc) (.slice none 0 0) (.string ⟨#[]⟩)).alloc (.cells #[.int .i64 1, .int .i64 zs, .string p, .slice PA ps.length pc, .slice none 0 0, .string ⟨#[]⟩] 59)).cell? ⟨w.heap.size, 5, none⟩ = some (.string ⟨#[]⟩) := NF.cell 5
    have hez : foundP (plR ls) (plc p (plR ls)) m = zs := HFD.out
    have HE2 := Lib.hid (show matchP (plR ls) sl m path = ⟨1, zs, p, ps, [], ⟨#[]⟩⟩ by rw [HE.out, hez, HPS.out])
    clear hez
    go_wp2
    show bodyPost _ _ _ _ _ ((put6 w3 w.heap.size (.int .i64 1) (.int .i64 zs) (.string p) (.slice PA ps.length pc) (.slice none 0 0) (.string ⟨#[]⟩)).alloc (.cells #[.int .i64 1, .int .i64 zs, .string p, .slice PA ps.length pc, .slice none 0 0, .string ⟨#[]⟩] 59))
    generalize ((put6 w3 w.heap.size (.int .i64 1) (.int .i64 zs) (.string p) (.slice PA ps.length pc) (.slice none 0 0) (.string ⟨#[]⟩)).alloc (.cells #[.int .i64 1, .int .i64 zs, .string p, .slice PA ps.length pc, .slice none 0 0, .string ⟨#[]⟩] 59)) = wz at *
    exact bodyPost_ret (v := .agg #[.int .i64 1, .int .i64 zs, .string p, .slice PA ps.length pc, .slice none 0 0, .string ⟨#[]⟩]) (by simp [results, Tryz.results22, go_sem, c0, c1, c2, c3, c4, c5]) rfl (gives_rm_found HE2.out RF BF)
   ·have HE := Lib.hid (HMP.out.trans (matchF_allow (by rw [HFD.out]; exact hz)))
    have hzn : ¬ 0 ≤ zs := hz
    have hot := opt_test m
    by_cases hmo : m = mOpt
    ·have hoq : (m.toList == [79, 80, 84, 73, 79, 78, 83]) = true := hot.trans (decide_eq_true hmo)
     have hkk : (if m = mOpt then (3 : Int) else 2) = 3 := if_pos hmo
     clear hot hmo
     have hb5 : Below w3.heap.size w3 (w3.alloc (.cells #[.int .i64 3, .int .i64 zs, .string p, .slice PA ps.length pc, .slice none 0 0, .string ⟨#[]⟩] 59)) := (Below.refl _ _).alloc (Nat.le_refl _) _
     have HB5 := Lib.hid (HB3.out.trans (hb5.mono HB3.out.size))
     have HN5 := Lib.hid (HN3.out.alloc (.cells #[.int .i64 3, .int .i64 zs, .string p, .slice PA ps.length pc, .slice none 0 0, .string ⟨#[]⟩] 59))
     have HM5 : Hid (Blk (w3.alloc (.cells #[.int .i64 3, .int .i64 zs, .string p, .slice PA ps.length pc, .slice none 0 0, .string ⟨#[]⟩] 59)) w3.heap.size 59 #[.int .i64 3, .int .i64 zs, .string p, .slice PA ps.length pc, .slice none 0 0, .string ⟨#[]⟩]) := Lib.hid (Blk.new w3 _ _)
     have HAW := Lib.hid (by have := rAllow_any A c ls path (w3.alloc (.cells #[.int .i64 3, .int .i64 zs, .string p, .slice PA ps.length pc, .slice none 0 0, .string ⟨#[]⟩] 59)) (HR.out _ HB5.out) (HM.out _ HB5.out) HK.out (by omega); rw [HAR.out] at this; exact this)
     have hl17 : w3.heap.size < (w3.alloc (.cells #[.int .i64 3, .int .i64 zs, .string p, .slice PA ps.length pc, .slice none 0 0, .string ⟨#[]⟩] 59)).heap.size := HM5.out.lt
     have hl0 : w.heap.size < (w3.alloc (.cells #[.int .i64 3, .int .i64 zs, .string p, .slice PA ps.length pc, .slice none 0 0, .string ⟨#[]⟩] 59)).heap.size := HN5.out.lt
     go_wp2_with fail
     generalize (w3.alloc (.cells #[.int .i64 3, .int .i64 zs, .string p, .slice PA ps.length pc, .slice none 0 0, .string ⟨#[]⟩] 59)) = w5 at *
     refine HAW.out.mono ?_
     rintro e w6 ⟨AA, ac, rfl, hoa, hb6⟩
     simp only [Option.getD_some, Option.isSome_some] at hoa ⊢
     obtain ⟨al, hal⟩ : ∃ al, allowOf (plR ls) (fun r : Rt => decide (r.2 = p)) = al := ⟨_, rfl⟩
     rw [hal] at hoa ⊢
     have HE2 := Lib.hid (show matchP (plR ls) sl m path = ⟨3, zs, p, ps, al, ⟨#[]⟩⟩ by rw [HE.out, HFD.out, HPS.out, hal, hkk])
     have N6 := HN5.out.below hb6 HN5.out.lt
     have M6 := HM5.out.below hb6 HM5.out.lt
     have b36 : Below w3.heap.size w3 w6 := hb5.trans (hb6.mono hb5.size)
     have B6 := HB3.out.trans (b36.mono HB3.out.size)
     have hne : w.heap.size ≠ w3.heap.size := Nat.ne_of_lt hlt3
     have hs1 := N6.lt
     have hs2 := M6.lt
     have x0 : w6.cell? ⟨w.heap.size, 0, none⟩ = some (.int .i64 0) := N6.cell 0
     have z0 : w6.frozen? ⟨w.heap.size, 0, none⟩ = false := N6.frozen 0
     have y0 : w6.cell? ⟨w3.heap.size, 0, none⟩ = some (.int .i64 3) := M6.cell 0
     have x1 : w6.cell? ⟨w.heap.size, 1, none⟩ = some (.int .i64 0) := N6.cell 1
     have z1 : w6.frozen? ⟨w.heap.size, 1, none⟩ = false := N6.frozen 1
     have y1 : w6.cell? ⟨w3.heap.size, 1, none⟩ = some (.int .i64 zs) := M6.cell 1
     have x2 : w6.cell? ⟨w.heap.size, 2, none⟩ = some (.string ⟨#[]⟩) := N6.cell 2
     have z2 : w6.frozen? ⟨w.heap.size, 2, none⟩ = false := N6.frozen 2
     have y2 : w6.cell? ⟨w3.heap.size, 2, none⟩ = some (.string p) := M6.cell 2
     have x3 : w6.cell? ⟨w.heap.size, 3, none⟩ = some (.slice none 0 0) := N6.cell 3
     have z3 : w6.frozen? ⟨w.heap.size, 3, none⟩ = false := N6.frozen 3
     have y3 : w6.cell? ⟨w3.heap.size, 3, none⟩ = some (.slice PA ps.length pc) := M6.cell 3
     have x4 : w6.cell? ⟨w.heap.size, 4, none⟩ = some (.slice none 0 0) := N6.cell 4
     have z4 : w6.frozen? ⟨w.heap.size, 4, none⟩ = false := N6.frozen 4
     have y4 : w6.cell? ⟨w3.heap.size, 4, none⟩ = some (.slice none 0 0) := M6.cell 4
     have x5 : w6.cell? ⟨w.heap.size, 5, none⟩ = some (.string ⟨#[]⟩) := N6.cell 5
     have z5 : w6.frozen? ⟨w.heap.size, 5, none⟩ = false := N6.frozen 5
     have y5 : w6.cell? ⟨w3.heap.size, 5, none⟩ = some (.string ⟨#[]⟩) := M6.cell 5
     have q4 : w6.frozen? ⟨w3.heap.size, 4, none⟩ = false := M6.frozen 4
     have NU := N6.far (p := ⟨w3.heap.size, 4, none⟩) hne (.slice AA al.length ac)
     have OU := set_own hoa M6 (by decide) 4 (.slice AA al.length ac)
     have RU := HRP3.out (w6.setCell ⟨w3.heap.size, 4, none⟩ (.slice AA al.length ac)) (b36.setCell (p := ⟨w3.heap.size, 4, none⟩) (Nat.le_refl _) (.slice AA al.length ac))
     have BU : Below w.heap.size w (w6.setCell ⟨w3.heap.size, 4, none⟩ (.slice AA al.length ac)) := B6.setCell (p := ⟨w3.heap.size, 4, none⟩) (Nat.le_of_lt hlt3) (.slice AA al.length ac)
     have NF := put6_blk (.int .i64 3) (.int .i64 zs) (.string p) (.slice PA ps.length pc) (.slice AA al.length ac) (.string ⟨#[]⟩) NU
     have BF := put6_below (.int .i64 3) (.int .i64 zs) (.string p) (.slice PA ps.length pc) (.slice AA al.length ac) (.string ⟨#[]⟩) BU (Nat.le_refl w.heap.size)
     have RF := put6_row (a := .int .i64 3) (b := .int .i64 zs) (c := .string p) (d := .slice PA ps.length pc) (e := .slice AA al.length ac) (f := .string ⟨#[]⟩) RU (trip_ne RU NU)
     have OF := (put6_own (.int .i64 3) (.int .i64 zs) (.string p) (.slice PA ps.length pc) (.slice AA al.length ac) (.string ⟨#[]⟩) OU NU (by decide)).mono (Nat.le_of_lt hl0)
     have c0 : (put6 (w6.setCell ⟨w3.heap.size, 4, none⟩ (.slice AA al.length ac)) w.heap.size (.int .i64 3) (.int .i64 zs) (.string p) (.slice PA ps.length pc) (.slice AA al.length ac) (.string ⟨#[]⟩)).cell? ⟨w.heap.size, 0, none⟩ = some (.int .i64 3) := NF.cell 0
     have c1 : (put6 (w6.setCell ⟨w3.heap.size, 4, none⟩ (.slice AA al.length ac)) w.heap.size (.int .i64 3) (.int .i64 zs) (.string p) (.slice PA ps.length pc) (.slice AA al.length ac) (.string ⟨#[]⟩)).cell? ⟨w.heap.size, 1, none⟩ = some (.int .i64 zs) := NF.cell 1
     have c2 : (put6 (w6.setCell ⟨w3.heap.size, 4, none⟩ (.slice AA al.length ac)) w.heap.size (.int .i64 3) (.int .i64 zs) (.string p) (.slice PA ps.length pc) (.slice AA al.length ac) (.string ⟨#[]⟩)).cell? ⟨w.heap.size, 2, none⟩ = some (.string p) := NF.cell 2
     have c3 : (put6 (w6.setCell ⟨w3.heap.size, 4, none⟩ (.slice AA al.length ac)) w.heap.size (.int .i64 3) (.int .i64 zs) (.string p) (.slice PA ps.length pc) (.slice AA al.length ac) (.string ⟨#[]⟩)).cell? ⟨w.heap.size, 3, none⟩ = some (.slice PA ps.length pc) := NF.cell 3
     have c4 : (put6 (w6.setCell ⟨w3.heap.size, 4, none⟩ (.slice AA al.length ac)) w.heap.size (.int .i64 3) (.int .i64 zs) (.string p) (.slice PA ps.length pc) (.slice AA al.length ac) (.string ⟨#[]⟩)).cell? ⟨w.heap.size, 4, none⟩ = some (.slice AA al.length ac) := NF.cell 4
     have c5 : (put6 (w6.setCell ⟨w3.heap.size, 4, none⟩ (.slice AA al.length ac)) w.heap.size (.int .i64 3) (.int .i64 zs) (.string p) (.slice PA ps.length pc) (.slice AA al.length ac) (.string ⟨#[]⟩)).cell? ⟨w.heap.size, 5, none⟩ = some (.string ⟨#[]⟩) := NF.cell 5
     go_wp2
     show bodyPost _ _ _ _ _ (put6 (w6.setCell ⟨w3.heap.size, 4, none⟩ (.slice AA al.length ac)) w.heap.size (.int .i64 3) (.int .i64 zs) (.string p) (.slice PA ps.length pc) (.slice AA al.length ac) (.string ⟨#[]⟩))
     generalize (put6 (w6.setCell ⟨w3.heap.size, 4, none⟩ (.slice AA al.length ac)) w.heap.size (.int .i64 3) (.int .i64 zs) (.string p) (.slice PA ps.length pc) (.slice AA al.length ac) (.string ⟨#[]⟩)) = wz at *
     exact bodyPost_ret (v := .agg #[.int .i64 3, .int .i64 zs, .string p, .slice PA ps.length pc, .slice AA al.length ac, .string ⟨#[]⟩]) (by simp [results, Tryz.results22, go_sem, c0, c1, c2, c3, c4, c5]) rfl (gives_rm_allow HE2.out RF OF BF)
    ·have hoq : (m.toList == [79, 80, 84, 73, 79, 78, 83]) = false := hot.trans (decide_eq_false hmo)
     have hkk : (if m = mOpt then (3 : Int) else 2) = 2 := if_neg hmo
     clear hot hmo
     have hb5 : Below w3.heap.size w3 (w3.alloc (.cells #[.int .i64 2, .int .i64 zs, .string p, .slice PA ps.length pc, .slice none 0 0, .string ⟨#[]⟩] 59)) := (Below.refl _ _).alloc (Nat.le_refl _) _
     have HB5 := Lib.hid (HB3.out.trans (hb5.mono HB3.out.size))
     have HN5 := Lib.hid (HN3.out.alloc (.cells #[.int .i64 2, .int .i64 zs, .string p, .slice PA ps.length pc, .slice none 0 0, .string ⟨#[]⟩] 59))
     have HM5 : Hid (Blk (w3.alloc (.cells #[.int .i64 2, .int .i64 zs, .string p, .slice PA ps.length pc, .slice none 0 0, .string ⟨#[]⟩] 59)) w3.heap.size 59 #[.int .i64 2, .int .i64 zs, .string p, .slice PA ps.length pc, .slice none 0 0, .string ⟨#[]⟩]) := Lib.hid (Blk.new w3 _ _)
     have HAW := Lib.hid (by have := rAllow_any A c ls path (w3.alloc (.cells #[.int .i64 2, .int .i64 zs, .string p, .slice PA ps.length pc, .slice none 0 0, .string ⟨#[]⟩] 59)) (HR.out _ HB5.out) (HM.out _ HB5.out) HK.out (by omega); rw [HAR.out] at this; exact this)
     have hl17 : w3.heap.size < (w3.alloc (.cells #[.int .i64 2, .int .i64 zs, .string p, .slice PA ps.length pc, .slice none 0 0, .string ⟨#[]⟩] 59)).heap.size := HM5.out.lt
     have hl0 : w.heap.size < (w3.alloc (.cells #[.int .i64 2, .int .i64 zs, .string p, .slice PA ps.length pc, .slice none 0 0, .string ⟨#[]⟩] 59)).heap.size := HN5.out.lt
     go_wp2_with fail
     generalize (w3.alloc (.cells #[.int .i64 2, .int .i64 zs, .string p, .slice PA ps.length pc, .slice none 0 0, .string ⟨#[]⟩] 59)) = w5 at *
     refine HAW.out.mono ?_
     rintro e w6 ⟨AA, ac, rfl, hoa, hb6⟩
     simp only [Option.getD_some, Option.isSome_some] at hoa ⊢
     obtain ⟨al, hal⟩ : ∃ al, allowOf (plR ls) (fun r : Rt => decide (r.2 = p)) = al := ⟨_, rfl⟩
     rw [hal] at hoa ⊢
     have HE2 := Lib.hid (show matchP (plR ls) sl m path = ⟨2, zs, p, ps, al, ⟨#[]⟩⟩ by rw [HE.out, HFD.out, HPS.out, hal, hkk])
     have N6 := HN5.out.below hb6 HN5.out.lt
     have M6 := HM5.out.below hb6 HM5.out.lt
     have b36 : Below w3.heap.size w3 w6 := hb5.trans (hb6.mono hb5.size)
     have B6 := HB3.out.trans (b36.mono HB3.out.size)
     have hne : w.heap.size ≠ w3.heap.size := Nat.ne_of_lt hlt3
     have hs1 := N6.lt
     have hs2 := M6.lt
     have x0 : w6.cell? ⟨w.heap.size, 0, none⟩ = some (.int .i64 0) := N6.cell 0
     have z0 : w6.frozen? ⟨w.heap.size, 0, none⟩ = false := N6.frozen 0
     have y0 : w6.cell? ⟨w3.heap.size, 0, none⟩ = some (.int .i64 2) := M6.cell 0
     have x1 : w6.cell? ⟨w.heap.size, 1, none⟩ = some (.int .i64 0) := N6.cell 1
     have z1 : w6.frozen? ⟨w.heap.size, 1, none⟩ = false := N6.frozen 1
     have y1 : w6.cell? ⟨w3.heap.size, 1, none⟩ = some (.int .i64 zs) := M6.cell 1
     have x2 : w6.cell? ⟨w.heap.size, 2, none⟩ = some (.string ⟨#[]⟩) := N6.cell 2
     have z2 : w6.frozen? ⟨w.heap.size, 2, none⟩ = false := N6.frozen 2
     have y2 : w6.cell? ⟨w3.heap.size, 2, none⟩ = some (.string p) := M6.cell 2
     have x3 : w6.cell? ⟨w.heap.size, 3, none⟩ = some (.slice none 0 0) := N6.cell 3
     have z3 : w6.frozen? ⟨w.heap.size, 3, none⟩ = false := N6.frozen 3
     have y3 : w6.cell? ⟨w3.heap.size, 3, none⟩ = some (.slice PA ps.length pc) := M6.cell 3
     have x4 : w6.cell? ⟨w.heap.size, 4, none⟩ = some (.slice none 0 0) := N6.cell 4
     have z4 : w6.frozen? ⟨w.heap.size, 4, none⟩ = false := N6.frozen 4
     have y4 : w6.cell? ⟨w3.heap.size, 4, none⟩ = some (.slice none 0 0) := M6.cell 4
     have x5 : w6.cell? ⟨w.heap.size, 5, none⟩ = some (.string ⟨#[]⟩) := N6.cell 5
     have z5 : w6.frozen? ⟨w.heap.size, 5, none⟩ = false := N6.frozen 5
     have y5 : w6.cell? ⟨w3.heap.size, 5, none⟩ = some (.string ⟨#[]⟩) := M6.cell 5
     have q4 : w6.frozen? ⟨w3.heap.size, 4, none⟩ = false := M6.frozen 4
     have NU := N6.far (p := ⟨w3.heap.size, 4, none⟩) hne (.slice AA al.length ac)
     have OU := set_own hoa M6 (by decide) 4 (.slice AA al.length ac)
     have RU := HRP3.out (w6.setCell ⟨w3.heap.size, 4, none⟩ (.slice AA al.length ac)) (b36.setCell (p := ⟨w3.heap.size, 4, none⟩) (Nat.le_refl _) (.slice AA al.length ac))
     have BU : Below w.heap.size w (w6.setCell ⟨w3.heap.size, 4, none⟩ (.slice AA al.length ac)) := B6.setCell (p := ⟨w3.heap.size, 4, none⟩) (Nat.le_of_lt hlt3) (.slice AA al.length ac)
     have NF := put6_blk (.int .i64 2) (.int .i64 zs) (.string p) (.slice PA ps.length pc) (.slice AA al.length ac) (.string ⟨#[]⟩) NU
     have BF := put6_below (.int .i64 2) (.int .i64 zs) (.string p) (.slice PA ps.length pc) (.slice AA al.length ac) (.string ⟨#[]⟩) BU (Nat.le_refl w.heap.size)
     have RF := put6_row (a := .int .i64 2) (b := .int .i64 zs) (c := .string p) (d := .slice PA ps.length pc) (e := .slice AA al.length ac) (f := .string ⟨#[]⟩) RU (trip_ne RU NU)
     have OF := (put6_own (.int .i64 2) (.int .i64 zs) (.string p) (.slice PA ps.length pc) (.slice AA al.length ac) (.string ⟨#[]⟩) OU NU (by decide)).mono (Nat.le_of_lt hl0)
     have c0 : (put6 (w6.setCell ⟨w3.heap.size, 4, none⟩ (.slice AA al.length ac)) w.heap.size (.int .i64 2) (.int .i64 zs) (.string p) (.slice PA ps.length pc) (.slice AA al.length ac) (.string ⟨#[]⟩)).cell? ⟨w.heap.size, 0, none⟩ = some (.int .i64 2) := NF.cell 0
     have c1 : (put6 (w6.setCell ⟨w3.heap.size, 4, none⟩ (.slice AA al.length ac)) w.heap.size (.int .i64 2) (.int .i64 zs) (.string p) (.slice PA ps.length pc) (.slice AA al.length ac) (.string ⟨#[]⟩)).cell? ⟨w.heap.size, 1, none⟩ = some (.int .i64 zs) := NF.cell 1
     have c2 : (put6 (w6.setCell ⟨w3.heap.size, 4, none⟩ (.slice AA al.length ac)) w.heap.size (.int .i64 2) (.int .i64 zs) (.string p) (.slice PA ps.length pc) (.slice AA al.length ac) (.string ⟨#[]⟩)).cell? ⟨w.heap.size, 2, none⟩ = some (.string p) := NF.cell 2
     have c3 : (put6 (w6.setCell ⟨w3.heap.size, 4, none⟩ (.slice AA al.length ac)) w.heap.size (.int .i64 2) (.int .i64 zs) (.string p) (.slice PA ps.length pc) (.slice AA al.length ac) (.string ⟨#[]⟩)).cell? ⟨w.heap.size, 3, none⟩ = some (.slice PA ps.length pc) := NF.cell 3
     have c4 : (put6 (w6.setCell ⟨w3.heap.size, 4, none⟩ (.slice AA al.length ac)) w.heap.size (.int .i64 2) (.int .i64 zs) (.string p) (.slice PA ps.length pc) (.slice AA al.length ac) (.string ⟨#[]⟩)).cell? ⟨w.heap.size, 4, none⟩ = some (.slice AA al.length ac) := NF.cell 4
     have c5 : (put6 (w6.setCell ⟨w3.heap.size, 4, none⟩ (.slice AA al.length ac)) w.heap.size (.int .i64 2) (.int .i64 zs) (.string p) (.slice PA ps.length pc) (.slice AA al.length ac) (.string ⟨#[]⟩)).cell? ⟨w.heap.size, 5, none⟩ = some (.string ⟨#[]⟩) := NF.cell 5
     go_wp2
     show bodyPost _ _ _ _ _ (put6 (w6.setCell ⟨w3.heap.size, 4, none⟩ (.slice AA al.length ac)) w.heap.size (.int .i64 2) (.int .i64 zs) (.string p) (.slice PA ps.length pc) (.slice AA al.length ac) (.string ⟨#[]⟩))
     generalize (put6 (w6.setCell ⟨w3.heap.size, 4, none⟩ (.slice AA al.length ac)) w.heap.size (.int .i64 2) (.int .i64 zs) (.string p) (.slice PA ps.length pc) (.slice AA al.length ac) (.string ⟨#[]⟩)) = wz at *
     exact bodyPost_ret (v := .agg #[.int .i64 2, .int .i64 zs, .string p, .slice PA ps.length pc, .slice AA al.length ac, .string ⟨#[]⟩]) (by simp [results, Tryz.results22, go_sem, c0, c1, c2, c3, c4, c5]) rfl (gives_rm_allow HE2.out RF OF BF)
end Go.Proofs.YtiohmnhbmmhnhaaGreatDoor
namespace Go.Proofs.YtiohmnhbmmhnhaaGreatDoor
open Go.RowKit Go.Shelf Go.Lib
set_option maxRecDepth 100000 in
set_option maxHeartbeats 4000000 in
theorem same_any (k r : Int) (p d : ByteArray) (par : List Prm) (al : List ByteArray) (PA AA PB AB : Option Addr) (pc ac pd ad : Nat) (w : World) (h1 : Row w PA (flat3 par)) (h2 : Row w PB (flat3 par)) (h3 : Row w AA (al.map .string)) (h4 : Row w AB (al.map .string)) (hl : par.length ≤ 4398046511104) (hal : al.length ≤ 1099511627776) :
  Calls Tryz.prog 21 #[.agg #[.int .i64 k, .int .i64 r, .string p, .slice PA par.length pc, .slice AA al.length ac, .string d], .agg #[.int .i64 k, .int .i64 r, .string p, .slice PB par.length pd, .slice AB al.length ad, .string d]] w fun e w' => e = .returned (.bool true) ∧ Below w.heap.size w w' := by
 have hb1 : Below w.heap.size w (w.alloc (.cells #[.int .i64 k, .int .i64 r, .string p, .slice PA par.length pc, .slice AA al.length ac, .string d] 47)) := (Below.refl _ _).alloc (Nat.le_refl _) _
 have hb2 : Below w.heap.size w ((w.alloc (.cells #[.int .i64 k, .int .i64 r, .string p, .slice PA par.length pc, .slice AA al.length ac, .string d] 47)).alloc (.cells #[.int .i64 k, .int .i64 r, .string p, .slice PB par.length pd, .slice AB al.length ad, .string d] 59)) := hb1.alloc hb1.size _
 have HB := Lib.hid hb2
 have HNA : Hid (Blk ((w.alloc (.cells #[.int .i64 k, .int .i64 r, .string p, .slice PA par.length pc, .slice AA al.length ac, .string d] 47)).alloc (.cells #[.int .i64 k, .int .i64 r, .string p, .slice PB par.length pd, .slice AB al.length ad, .string d] 59)) w.heap.size 47 #[.int .i64 k, .int .i64 r, .string p, .slice PA par.length pc, .slice AA al.length ac, .string d]) := Lib.hid ((Blk.new w _ _).alloc _)
 have HNB : Hid (Blk ((w.alloc (.cells #[.int .i64 k, .int .i64 r, .string p, .slice PA par.length pc, .slice AA al.length ac, .string d] 47)).alloc (.cells #[.int .i64 k, .int .i64 r, .string p, .slice PB par.length pd, .slice AB al.length ad, .string d] 59)) (w.heap.size + 1) 59 #[.int .i64 k, .int .i64 r, .string p, .slice PB par.length pd, .slice AB al.length ad, .string d]) := Lib.hid (by have := Blk.new (w.alloc (.cells #[.int .i64 k, .int .i64 r, .string p, .slice PA par.length pc, .slice AA al.length ac, .string d] 47)) 59 #[.int .i64 k, .int .i64 r, .string p, .slice PB par.length pd, .slice AB al.length ad, .string d]; simpa using this)
 have H1 := Lib.hid (h1.below hb2)
 have H2 := Lib.hid (h2.below hb2)
 have H3 := Lib.hid (h3.below hb2)
 have H4 := Lib.hid (h4.below hb2)
 have t0 : (k == k) = true := by simp
 have t1 : (r == r) = true := by simp
 have t2 : (p.toList == p.toList) = true := by simp
 have t5 : (d.toList == d.toList) = true := by simp
 clear h1 h2 h3 h4 hb1 hb2
 go_enter Tryz.func21, Tryz.ntmps21
 go_upto_region 1 with (fail)
 generalize ((w.alloc (.cells #[.int .i64 k, .int .i64 r, .string p, .slice PA par.length pc, .slice AA al.length ac, .string d] 47)).alloc (.cells #[.int .i64 k, .int .i64 r, .string p, .slice PB par.length pd, .slice AB al.length ad, .string d] 59)) = w2 at *
 have a0 : w2.cell? ⟨w.heap.size, 0, none⟩ = some (.int .i64 k) := HNA.out.cell 0
 have b0 : w2.cell? ⟨w.heap.size + 1, 0, none⟩ = some (.int .i64 k) := HNB.out.cell 0
 have a1 : w2.cell? ⟨w.heap.size, 1, none⟩ = some (.int .i64 r) := HNA.out.cell 1
 have b1 : w2.cell? ⟨w.heap.size + 1, 1, none⟩ = some (.int .i64 r) := HNB.out.cell 1
 have a2 : w2.cell? ⟨w.heap.size, 2, none⟩ = some (.string p) := HNA.out.cell 2
 have b2 : w2.cell? ⟨w.heap.size + 1, 2, none⟩ = some (.string p) := HNB.out.cell 2
 have a3 : w2.cell? ⟨w.heap.size, 3, none⟩ = some (.slice PA par.length pc) := HNA.out.cell 3
 have b3 : w2.cell? ⟨w.heap.size + 1, 3, none⟩ = some (.slice PB par.length pd) := HNB.out.cell 3
 have a4 : w2.cell? ⟨w.heap.size, 4, none⟩ = some (.slice AA al.length ac) := HNA.out.cell 4
 have b4 : w2.cell? ⟨w.heap.size + 1, 4, none⟩ = some (.slice AB al.length ad) := HNB.out.cell 4
 have a5 : w2.cell? ⟨w.heap.size, 5, none⟩ = some (.string d) := HNA.out.cell 5
 have b5 : w2.cell? ⟨w.heap.size + 1, 5, none⟩ = some (.string d) := HNB.out.cell 5
 have l1 := HNA.out.lt
 have l2 := HNB.out.lt
 have HPS := Lib.hid (paramsS_same PA PB pc pd par w2 H1.out H2.out hl)
 go_wp2_with fail
 refine HPS.out.mono ?_
 rintro e w3 ⟨rfl, q, rfl⟩
 have HTX := Lib.hid (textsSS_any ac ad al (w2.drewN q) (H3.out.drewN q) (H4.out.drewN q) hal)
 go_wp2_with fail
 refine HTX.out.mono ?_
 rintro e w4 ⟨rfl, hb4⟩
 have hq : Below w2.heap.size w2 w4 := (below_drewN (Below.refl _ _) q).trans (hb4.mono (Nat.le_refl _))
 have HB4 := Lib.hid (HB.out.trans (hq.mono HB.out.size))
 have a5' : w4.cell? ⟨w.heap.size, 5, none⟩ = some (.string d) := by rw [hq.cell (p := ⟨w.heap.size, 5, none⟩) l1]; exact a5
 have b5' : w4.cell? ⟨w.heap.size + 1, 5, none⟩ = some (.string d) := by rw [hq.cell (p := ⟨w.heap.size + 1, 5, none⟩) l2]; exact b5
 have l1' := Nat.lt_of_lt_of_le l1 hq.size
 have l2' := Nat.lt_of_lt_of_le l2 hq.size
 clear hb4 hq
 go_wp2
 go_ret
 exact ⟨rfl, HB4.out⟩
theorem allow_two (l : List Rt) (path : ByteArray) : (match patR l path with | some p => allowOf l (fun r : Rt => decide (r.2 = p)) | none => []) = (allowR l path).getD [] := by
 unfold allowR
 cases patR l path <;> rfl
theorem rallow_len {l : List Rt} (hk : bulkRt l ≤ 1048576) (path : ByteArray) : ((allowR l path).getD []).length ≤ 1048578 := by
 unfold allowR
 cases patR l path with
 | none => exact Nat.zero_le _
 | some p => exact allow_len hk _
theorem refGo_len : ∀ (l : List Pc) (xs : List ByteArray) (out r : List Prm), refGo l xs out = some r → r.length ≤ out.length + l.length
 | [], [], out, r, h => by
  have := Option.some.inj h
  subst this
  exact Nat.le_add_right _ _
 | [], _ :: _, _, _, h => by cases h
 | _ :: _, [], _, _, h => by cases h
 | p :: l, x :: xs, out, r, h => by
  unfold refGo at h
  rw [List.length_cons]
  by_cases h0 : p.1 = 0
  ·rw [if_pos h0] at h
   by_cases hx : x = p.2
   ·rw [if_pos hx] at h
    have := refGo_len l xs out r h
    omega
   ·rw [if_neg hx] at h; cases h
  ·rw [if_neg h0] at h
   by_cases h1 : p.1 = 1
   ·rw [if_pos h1] at h
    by_cases hx : x.size = 0
    ·rw [if_pos hx] at h; cases h
    ·rw [if_neg hx] at h
     have := refGo_len l xs _ r h
     rw [List.length_append, List.length_singleton] at this
     omega
   ·rw [if_neg h1] at h
    have := Option.some.inj h
    subst this
    rw [List.length_append, List.length_singleton]
    omega
theorem refFits_len (s path : ByteArray) : (fitVal (refFits s path)).1.length ≤ s.size := by
 unfold refFits
 by_cases h : (splitP s).2.2 = true ∧ isPathB path = true
 ·rw [if_pos h]
  cases hr : refGo ((segsP s).map pcOf) (segsP path) [] with
  | none => exact Nat.zero_le _
  | some r =>
   have h1 := refGo_len _ _ _ _ hr
   have h2 := segsP_len s
   rw [List.length_map] at h1
   show r.length ≤ _
   simp only [List.length_nil] at h1
   omega
 ·rw [if_neg h]
  exact Nat.zero_le _
theorem match_par {w : World} {t : Nat} {sl : Bool} {l : List Rt} (hT : TableAt w t sl l) (method path : ByteArray) : (matchP l sl method path).par.length ≤ 4398046511104 := by
 obtain ⟨_, _, _, _, _, _, h⟩ := hT
 unfold matchP
 cases hp : patR l path with
 | none =>
  by_cases hs : (segR path).2 = 0 ∧ sl = true
  ·rw [matchF_near hs]
   cases patR l (otherP path) with
   | none => exact Nat.zero_le _
   | some q => exact Nat.zero_le _
  ·rw [matchF_no hs]
   exact Nat.zero_le _
 | some p =>
  obtain ⟨hp1, _⟩ := pat_some hp
  have hps : p.size ≤ 1048576 := by
   obtain ⟨r, hr, rfl⟩ := List.mem_map.1 hp1
   exact (slim_mem h.bulk hr).pat
  have hl := refFits_len p path
  rw [ref_fits] at hl
  have hpp : (parP p path).length ≤ 4398046511104 := by
   show (fitVal (fitsP p path)).1.length ≤ _
   omega
  by_cases hf : 0 ≤ foundP l (plc p l) method
  ·rw [matchF_found hf]
   exact hpp
  ·rw [matchF_allow hf]
   exact hpp
end Go.Proofs.YtiohmnhbmmhnhaaGreatDoor
