/-
 RtLawMemory, without what this claim does not reach.
-/
import Derived.Test.YtiohmnhbmmhnhaaGreatDoorZTgMp
import Derived.Test.YtiohmnhbmmhnhaaGreatDoorZRtRj
import Derived.Test.YtiohmnhbmmhnhaaGreatDoorZRtMd
import Derived.Deep.RegionHeld3
import Derived.IntWalk
namespace Go.Proofs.YtiohmnhbmmhnhaaGreatDoor
open Go.RowKit Go.Shelf Go.Lib
section
variable {α : Type} {fl : List α → List Value} {SL EL : TypeId} {sz : Nat} {w w' : World} {base : Nat} {v : Value} {vals : List Value} {ps : List (Value × List α)}
theorem TabG.none_ (w : World) (base : Nat) : TabG fl SL EL sz w base (.slice none 0 0) [] [] := ⟨World.ownsRow_nil _ _ _ _, fun _ _ h => by simp at h, fun _ _ _ _ _ h => by simp at h⟩
theorem TabG.turnTo (h : TabG fl SL EL sz w base v vals ps) (hne : SL ≠ EL) {i : Nat} {u : Value} {fs : List α} (hi : ps[i]? = some (u, fs)) (hg : w.grownBy w' u.ownBlock) {u' : Value} {fs' : List α} (ho : w'.ownsRow base EL sz u' fs'.length (fl fs')) (hat : u'.ownBlock = u.ownBlock ∨ u'.ownBlock = some w.heap.size) :
  TabG fl SL EL sz w' base v vals (ps.set i (u', fs')) := by
 refine ⟨own_other h.own hg (apart_types h.own (h.all i _ hi) hne).symm, fun j p hp => ?_, fun a b p q hab hp hq => ?_⟩
 ·rcases set_get hp with ⟨_, rfl⟩ | ⟨hne, hp⟩
  ·exact ho
  ·exact own_other (h.all j p hp) hg (h.app i j _ _ (Ne.symm hne) hi hp)
 ·rcases set_get hp with ⟨ha, rfl⟩ | ⟨ha, hp⟩
  ·rcases set_get hq with ⟨hb, rfl⟩ | ⟨hb, hq⟩
   ·exact absurd (ha.trans hb.symm) hab
   ·exact (h.app i b _ _ (Ne.symm hb) hi hq).grow hat (own_blt (h.all b q hq))
  ·rcases set_get hq with ⟨hb, rfl⟩ | ⟨hb, hq⟩
   ·exact ((h.app i a _ _ (Ne.symm ha) hi hp).grow hat (own_blt (h.all a p hp))).symm
   ·exact h.app a b p q hab hp hq
end
def grownT : ByteArray := ⟨#[103, 114, 111, 119, 110]⟩
def encM (i : Nat) : ByteArray := Utf8.encode (48 + (i : Int))
theorem conv_mark (i : Nat) (w : World) : (convert 21 9 (.int .i32 (48 + (i : Int)))).run Tryz.prog w = .ok (.string (encM i)) w := run_convert_int_string w _ _ _ _ (by kernel_rfl) Tryz.underlying9
theorem rep_of {α : Type} {fs : List α} {n : Nat} {x : α} (hl : fs.length = n) (h : ∀ j, j < n → fs[j]? = some x) : fs = List.replicate n x := by
 apply List.ext_getElem?
 intro j
 by_cases hj : j < n
 ·rw [h j hj, List.getElem?_replicate, if_pos hj]
 ·rw [List.getElem?_eq_none (by omega), List.getElem?_replicate, if_neg hj]
theorem rep_snoc {α : Type} (n : Nat) (x : α) : List.replicate n x ++ [x] = List.replicate (n + 1) x := by
 rw [← List.replicate_succ']
theorem rep_at {α : Type} {n j : Nat} {x y p : α} (h : (List.replicate n x ++ List.replicate 9 y)[j]? = some p) : (j < n ∧ p = x) ∨ (n ≤ j ∧ p = y) := by
 rw [List.getElem?_append] at h
 split at h
 ·rename_i hj
  rw [List.length_replicate] at hj
  rw [List.getElem?_replicate, if_pos hj] at h
  injection h with h
  exact .inl ⟨hj, h.symm⟩
 ·rename_i hj
  rw [List.length_replicate] at hj
  rw [List.getElem?_replicate] at h
  split at h
  ·injection h with h
   exact .inr ⟨by omega, h.symm⟩
  ·cases h
structure Six (vals : List Value) (ps : List (Value × List ByteArray)) (k : Nat) : Prop where
 len : ps.length = 6
 map : ps.map (·.1) = vals
 sz : ∀ p ∈ ps, p.2.length ≤ 2000000
 done : ∀ (a : Nat) p, a < k → ps[a]? = some p → p.2 = List.replicate p.2.length (encM a)
structure MidS (k n j : Nat) (fs : List ByteArray) : Prop where
 len : fs.length = n
 done : ∀ b : Nat, b < j → fs[b]? = some (encM k)
theorem MidS.zero {k n : Nat} {fs : List ByteArray} (h : fs.length = n) : MidS k n 0 fs := ⟨h, fun b hb => by omega⟩
theorem MidS.succ {k n j : Nat} {fs : List ByteArray} (h : MidS k n j fs) (hj : j < n) : MidS k n (j + 1) (fs.set j (encM k)) := by
 refine ⟨by rw [List.length_set]; exact h.len, fun b hb => ?_⟩
 by_cases e : b = j
 ·subst e
  rw [List.getElem?_set, if_pos rfl, if_pos (by rw [h.len]; exact hj)]
 ·rw [List.getElem?_set_ne (Ne.symm e)]
  exact h.done b (by omega)
theorem Six.set {vals : List Value} {ps : List (Value × List ByteArray)} {k n : Nat} {u : Value} {fs fs' : List ByteArray} (h : Six vals ps k) (hp : ps[k]? = some (u, fs)) (hn : fs.length = n) (hm : MidS k n n fs') : Six vals (ps.set k (u, fs')) (k + 1) := by
 have hkl := lt_of_some hp
 refine ⟨by rw [List.length_set]; exact h.len, ?_, fun p hp' => ?_, fun a p ha hp' => ?_⟩
 ·rw [List.map_set, h.map]
  apply List.ext_getElem?
  intro j
  by_cases e : k = j
  ·subst e
   rw [List.getElem?_set, if_pos rfl, ← h.map, List.length_map, if_pos hkl, List.getElem?_map, hp]
   rfl
  ·rw [List.getElem?_set_ne e]
 ·obtain ⟨i, hi⟩ := List.getElem?_of_mem hp'
  rcases set_get hi with ⟨_, rfl⟩ | ⟨_, hi⟩
  ·simp only
   rw [hm.len, ← hn]
   exact h.sz _ (List.mem_of_getElem? hp)
  ·exact h.sz p (List.mem_of_getElem? hi)
 ·rcases set_get hp' with ⟨rfl, rfl⟩ | ⟨hne, hp'⟩
  ·simp only
   rw [hm.len]
   exact rep_of hm.len hm.done
  ·exact h.done a p (by omega) hp'
theorem Six.at_ {vals : List Value} {ps : List (Value × List ByteArray)} {k j : Nat} (h : Six vals ps k) (hj : j < 6) : ∃ u fs, ps[j]? = some (u, fs) ∧ vals[j]? = some u ∧ fs.length ≤ 2000000 := by
 obtain ⟨⟨u, fs⟩, hp⟩ := some_of_lt (show j < ps.length by rw [h.len]; exact hj)
 exact ⟨u, fs, hp, by rw [← h.map, List.getElem?_map, hp]; rfl, h.sz _ (List.mem_of_getElem? hp)⟩
structure Thr (vals : List Value) (ps : List (Value × List ByteArray)) (k : Nat) : Prop where
 len : ps.length = 6
 map : ps.map (·.1) = vals
 done : ∀ (a : Nat) p, a < k → ps[a]? = some p → ∃ n, n ≤ 2000000 ∧ p.2 = List.replicate n (encM a) ++ List.replicate 9 grownT
 todo : ∀ (a : Nat) p, k ≤ a → ps[a]? = some p → ∃ n, n ≤ 2000000 ∧ p.2 = List.replicate n (encM a)
theorem Six.thr {vals : List Value} {ps : List (Value × List ByteArray)} (h : Six vals ps 6) : Thr vals ps 0 :=
 ⟨h.len, h.map, fun a p ha _ => by omega, fun a p _ hp => ⟨p.2.length, h.sz p (List.mem_of_getElem? hp), h.done a p (by have := lt_of_some hp; rw [h.len] at this; exact this) hp⟩⟩
theorem Thr.at_ {vals : List Value} {ps : List (Value × List ByteArray)} {k : Nat} (h : Thr vals ps k) {j : Nat} (hj : j < 6) : ∃ u fs, ps[j]? = some (u, fs) ∧ vals[j]? = some u := by
 obtain ⟨⟨u, fs⟩, hp⟩ := some_of_lt (show j < ps.length by rw [h.len]; exact hj)
 exact ⟨u, fs, hp, by rw [← h.map, List.getElem?_map, hp]; rfl⟩
theorem Thr.succ {vals : List Value} {ps : List (Value × List ByteArray)} {k n : Nat} (h : Thr vals ps k) (hk : k < 6) (hn : n ≤ 2000000) (v : Value) : Thr (vals.set k v) (ps.set k (v, List.replicate n (encM k) ++ List.replicate 9 grownT)) (k + 1) := by
 refine ⟨by rw [List.length_set]; exact h.len, by rw [List.map_set, h.map], fun a p ha hp => ?_, fun a p ha hp => ?_⟩
 ·rcases set_get hp with ⟨rfl, rfl⟩ | ⟨hne, hp⟩
  ·exact ⟨n, hn, rfl⟩
  ·exact h.done a p (by omega) hp
 ·rcases set_get hp with ⟨rfl, rfl⟩ | ⟨hne, hp⟩
  ·omega
  ·exact h.todo a p (by omega) hp
theorem info_strs2 : (Tryz.prog.info? 33).map (fun i => (i.zero, i.size, i.bytes)) = some (some (.slice none 0 0), 1, 24) := by kernel_rfl
theorem run_fieldM3 (a b c d e f : Value) (w : World) : (Instr.field 47 (.agg #[a, b, c, d, e, f]) 3).run Tryz.prog w = .ok d w := by
 simp [Instr.field, go_sem]
 rfl
theorem run_fieldM4 (a b c d e f : Value) (w : World) : (Instr.field 47 (.agg #[a, b, c, d, e, f]) 4).run Tryz.prog w = .ok e w := by
 simp [Instr.field, go_sem]
 rfl
theorem flat3_set (p : Pr) : ∀ {l : List Pr} {k : Nat}, k < l.length → (((flat3 l).set (k * 3) (.string p.1)).set (k * 3 + 1) (.string p.2.1)).set (k * 3 + 2) (.bool p.2.2) = flat3 (l.set k p)
 | [], k, h => by simp at h
 | q :: l, 0, _ => rfl
 | q :: l, k + 1, h => by
  have ih := flat3_set p (l := l) (k := k) (by simpa using h)
  have e : flat3 (q :: l) = .string q.1 :: .string q.2.1 :: .bool q.2.2 :: flat3 l := rfl
  have e2 : flat3 ((q :: l).set (k + 1) p) = .string q.1 :: .string q.2.1 :: .bool q.2.2 :: flat3 (l.set k p) := rfl
  rw [e, e2, ← ih, show (k + 1) * 3 = k * 3 + 1 + 1 + 1 by omega, show k * 3 + 1 + 1 + 1 + 1 = (k * 3 + 1) + 1 + 1 + 1 from rfl, show k * 3 + 1 + 1 + 1 + 2 = (k * 3 + 2) + 1 + 1 + 1 from rfl]
  simp only [List.set_cons_succ]
def Only (d : Nat) (w w' : World) : Prop := w.grownBy w' (some d)
theorem Only.only {d : Nat} {a w w' : World} (h : Only d a w) (h2 : Only d w w') : Only d a w' :=
 ⟨h2.os.trans h.os, h2.tape.trans h.tape, h2.output.trans h.output, Nat.le_trans h.size h2.size, fun k hk hne => (h2.block k (Nat.lt_of_lt_of_le hk h.size) hne).trans (h.block k hk hne)⟩
def PQ (base n : Nat) (PA QA : Option Addr) (pc qc : Nat) (fp fq : List Pr) (w : World) : Prop :=
 w.ownsRow base 68 3 (.slice PA n pc) n (flat3 fp) ∧ w.ownsRow base 68 3 (.slice QA n qc) n (flat3 fq)
section
variable {w w' : World} {base n pc qc : Nat} {PA QA : Option Addr} {fp fq : List Pr}
theorem PQ.below (h : PQ base n PA QA pc qc fp fq w) (hb : Below w.heap.size w w') : PQ base n PA QA pc qc fp fq w' := ⟨own_below h.1 hb, own_below h.2 hb⟩
theorem PQ.other (h : PQ base n PA QA pc qc fp fq w) {b2 : Nat} {E2 : TypeId} {s2 n2 : Nat} {u : Value} {xs2 : List Value} (hu : w.ownsRow b2 E2 s2 u n2 xs2) (hne : E2 ≠ 68) (hg : w.grownBy w' u.ownBlock) : PQ base n PA QA pc qc fp fq w' :=
 ⟨own_other h.1 hg (apart_types hu h.1 hne), own_other h.2 hg (apart_types hu h.2 hne)⟩
end
theorem own_len {w : World} {base : Nat} {e : TypeId} {size n m : Nat} {v : Value} {xs : List Value} (h : w.ownsRow base e size v n xs) (e1 : n = m) : w.ownsRow base e size v m xs := e1 ▸ h
def Want (x : World) (m : Mt) (v : Value) (wx : World) : Prop := ∃ (fb : Nat) (PB : Option Addr) (pd : Nat) (AB : Option Addr) (ad : Nat), v = .pointer (some ⟨fb, 0, none⟩) ∧ x.heap.size ≤ fb ∧
 Blk wx fb 59 #[.int .i64 m.kind, .int .i64 m.route, .string m.pat, .slice PB m.par.length pd, .slice AB m.allow.length ad, .string m.dest] ∧ Row wx PB (flat3 m.par) ∧ Row wx AB (m.allow.map .string) ∧ Below x.heap.size x wx
end Go.Proofs.YtiohmnhbmmhnhaaGreatDoor
namespace Go.Proofs.YtiohmnhbmmhnhaaGreatDoor
open Go.RowKit Go.Shelf Go.Lib
set_option maxRecDepth 100000 in
set_option maxHeartbeats 16000000 in
theorem RouteMemory_walk (A : Option Addr) (c : Nat) (la : List Ra) (qa : ByteArray × ByteArray) (w : World) (hr : Row w A (flatA la)) (hm : AOk w la) (hk : bulkRt (plA la) + (qa.1.size + qa.2.size + 3) ≤ 1048576) (hg : GlobR w) :
  Calls Tryz.prog 7 #[.slice A la.length c, .agg #[.string qa.1, .string qa.2]] w fun e w' => e = .returned (.bool true) ∧ Below w.heap.size w w' := by
 obtain ⟨qm, qp⟩ := qa
 dsimp only at hk
 dsimp only
 obtain ⟨i0, hi0, hz0, hz1, hz2⟩ := info_parts info_strs2
 obtain ⟨j0, hj0, hy0, hy1, hy2⟩ := info_parts info_string
 have hfd3 := run_fieldM3
 have hfd4 := run_fieldM4
 have hqp : qp.size ≤ 1048576 := by omega
 have hb0 : Below w.heap.size w (w.alloc (.cells #[.string qm, .string qp] 42)) := (Below.refl _ _).alloc (Nat.le_refl _) _
 have HN0 : Hid (Blk (w.alloc (.cells #[.string qm, .string qp] 42)) w.heap.size 42 #[.string qm, .string qp]) := Lib.hid (Blk.new w _ _)
 have HR := Lib.hid (fun (W : World) (h : Below w.heap.size w W) => hr.below h)
 have HM := Lib.hid (fun (W : World) (h : Below w.heap.size w W) => hm.below h)
 have HK := Lib.hid (show bulkRt (plA la) ≤ 1048576 by omega)
 have HG := Lib.hid (fun (W : World) (h : Below w.heap.size w W) => hg.beyond h)
 have HB0 := Lib.hid hb0
 have HAW := Lib.hid (awake_any (w.alloc (.cells #[.string qm, .string qp] 42)) (hg.beyond hb0))
 obtain ⟨l, hl⟩ : ∃ l, plA la = l := ⟨_, rfl⟩
 have HL := Lib.hid hl
 have hlw : w.heap.size < (w.alloc (.cells #[.string qm, .string qp] 42)).heap.size := by simp
 clear hr hm hk hg hb0 hl
 go_enter Tryz.func7, Tryz.ntmps7
 go_wp2_with fail
 obtain ⟨nb, hnb⟩ : ∃ nb : Nat, nb = w.heap.size := ⟨_, rfl⟩
 rw [← hnb] at HN0 hlw
 rw [← hnb]
 generalize (w.alloc (.cells #[.string qm, .string qp] 42)) = w0 at *
 clear hnb
 refine HAW.out.mono ?_
 rintro e w1 ⟨rfl, hb1⟩
 have HX1 := Lib.hid hb1
 have HB1 := Lib.hid (HB0.out.trans (hb1.mono HB0.out.size))
 have HMA := Lib.hid (made_any A c la false w1 (HR.out w1 HB1.out) (HM.out w1 HB1.out) HK.out (HG.out w1 HB1.out))
 clear hb1 HAW
 go_wp2_with fail
 refine HMA.out.mono ?_
 rintro e w2 (⟨_, rfl, hb2⟩ | ⟨_, t, rfl, _, hT, hb2⟩)
 ·have HB2 := Lib.hid (HB1.out.trans (hb2.mono HB1.out.size))
  clear hb2 HMA
  go_wp2
  go_ret
  exact ⟨rfl, HB2.out⟩
 ·have HX2 := Lib.hid (HX1.out.trans (hb2.mono HX1.out.size))
  have HB2 := Lib.hid (HB1.out.trans (hb2.mono HB1.out.size))
  rw [HL.out] at hT
  have HT := Lib.hid hT
  have HQ := Lib.hid (fun (W : World) (h : Below w2.heap.size w2 W) => (⟨(HN0.out.below (HX2.out.trans (h.mono HX2.out.size)) hlw).cell 0, (HN0.out.below (HX2.out.trans (h.mono HX2.out.size)) hlw).cell 1⟩ : W.cell? ⟨nb, 0, none⟩ = some (.string qm) ∧ W.cell? ⟨nb, 1, none⟩ = some (.string qp)))
  have HBW := Lib.hid (fun (W : World) (h : Below w2.heap.size w2 W) => HB2.out.trans (h.mono HB2.out.size))
  have HNL := Lib.hid (fun (W : World) (h : Below w2.heap.size w2 W) => Nat.lt_of_lt_of_le hlw (Nat.le_trans HX2.out.size h.size))
  have HAL := Lib.hid (fun (W : World) (h : Below w2.heap.size w2 W) => All_any t false l W (hT.below h))
  have HOW := Lib.hid (fun (W : World) (h : Below w2.heap.size w2 W) => (Allow_any t false l qp W (hT.below h) (by omega) (HG.out W (HBW.out W h))).mono fun e w' h => gives_tx_eq h (allow_two l qp))
  have HMT := Lib.hid (fun (W : World) (h : Below w2.heap.size w2 W) => Match_any t false l qm qp W (hT.below h) (by omega) (HG.out W (HBW.out W h)))
  have hkl : bulkRt l ≤ 1048576 := by rw [← HL.out]; exact HK.out
  have HRF := Lib.hid (fun (W : World) (QA : Option Addr) (qc : Nat) (lp : List Rv) (ho : OwnR 0 W (.slice QA lp.length qc) lp) (hp : plR lp = plA la) => (show Calls Tryz.prog 22 #[.slice QA lp.length qc, .bool false, .string qm, .string qp] W (GivesRm W (matchP l false qm qp)) from by
   rw [HL.out] at hp
   have := rFind_any QA qc lp false qm qp W (own_row ho.row) ho.ok (by rw [hp]; exact hkl) (by omega)
   rw [hp] at this
   exact this))
  have HRA := Lib.hid (fun (W : World) (QA : Option Addr) (qc : Nat) (lp : List Rv) (ho : OwnR 0 W (.slice QA lp.length qc) lp) (hp : plR lp = plA la) => (show Calls Tryz.prog 27 #[.slice QA lp.length qc] W (GivesTx W (allowOf l (fun _ : Rt => true))) from by
   rw [HL.out] at hp
   have := rAll_any QA qc lp W (own_row ho.row) ho.ok (by rw [hp]; exact hkl)
   rw [hp] at this
   exact this))
  have HPL := Lib.hid (fun (W : World) (h : Below w2.heap.size w2 W) => plain_any A c la W (HR.out W (HBW.out W h)) (HM.out W (HBW.out W h)) HK.out)
  have z1 : (allowOf l (fun _ : Rt => true)).length ≤ 1048578 := allow_len hkl _
  have z2 : ((allowR l qp).getD []).length ≤ 1048578 := rallow_len hkl qp
  have z3 : (matchP l false qm qp).allow.length ≤ 1048578 := match_len hT qm qp
  have z4 : (matchP l false qm qp).par.length ≤ 4398046511104 := match_par hT qm qp
  generalize allowOf l (fun _ : Rt => true) = a1 at *
  generalize (allowR l qp).getD [] = a2 at *
  generalize matchP l false qm qp = ma at *
  have HB2R := Lib.hid (Below.refl w2.heap.size w2)
  clear hb2 HMA hT hkl
  go_wp2
  go_loopw [8, 36] (fun v i wr => ∃ (k : Nat) (vals : List Value) (ps : List (Value × List ByteArray)), k ≤ 2 ∧ i = .int .i64 k ∧ Hid (T1 wr w2.heap.size v vals ps) ∧ Hid (ps.map (·.1) = vals) ∧ Hid (ps.length = 3 * k) ∧ Hid (vals.length = 3 * k) ∧ Hid (∀ p ∈ ps, p.2.length ≤ 2000000) ∧ Hid (Below w2.heap.size w2 wr)) (fun _ i _ => 2 - (RowKit.intOf i).toNat)
  case atStart => exact ⟨0, [], [], by omega, rfl, Lib.hid (TabG.none_ _ _), Lib.hid rfl, Lib.hid rfl, Lib.hid rfl, Lib.hid (fun p hp => by cases hp), HB2R⟩
  case round =>
   obtain ⟨k, vals, ps, hkk, rfl, HTB, HMP, HLN, HVL, HSZ, HB⟩ := hrel
   have hvz : vals.length ≤ 6 := by have := HVL.out; omega
   obtain ⟨KA, kc, rfl⟩ := own_slice HTB.out.own
   by_cases hlt : k < 2
   ·have hd0 := below_drew (Below.refl wr.heap.size wr)
    have HD := Lib.hid (below_drew HB.out)
    have HT0 := Lib.hid (HTB.out.below hd0)
    have hS0 := HQ.out _ HD.out
    clear hd0 HTB
    go_upto_region 9 with (fail)
    go_region_held3 (fun w' => w'.cell? ⟨nb, 0, none⟩ = some (.string qm) ∧ w'.cell? ⟨nb, 1, none⟩ = some (.string qp)) (first | exact hS0 | exact HQ.out _ HB9.out | exact HQ.out _ (HB8.out.alloc HB8.out.size _) | exact HQ.out _ HB8.out | exact HQ.out _ HB7.out | exact HQ.out _ HB6.out) (first
     | (go_at_call 25; (with_reducible refine (HAL.out _ HD.out).mono ?_); rintro e w6 ⟨QA, qc, rfl, ho6, hb6⟩; (have HB6 := Lib.hid (HD.out.trans (hb6.mono HD.out.size))); (have HT6 := Lib.hid (HT0.out.pend hb6 (fs := a1) ho6 HD.out.size)); clear ho6 hb6)
     | (go_at_call 24; (with_reducible refine (HOW.out _ HB6.out).mono ?_); rintro e w7 ⟨RA, rc, rfl, ho7, hb7⟩; (have HB7 := Lib.hid (HB6.out.trans (hb7.mono HB6.out.size))); (have HT7 := Lib.hid (HT6.out.pend hb7 (fs := a2) ho7 HB6.out.size)); clear ho7 hb7)
     | (go_at_call 18; (with_reducible refine (HMT.out _ HB7.out).mono ?_); rintro e w8 ⟨PA, pc, AA, ac, rfl, _, ho8, hb8⟩; (have HB8 := Lib.hid (HB7.out.trans (hb8.mono HB7.out.size))); (have HT8 := Lib.hid (HT7.out.pend hb8 (fs := ma.allow) ho8 HB7.out.size)); (have HTA := Lib.hid (HT8.out.alloc (.cells #[.slice QA a1.length qc, .slice RA a2.length rc, .slice AA ma.allow.length ac] 33))); (have hsz8 := HB8.out.size); clear ho8 hb8)
     | (refine step_append_any _ rfl (.tmp 38) (.tmp 52) 65 rfl w2.heap.size 33 i0 (.slice none 0 0) 1 24 Tryz.underlying65 hi0 hz0 hz1 hz2 rfl (by decide) (.slice KA vals.length kc) vals.length vals (by rfl) HTA.out.own _ (some ⟨w8.heap.size, 0, none⟩) 3 3 [.slice QA a1.length qc, .slice RA a2.length rc, .slice AA ma.allow.length ac] (by rfl) (reads_of_row (row_newc w8 _ 33 rfl) rfl (by decide)) (by intro u hu; simp at hu; rcases hu with rfl | rfl | rfl <;> rfl) (by unfold maxLen; omega) (by omega) (by simp; omega) ?_; intro v9 w9 hown9 hg9 halt9; (have HB9 := Lib.hid ((HB8.out.alloc HB8.out.size (.cells #[.slice QA a1.length qc, .slice RA a2.length rc, .slice AA ma.allow.length ac] 33)).grown hg9 (by simp; omega) (own_lt HTA.out.own)))))
    all_goals
     have HT9 := Lib.hid (HTA.out.grow (by decide) hg9 (v' := v9) (vals' := vals ++ [.slice QA a1.length qc, .slice RA a2.length rc, .slice AA ma.allow.length ac]) (by rw [List.length_append]; exact hown9))
     clear hown9 hg9 halt9 hS0
     go_wp2
     go_roundw
     case rel => exact ⟨k + 1, _, _, by omega, by go_num, HT9, Lib.hid (by simp [HMP.out]), Lib.hid (by have := HLN.out; simp; omega), Lib.hid (by have := HVL.out; simp; omega), Lib.hid (fun p hp => by
      simp at hp
      rcases hp with hp | rfl | rfl | rfl
      ·exact HSZ.out p hp
      ·simp only; omega
      ·simp only; omega
      ·simp only; omega), HB9⟩
     case measure => simp [RowKit.intOf]; omega
   ·have hk2 : ¬ (k : Int) < 2 := by omega
    have hlen6 : ps.length = 6 := by have := HLN.out; omega
    have hvl6 : vals.length = 6 := by have := HVL.out; omega
    have HS6 := Lib.hid (show Six vals ps 0 from ⟨hlen6, HMP.out, HSZ.out, fun a p h _ => by omega⟩)
    have HV6 := Lib.hid hvl6
    have HT9 := Lib.hid (show T1 wr w2.heap.size (.slice KA 6 kc) vals ps from by have h := HTB.out; rw [hvl6] at h; exact h)
    obtain ⟨g1, rfl, hg1b, _⟩ := own_some (own_len HT9.out.own hvl6) (by omega)
    rw [hvl6]
    obtain ⟨x9, rfl⟩ : ∃ x9 : World, x9 = wr := ⟨_, rfl⟩
    obtain ⟨k1, rfl⟩ : ∃ k1 : Nat, k1 = k := ⟨_, rfl⟩
    have hd0 := below_drew (Below.refl x9.heap.size x9)
    have HD := Lib.hid (below_drew HB.out)
    have HT0 := Lib.hid (HT9.out.below hd0)
    have hS0 := HQ.out _ HD.out
    clear hlen6 hvl6 HMP HSZ HLN HVL HTB HT9 hd0 hvz
    go_upto_region 11 with (fail)
    go_region_held3 (fun w' => w'.cell? ⟨nb, 0, none⟩ = some (.string qm) ∧ w'.cell? ⟨nb, 1, none⟩ = some (.string qp)) (first | exact hS0 | exact HQ.out _ HB11.out | exact HQ.out _ HB10.out) (first
     | (go_at_call 18; (with_reducible refine (HMT.out _ HD.out).mono ?_); rintro e w10 ⟨PA, pc, AA, ac, rfl, hop, _, hb10⟩; (have HB10 := Lib.hid (HD.out.trans (hb10.mono HD.out.size))); (have HOP := Lib.hid (hop.mono HD.out.size)); (have HT10 := Lib.hid (HT0.out.below hb10)); clear hop hb10)
     | (go_at_call 18; (with_reducible refine (HMT.out _ HB10.out).mono ?_); rintro e w11 ⟨QA, qc, AB, ad, rfl, hoq, _, hb11⟩; (have HB11 := Lib.hid (HB10.out.trans (hb11.mono HB10.out.size))); (have HAP := Lib.hid (apart_new HOP.out hoq (Nat.le_refl _))); (have HPQ := Lib.hid (show PQ w2.heap.size ma.par.length PA QA pc qc ma.par ma.par w11 from ⟨own_below HOP.out hb11, hoq.mono HB10.out.size⟩)); (have HT11 := Lib.hid (HT10.out.below hb11)); clear hoq hb11))
    all_goals
     clear hS0 HB10 HOP HT10 HT0 HD HB
     go_wp2
     go_loopw [71] (fun i wr => ∃ (k : Nat) (ps : List (Value × List ByteArray)), k ≤ 6 ∧ i = .int .i64 k ∧ Hid (T1 wr w2.heap.size (.slice (some ⟨g1, 0, none⟩) 6 kc) vals ps) ∧ Hid (Six vals ps k) ∧ Hid (PQ w2.heap.size ma.par.length PA QA pc qc ma.par ma.par wr) ∧ Hid (Below w2.heap.size w2 wr)) (fun i _ => 6 - (RowKit.intOf i).toNat)
     case atStart => exact ⟨0, ps, by omega, rfl, HT11, HS6, HPQ, HB11⟩
     case round =>
      clear HT11 HS6 HPQ HB11 hlt hkk hk2
      obtain ⟨k, ps, hkk, rfl, HTB, HSX, HPQ, HB⟩ := hrel
      by_cases hlt : k < 6
      ·have hd6 : decide ((k : Int) < 6) = true := decide_eq_true (by omega)
       obtain ⟨u, fs, hp, hvu, hfl⟩ := HSX.out.at_ hlt
       have hcell : wr.cell? ⟨g1, k, none⟩ = some u := ((own_len HTB.out.own HV6.out).cellAt k (by omega)).trans hvu
       have hgl1 : g1 < wr.heap.size := own_blt HTB.out.own g1 rfl
       obtain ⟨U, cU, rfl⟩ := own_slice (HTB.out.at_ hp)
       have HP := Lib.hid hp
       clear hp hvu
       obtain ⟨xo, rfl⟩ : ∃ xo : World, xo = wr := ⟨_, rfl⟩
       go_wp2
       go_loopw [78] (fun i wr => ∃ (j : Nat) (fs' : List ByteArray), j ≤ fs.length ∧ i = .int .i64 j ∧ Hid (T1 wr w2.heap.size (.slice (some ⟨g1, 0, none⟩) 6 kc) vals (ps.set k (.slice U fs.length cU, fs'))) ∧ Hid (MidS k fs.length j fs') ∧ Hid (PQ w2.heap.size ma.par.length PA QA pc qc ma.par ma.par wr) ∧ Hid (Below w2.heap.size w2 wr)) (fun i _ => fs.length - (RowKit.intOf i).toNat)
       case atStart => exact ⟨0, fs, by omega, rfl, Lib.hid (by rw [set_same HP.out]; exact HTB.out), Lib.hid (MidS.zero rfl), HPQ, HB⟩
       case round =>
        clear HTB HPQ HB hcell hgl1
        obtain ⟨j, fs', hjj, rfl, HTB, HMD, HPQ, HB⟩ := hrel
        by_cases hjt : j < fs.length
        ·have HMS := Lib.hid (HMD.out.succ hjt)
         have hown0 := HTB.out.at_ (set_at HP.out)
         rw [HMD.out.len] at hown0
         obtain ⟨g, rfl, hgb, hgl⟩ := own_some hown0 (by omega)
         obtain ⟨y, hy⟩ := some_of_lt (show j < fs'.length by rw [HMD.out.len]; exact hjt)
         have hc0 : wr.cell? ⟨g, j, none⟩ = some (.string y) := by rw [hown0.cellAt _ (by omega)]; unfold fl1; rw [List.getElem?_map, hy]; rfl
         have hf0 : wr.frozen? ⟨g, j, none⟩ = false := hown0.frozenAt _
         obtain ⟨hs1, hs2⟩ := hown0.stored j (.string (encM k))
         have hfl2 : (fl1 fs').set j (.string (encM k)) = fl1 (fs'.set j (encM k)) := by unfold fl1; rw [List.map_set]
         rw [hfl2] at hs1
         have T7 := HTB.out.turnTo (by decide) (set_at HP.out) (w' := wr.setCell ⟨g, j, none⟩ (.string (encM k))) (u' := .slice (some ⟨g, 0, none⟩) fs.length cU) (fs' := fs'.set j (encM k)) hs2 (by rw [HMS.out.len]; exact hs1) (.inl rfl)
         rw [List.set_set] at T7
         have HT7 := Lib.hid T7
         have HPQ7 := Lib.hid (HPQ.out.other hown0 (by decide) hs2)
         have HB7 := Lib.hid (HB.out.grown hs2 HB.out.size (fun k hk => by injection hk with hk; omega))
         have hcnv := conv_mark k
         have h32 : IntKind.i32.wrap (48 + (k : Int)) = 48 + (k : Int) := IntWalk.i32_in _ (by omega)
         have h64 : IntKind.i64.wrap (48 + (k : Int)) = 48 + (k : Int) := IntWalk.i64_in _ (by omega)
         have hji : (j : Int) < (fs.length : Int) := by omega
         clear T7 hs1 hs2 hfl2 hown0 hy HTB HPQ HB
         go_wp2
         go_roundw
         case rel => exact ⟨j + 1, _, by omega, by go_num, HT7, HMS, HPQ7, HB7⟩
         case measure => simp [RowKit.intOf]; omega
        ·obtain rfl : j = fs.length := by omega
         have HTW := Lib.hid (HSX.out.set HP.out rfl HMD.out)
         go_wp2
         go_roundw
         case rel => exact ⟨k + 1, _, by omega, by go_num, HTB, HTW, HPQ, HB⟩
         case measure => simp [RowKit.intOf]; omega
      ·have hk6 : ¬ (k : Int) < 6 := by omega
       have HS7 := Lib.hid (show Six vals ps 6 from by
        have e : k = 6 := by omega
        rw [← e]; exact HSX.out)
       obtain ⟨k2, rfl⟩ : ∃ k2 : Nat, k2 = k := ⟨_, rfl⟩
       obtain ⟨x10, rfl⟩ : ∃ x10 : World, x10 = wr := ⟨_, rfl⟩
       clear HSX hlt hkk
       go_wp2
       go_loopw [92] (fun i wr => ∃ (j : Nat) (fp : List Pr), j ≤ ma.par.length ∧ i = .int .i64 j ∧ Hid (fp.length = ma.par.length) ∧ Hid (T1 wr w2.heap.size (.slice (some ⟨g1, 0, none⟩) 6 kc) vals ps) ∧ Hid (PQ w2.heap.size ma.par.length PA QA pc qc fp ma.par wr) ∧ Hid (Below w2.heap.size w2 wr)) (fun i _ => ma.par.length - (RowKit.intOf i).toNat)
       case atStart => exact ⟨0, ma.par, by omega, rfl, Lib.hid rfl, HTB, HPQ, HB⟩
       case round =>
        clear HTB HPQ HB hk6
        obtain ⟨j, fp, hjj, rfl, HFL, HTB, HPQ, HB⟩ := hrel
        by_cases hjt : j < ma.par.length
        ·have hji : (j : Int) < (ma.par.length : Int) := by omega
         have hown0 := HPQ.out.1
         obtain ⟨gp, rfl, hgb, hgl⟩ := own_some hown0 (by omega)
         obtain ⟨⟨a0, b0, c0⟩, hy⟩ := some_of_lt (show j < fp.length by rw [HFL.out]; exact hjt)
         obtain ⟨f0, f1, f2⟩ := flat3_get hy
         have HFS := Lib.hid (flat3_set (⟨#[109, 97, 114, 107]⟩, ⟨#[]⟩, false) (l := fp) (k := j) (lt_of_some hy))
         obtain ⟨hs1, hs2⟩ := hown0.stored (j * 3) (.string ⟨#[109, 97, 114, 107]⟩)
         obtain ⟨hs3, hs4⟩ := hs1.stored (j * 3 + 1) (.string ⟨#[]⟩)
         obtain ⟨hs5, hs6⟩ := hs3.stored (j * 3 + 2) (.bool false)
         have hz0 : wr.frozen? ⟨gp, j * 3, none⟩ = false := hown0.frozenAt _
         have hz1 : (wr.setCell ⟨gp, j * 3, none⟩ (.string ⟨#[109, 97, 114, 107]⟩)).frozen? ⟨gp, j * 3 + 1, none⟩ = false := hs1.frozenAt _
         have hz2 : ((wr.setCell ⟨gp, j * 3, none⟩ (.string ⟨#[109, 97, 114, 107]⟩)).setCell ⟨gp, j * 3 + 1, none⟩ (.string ⟨#[]⟩)).frozen? ⟨gp, j * 3 + 2, none⟩ = false := hs3.frozenAt _
         have hc0 : wr.cell? ⟨gp, j * 3, none⟩ = some (.string a0) := (hown0.cellAt _ (by omega)).trans f0
         have hc1 : (wr.setCell ⟨gp, j * 3, none⟩ (.string ⟨#[109, 97, 114, 107]⟩)).cell? ⟨gp, j * 3 + 1, none⟩ = some (.string b0) := by
          rw [hs1.cellAt _ (by omega), List.getElem?_set_ne (by omega)]; exact f1
         have hc2 : ((wr.setCell ⟨gp, j * 3, none⟩ (.string ⟨#[109, 97, 114, 107]⟩)).setCell ⟨gp, j * 3 + 1, none⟩ (.string ⟨#[]⟩)).cell? ⟨gp, j * 3 + 2, none⟩ = some (.bool c0) := by
          rw [hs3.cellAt _ (by omega), List.getElem?_set_ne (by omega), List.getElem?_set_ne (by omega)]; exact f2
         have hon : Only gp wr (((wr.setCell ⟨gp, j * 3, none⟩ (.string ⟨#[109, 97, 114, 107]⟩)).setCell ⟨gp, j * 3 + 1, none⟩ (.string ⟨#[]⟩)).setCell ⟨gp, j * 3 + 2, none⟩ (.bool false)) := (show Only gp wr (wr.setCell ⟨gp, j * 3, none⟩ (.string ⟨#[109, 97, 114, 107]⟩)) from hs2).only hs4 |>.only hs6
         have HFS2 := HFS.out
         dsimp only at HFS2
         rw [HFS2] at hs5
         have HT7 := Lib.hid (HTB.out.beside hown0 (by decide) (by decide) (w' := (((wr.setCell ⟨gp, j * 3, none⟩ (.string ⟨#[109, 97, 114, 107]⟩)).setCell ⟨gp, j * 3 + 1, none⟩ (.string ⟨#[]⟩)).setCell ⟨gp, j * 3 + 2, none⟩ (.bool false))) hon)
         have HPQ7 := Lib.hid (show PQ w2.heap.size ma.par.length (some ⟨gp, 0, none⟩) QA pc qc (fp.set j (⟨#[109, 97, 114, 107]⟩, ⟨#[]⟩, false)) ma.par (((wr.setCell ⟨gp, j * 3, none⟩ (.string ⟨#[109, 97, 114, 107]⟩)).setCell ⟨gp, j * 3 + 1, none⟩ (.string ⟨#[]⟩)).setCell ⟨gp, j * 3 + 2, none⟩ (.bool false)) from ⟨hs5, own_other (v := .slice QA ma.par.length qc) HPQ.out.2 (show wr.grownBy _ (Value.slice (some ⟨gp, 0, none⟩) ma.par.length pc).ownBlock from hon) HAP.out⟩)
         have HB7 := Lib.hid (HB.out.grown hon HB.out.size (fun k hk => by injection hk with hk; omega))
         have HFL7 := Lib.hid (show (fp.set j ((⟨#[109, 97, 114, 107]⟩, ⟨#[]⟩, false) : Pr)).length = ma.par.length by rw [List.length_set]; exact HFL.out)
         clear hs1 hs2 hs3 hs4 hs5 hs6 hown0 hy f0 f1 f2 hon HFS2 HTB HPQ HB
         go_wp2
         go_roundw
         case rel => exact ⟨j + 1, _, by omega, by go_num, HFL7, HT7, HPQ7, HB7⟩
         case measure => simp [RowKit.intOf]; omega
        ·obtain rfl : j = ma.par.length := by omega
         have hbase := HB.out.size
         have HTH := Lib.hid HS7.out.thr
         obtain ⟨x11, rfl⟩ : ∃ x11 : World, x11 = wr := ⟨_, rfl⟩
         clear hbase HS7
         go_wp2
         go_loopw [102] (fun i wr => ∃ (k : Nat) (ps : List (Value × List ByteArray)) (vals : List Value), k ≤ 6 ∧ i = .int .i64 k ∧ Hid (T1 wr w2.heap.size (.slice (some ⟨g1, 0, none⟩) 6 kc) vals ps) ∧ Hid (Thr vals ps k) ∧ Hid (vals.length = 6) ∧ Hid (PQ w2.heap.size ma.par.length PA QA pc qc fp ma.par wr) ∧ Hid (Below w2.heap.size w2 wr)) (fun i _ => 6 - (RowKit.intOf i).toNat)
         case atStart => exact ⟨0, ps, vals, by omega, rfl, HTB, HTH, HV6, HPQ, HB⟩
         case round =>
          clear HTB HTH HV6 HPQ HB hjt hjj
          obtain ⟨k, ps, vals, hkk, rfl, HTB, HTH, HV6, HPQ, HB⟩ := hrel
          by_cases hlt : k < 6
          ·have hd6 : decide ((k : Int) < 6) = true := decide_eq_true (by omega)
           obtain ⟨u, fs, hp, hvu⟩ := HTH.out.at_ hlt
           obtain ⟨n, hn2, hfs⟩ := HTH.out.todo k _ (Nat.le_refl _) hp
           have HP := Lib.hid hp
           have HVU := Lib.hid hvu
           have HN2 := Lib.hid hn2
           have HFS := Lib.hid (show fs = List.replicate n (encM k) ++ List.replicate 0 grownT by rw [show fs = List.replicate n (encM k) from hfs]; simp)
           clear hp hvu hfs
           obtain ⟨xo, rfl⟩ : ∃ xo : World, xo = wr := ⟨_, rfl⟩
           go_wp2
           go_loopw [105] (fun i wr => ∃ (cc : Nat) (v : Value), cc ≤ 9 ∧ i = .int .i64 cc ∧ Hid (T1 wr w2.heap.size (.slice (some ⟨g1, 0, none⟩) 6 kc) (vals.set k v) (ps.set k (v, List.replicate n (encM k) ++ List.replicate cc grownT))) ∧ Hid (PQ w2.heap.size ma.par.length PA QA pc qc fp ma.par wr) ∧ Hid (Below w2.heap.size w2 wr)) (fun i _ => 9 - (RowKit.intOf i).toNat)
           case atStart => exact ⟨0, u, by omega, rfl, Lib.hid (by rw [← HFS.out, set_same HP.out, set_same HVU.out]; exact HTB.out), HPQ, HB⟩
           case round =>
            clear HTB HPQ HB
            obtain ⟨cc, v, hcc, rfl, HTB, HPQ, HB⟩ := hrel
            by_cases hct : cc < 9
            ·have hci : (cc : Int) < 9 := by omega
             have hown := HTB.out.at_ (set_at HP.out)
             have HSN := Lib.hid (show (List.replicate n (encM k) ++ List.replicate cc grownT) ++ [grownT] = List.replicate n (encM k) ++ List.replicate (cc + 1) grownT by rw [List.append_assoc, rep_snoc])
             have hlen : (List.replicate n (encM k) ++ List.replicate cc grownT).length ≤ 2000009 := by simp; omega
             obtain ⟨gs, hgs⟩ : ∃ gs, List.replicate n (encM k) ++ List.replicate cc grownT = gs := ⟨_, rfl⟩
             rw [hgs] at hown HSN hlen
             have HTB2 := Lib.hid (show T1 wr w2.heap.size (.slice (some ⟨g1, 0, none⟩) 6 kc) (vals.set k v) (ps.set k (v, gs)) from by have h := HTB.out; rw [hgs] at h; exact h)
             obtain ⟨U, cU, rfl⟩ := own_slice hown
             have hVl : (vals.set k (.slice U gs.length cU)).length = 6 := by rw [List.length_set]; exact HV6.out
             have hcell : wr.cell? ⟨g1, k, none⟩ = some (.slice U gs.length cU) := ((own_len HTB.out.own hVl).cellAt k (by omega)).trans (set_at HVU.out)
             have hgl1 : g1 < wr.heap.size := own_blt HTB.out.own g1 rfl
             have HTA := Lib.hid (HTB2.out.alloc (.cells #[.string ⟨#[103, 114, 111, 119, 110]⟩] 9))
             have HBA := Lib.hid (HB.out.alloc HB.out.size (.cells #[.string ⟨#[103, 114, 111, 119, 110]⟩] 9))
             have HPA := Lib.hid (HPQ.out.below ((Below.refl _ _).alloc (Nat.le_refl _) (.cells #[.string ⟨#[103, 114, 111, 119, 110]⟩] 9)))
             have HOA := Lib.hid (HTA.out.at_ (set_at HP.out))
             have hbz := HB.out.size
             have HVL := Lib.hid hVl
             clear hown hVl HTB HPQ HB hgs
             go_wp2_with (at_builtin; refine wpList_append_any _ rfl (.tmp 112) (.tmp 113) 33 rfl w2.heap.size 9 j0 (.string ⟨#[]⟩) 1 16 Tryz.underlying33 hj0 hy0 hy1 hy2 rfl (by decide) (.slice U gs.length cU) gs.length (fl1 gs) rfl HOA.out _ (some ⟨wr.heap.size, 0, none⟩) 1 1 (fl1 [grownT]) rfl (reads_of_row (row_newc wr _ 9 rfl) rfl (by decide)) (by intro u hu; simp [fl1] at hu; rw [hu]; rfl) (by unfold maxLen; omega) (by omega) (by simp; omega) ?_; intro v6 w6 hown6 hg6 hat6; obtain ⟨U6, c6, rfl⟩ := own_slice hown6; (have HO6 := Lib.hid (show w6.ownsRow w2.heap.size 9 1 (.slice U6 (gs.length + 1) c6) (gs ++ [grownT]).length (fl1 (gs ++ [grownT])) from by (rw [List.length_append]; unfold fl1 at hown6 ⊢; rw [List.map_append]; exact hown6))); (have HT6 := Lib.hid (HTA.out.turnTo (by decide) (set_at HP.out) hg6 (u' := .slice U6 (gs.length + 1) c6) (fs' := gs ++ [grownT]) HO6.out (hat6.imp id (fun h => by first | exact h | (rw [h]; simp))))); (have HP6 := Lib.hid (HPA.out.other HOA.out (by decide) hg6)); (have HB6 := Lib.hid (HBA.out.grown hg6 (by simp; omega) (own_lt HOA.out))); (have hcell6 : w6.cell? ⟨g1, k, none⟩ = some (.slice U gs.length cU) := ((own_len HT6.out.own HVL.out).cellAt k (by omega)).trans (set_at HVU.out)); (have hfr6 : w6.frozen? ⟨g1, k, none⟩ = false := (own_len HT6.out.own HVL.out).frozenAt _); (have hgl6 : g1 < w6.heap.size := own_blt HT6.out.own g1 rfl); clear hown6 hg6 hat6)
             obtain ⟨hs1, hs2⟩ := (own_len HT6.out.own HVL.out).stored k (.slice U6 (gs.length + 1) c6)
             have hv7 : ((vals.set k (.slice U gs.length cU)).set k (.slice U6 (gs.length + 1) c6)) = vals.set k (.slice U6 (gs.length + 1) c6) := List.set_set ..
             rw [hv7] at hs1
             have T7 := HT6.out.grow (by decide) hs2 (v' := .slice (some ⟨g1, 0, none⟩) 6 kc) (vals' := vals.set k (.slice U6 (gs.length + 1) c6)) (own_len hs1 (by rw [List.length_set]; exact HV6.out.symm))
             rw [List.set_set, HSN.out] at T7
             have HT7 := Lib.hid T7
             have HP7 := Lib.hid (HP6.out.other (own_len HT6.out.own HVL.out) (by decide) hs2)
             have HB7 := Lib.hid (HB6.out.grown hs2 HB6.out.size (fun k hk => by injection hk with hk; omega))
             clear T7 hs1 hs2 hv7 hcell6 hfr6
             go_roundw
             case rel => exact ⟨cc + 1, _, by omega, by go_num, HT7, HP7, HB7⟩
             case measure => simp [RowKit.intOf]; omega
            ·have e9 : cc = 9 := by omega
             have HT9 := Lib.hid (show T1 wr w2.heap.size (.slice (some ⟨g1, 0, none⟩) 6 kc) (vals.set k v) (ps.set k (v, List.replicate n (encM k) ++ List.replicate 9 grownT)) from by have h := HTB.out; rw [e9] at h; exact h)
             have HTH9 := Lib.hid (HTH.out.succ hlt HN2.out v)
             have HV9 := Lib.hid (show (vals.set k v).length = 6 by rw [List.length_set]; exact HV6.out)
             have hci : ¬ (cc : Int) < 9 := by omega
             clear e9
             go_wp2
             go_roundw
             case rel => exact ⟨k + 1, _, _, by omega, by go_num, HT9, HTH9, HV9, HPQ, HB⟩
             case measure => simp [RowKit.intOf]; omega
          ·have hk6 : ¬ (k : Int) < 6 := by omega
           have HTF := Lib.hid (show Thr vals ps 6 from by
            have e : k = 6 := by omega
            rw [← e]; exact HTH.out)
           have HRV := Lib.hid (own_row (own_len HTB.out.own HV6.out))
           obtain ⟨k3, rfl⟩ : ∃ k3 : Nat, k3 = k := ⟨_, rfl⟩
           obtain ⟨x12, rfl⟩ : ∃ x12 : World, x12 = wr := ⟨_, rfl⟩
           clear HTH hkk hlt
           go_wp2
           go_loop [120] (fun i => ∃ k : Nat, k ≤ 6 ∧ i = .int .i64 k) (fun i => 6 - (RowKit.intOf i).toNat)
           case atStart => exact ⟨0, by omega, rfl⟩
           case round =>
            clear hk6
            obtain ⟨k, hkk, rfl⟩ := hrel
            by_cases hlt : k < 6
            ·have hd6 : decide ((k : Int) < 6) = true := decide_eq_true (by omega)
             obtain ⟨u, fs, hp, hvu⟩ := HTF.out.at_ hlt
             obtain ⟨bz, oz, hA0, hbz, hcz⟩ := HRV.out.at_ hvu
             injection hA0 with hA0
             injection hA0 with hA1 hA2
             subst hA1 hA2
             have hcell := hcz k _ hvu
             rw [Nat.zero_add] at hcell
             obtain ⟨n, hn2, hfs⟩ := HTF.out.done k _ hlt hp
             replace hfs : fs = List.replicate n (encM k) ++ List.replicate 9 grownT := hfs
             have hown := HTB.out.at_ hp
             obtain ⟨U, cU, rfl⟩ := own_slice hown
             have HRU := Lib.hid (own_row hown)
             have hfl : fs.length = n + 9 := by rw [hfs]; simp
             have hfl1 : fs.length ≤ n + 9 := by omega
             have hfl2 : n + 9 ≤ fs.length := by omega
             obtain ⟨em, hem⟩ : ∃ em, em = encM k := ⟨_, rfl⟩
             have hcnv : ∀ w : World, (convert 21 9 (.int .i32 (48 + (k : Int)))).run Tryz.prog w = .ok (.string em) w := by rw [hem]; exact conv_mark k
             rw [← hem] at hfs
             have HFS := Lib.hid hfs
             clear hp hvu hcz hfs hown hfl hem
             go_wp2
             go_loop [127] (fun i => ∃ j : Nat, j ≤ fs.length ∧ i = .int .i64 j) (fun i => fs.length - (RowKit.intOf i).toNat)
             case atStart => exact ⟨0, by omega, rfl⟩
             case round =>
              obtain ⟨j, hjj, rfl⟩ := hrel
              by_cases hjt : j < fs.length
              ·obtain ⟨x, hx⟩ := some_of_lt hjt
               obtain ⟨bu, ou, rfl, hbu, h0⟩ := HRU.out.str hx
               have hsub : IntKind.i64.wrap ((fs.length : Int) - 9) = (fs.length : Int) - 9 := IntWalk.i64_in _ (by omega)
               have hadd : IntKind.i64.wrap (48 + (k : Int)) = 48 + (k : Int) := IntWalk.i64_in _ (by omega)
               have h32 : IntKind.i32.wrap (48 + (k : Int)) = 48 + (k : Int) := IntWalk.i32_in _ (by omega)
               have hji : (j : Int) < (fs.length : Int) := by omega
               have hxx := hx
               rw [HFS.out] at hxx
               rcases rep_at hxx with ⟨hjn, hm⟩ | ⟨hjn, hm⟩
               ·subst hm
                have hlo : decide ((j : Int) < (fs.length : Int) - 9) = true := decide_eq_true (by omega)
                have hge : decide ((fs.length : Int) - 9 ≤ (j : Int)) = false := decide_eq_false (by omega)
                have hq : (x.toList != x.toList) = false := by simp
                clear hx hxx
                go_wp2
                go_round
                case rel => exact ⟨j + 1, by omega, by go_num⟩
                case measure => simp [RowKit.intOf]; omega
               ·subst hm
                have hlo : decide ((j : Int) < (fs.length : Int) - 9) = false := decide_eq_false (by omega)
                have hge : decide ((fs.length : Int) - 9 ≤ (j : Int)) = true := decide_eq_true (by omega)
                unfold grownT at h0
                clear hx hxx
                go_wp2
                go_round
                case rel => exact ⟨j + 1, by omega, by go_num⟩
                case measure => simp [RowKit.intOf]; omega
              ·obtain rfl : j = fs.length := by omega
               go_wp2
               go_round
               case rel => exact ⟨k + 1, by omega, by go_num⟩
               case measure => simp [RowKit.intOf]; omega
            ·have hk6 : ¬ (k : Int) < 6 := by omega
             have HBx := Lib.hid (fun (W : World) (h : Below x12.heap.size x12 W) => HB.out.trans (h.mono HB.out.size))
             have HSC := Lib.hid (fun (W : World) (h : Below x12.heap.size x12 W) => HQ.out W (HBx.out W h))
             have HD := Lib.hid (below_drew (Below.refl x12.heap.size x12))
             have hS0 := HSC.out _ HD.out
             have HQR := Lib.hid HPQ.out.2
             clear HTF HRV hlt hkk
             go_upto_region 44 with (fail)
             go_cut [20] (fun x wx => Want x12 ma x wx)
             case first =>
              refine region_T (t := 8) (S := fun w' => w'.cell? ⟨nb, 0, none⟩ = some (.string qm) ∧ w'.cell? ⟨nb, 1, none⟩ = some (.string qp)) (by kernel_rfl) hS0 (fun hHeld => ?_)
              refine' anyT_take (i := 0) (v := _) rfl (by kernel_rfl) (by kernel_rfl) (by kernel_rfl) (by kernel_rfl) (by rfl) (fun _ _ _ h => h) (Or.inl ⟨by rfl, ?h1y⟩) hHeld ?h1r
              case h1y => (intro w hSw; (try dsimp only at hSw); (try simp only [List.getElem_toArray, List.getElem_cons_zero]); go_simp; try (with_reducible rfl))
              (try simp only [List.getElem_toArray, List.getElem_cons_zero, Act.put, List.setIfInBounds_toArray, List.set_cons_zero, List.set_cons_succ])
              refine' anyT_take (i := 2) (v := _) rfl (by kernel_rfl) (by kernel_rfl) (by kernel_rfl) (by kernel_rfl) (by rfl) (fun _ _ _ h => h) (Or.inl ⟨by rfl, ?h2y⟩) hHeld ?h2r
              case h2y => (intro w hSw; (try dsimp only at hSw); (try simp only [List.getElem_toArray, List.getElem_cons_succ, List.getElem_cons_zero]); go_simp; try (with_reducible rfl))
              (try simp only [List.getElem_toArray, List.getElem_cons_succ, List.getElem_cons_zero, Act.put, List.setIfInBounds_toArray, List.set_cons_zero, List.set_cons_succ])
              refine' anyT_take (i := 3) (v := _) rfl (by kernel_rfl) (by kernel_rfl) (by kernel_rfl) (by kernel_rfl) (by rfl) (fun _ _ _ h => h) (Or.inl ⟨by rfl, ?h3y⟩) hHeld ?h3r
              case h3y => (intro w hSw; (try dsimp only at hSw); obtain ⟨s0, s1⟩ := hSw; (try simp only [List.getElem_toArray, List.getElem_cons_succ, List.getElem_cons_zero]); go_simp; try (with_reducible rfl))
              (try simp only [List.getElem_toArray, List.getElem_cons_succ, List.getElem_cons_zero, Act.put, List.setIfInBounds_toArray, List.set_cons_zero, List.set_cons_succ])
              refine' anyT_take (i := 4) (v := _) rfl (by kernel_rfl) (by kernel_rfl) (by kernel_rfl) (by kernel_rfl) (by rfl) (fun _ _ _ h => h) (Or.inl ⟨by rfl, ?h4y⟩) hHeld ?h4r
              case h4y => (intro w hSw; (try dsimp only at hSw); (try simp only [List.getElem_toArray, List.getElem_cons_succ, List.getElem_cons_zero]); go_simp; try (with_reducible rfl))
              (try simp only [List.getElem_toArray, List.getElem_cons_succ, List.getElem_cons_zero, Act.put, List.setIfInBounds_toArray, List.set_cons_zero, List.set_cons_succ])
              refine' anyT_take (i := 5) (v := _) rfl (by kernel_rfl) (by kernel_rfl) (by kernel_rfl) (by kernel_rfl) (by rfl) (fun _ _ _ h => h) (Or.inl ⟨by rfl, ?h5y⟩) hHeld ?h5r
              case h5y => (intro w hSw; (try dsimp only at hSw); obtain ⟨s0, s1⟩ := hSw; (try simp only [List.getElem_toArray, List.getElem_cons_succ, List.getElem_cons_zero]); go_simp; try (with_reducible rfl))
              (try simp only [List.getElem_toArray, List.getElem_cons_succ, List.getElem_cons_zero, Act.put, List.setIfInBounds_toArray, List.set_cons_zero, List.set_cons_succ])
              have HBc := HD
              refine anyT_ready (rs := [1, 7]) (by kernel_rfl) (by simp) ?_
              refine (AllReadyT.cons rfl (fun K hK => ?_) (AllReadyT.cons rfl (fun K hK => ?_) AllReadyT.nil))
              ·go_simp
               go_at_call 15
               (with_reducible refine (HPL.out _ (HBx.out _ HBc.out)).mono ?_)
               rintro e w21 ⟨RA, rc, lp, rfl, hO, hpl, hb⟩
               have HBc := Lib.hid (HBc.out.trans (hb.mono HBc.out.size))
               have HLP := Lib.hid hpl
               have HOP := Lib.hid (fun (W : World) (h : Below w21.heap.size w21 W) => (show OwnR 0 W (.slice RA lp.length rc) lp from (hO.below h).mono (Nat.zero_le _)))
               clear hb hO hpl
               refine hK.out _ _ (.inr (HSC.out _ HBc.out)) (fun _ => ?_)
               clear hK K
               (try simp only [List.getElem_toArray, List.getElem_cons_succ, List.getElem_cons_zero, Act.put, List.setIfInBounds_toArray, List.set_cons_zero, List.set_cons_succ])
               refine anyT_ready (rs := [6, 7]) (by kernel_rfl) (by simp) ?_
               refine (AllReadyT.cons rfl (fun K hK => ?_) (AllReadyT.cons rfl (fun K hK => ?_) AllReadyT.nil))
               ·go_simp
                go_at_call 22
                (with_reducible refine (HRF.out _ RA rc lp (HOP.out _ (Below.refl _ _)) HLP.out).mono ?_)
                rintro e w22 ⟨PB, pd, AB, ad, rfl, hop, hoa, hb⟩
                have HBc := Lib.hid (HBc.out.trans (hb.mono HBc.out.size))
                have HOP := Lib.hid (fun (W : World) (h : Below w22.heap.size w22 W) => HOP.out W (hb.trans (h.mono hb.size)))
                have HX := Lib.hid (fun (W : World) (h : Below w22.heap.size w22 W) => hop.below h)
                have HY := Lib.hid (fun (W : World) (h : Below w22.heap.size w22 W) => own_below hoa h)
                clear hb hop hoa
                refine hK.out _ _ (.inr (HSC.out _ HBc.out)) (fun _ => ?_)
                clear hK K
                (try simp only [List.getElem_toArray, List.getElem_cons_succ, List.getElem_cons_zero, Act.put, List.setIfInBounds_toArray, List.set_cons_zero, List.set_cons_succ])
                refine anyT_ready (rs := [7]) (by kernel_rfl) (by simp) ?_
                refine (AllReadyT.cons rfl (fun K hK => ?_) AllReadyT.nil)
                ·go_simp
                 have hl7 : x12.heap.size ≤ w22.heap.size := HBc.out.size
                 have hb : Below w22.heap.size w22 (w22.alloc (.cells #[.int .i64 0, .int .i64 0, .string ⟨#[]⟩, .slice none 0 0, .slice none 0 0, .string ⟨#[]⟩] 59)) := (Below.refl _ _).alloc (Nat.le_refl _) _
                 have hN : Blk (w22.alloc (.cells #[.int .i64 0, .int .i64 0, .string ⟨#[]⟩, .slice none 0 0, .slice none 0 0, .string ⟨#[]⟩] 59)) w22.heap.size 59 #[.int .i64 0, .int .i64 0, .string ⟨#[]⟩, .slice none 0 0, .slice none 0 0, .string ⟨#[]⟩] := Blk.new w22 _ _
                 have HBc := Lib.hid (HBc.out.trans (hb.mono HBc.out.size))
                 have HOP := Lib.hid (fun (W : World) (h : Below (w22.alloc (.cells #[.int .i64 0, .int .i64 0, .string ⟨#[]⟩, .slice none 0 0, .slice none 0 0, .string ⟨#[]⟩] 59)).heap.size (w22.alloc (.cells #[.int .i64 0, .int .i64 0, .string ⟨#[]⟩, .slice none 0 0, .slice none 0 0, .string ⟨#[]⟩] 59)) W) => HOP.out W (hb.trans (h.mono hb.size)))
                 have HX := Lib.hid (fun (W : World) (h : Below (w22.alloc (.cells #[.int .i64 0, .int .i64 0, .string ⟨#[]⟩, .slice none 0 0, .slice none 0 0, .string ⟨#[]⟩] 59)).heap.size (w22.alloc (.cells #[.int .i64 0, .int .i64 0, .string ⟨#[]⟩, .slice none 0 0, .slice none 0 0, .string ⟨#[]⟩] 59)) W) => HX.out W (hb.trans (h.mono hb.size)))
                 have HY := Lib.hid (fun (W : World) (h : Below (w22.alloc (.cells #[.int .i64 0, .int .i64 0, .string ⟨#[]⟩, .slice none 0 0, .slice none 0 0, .string ⟨#[]⟩] 59)).heap.size (w22.alloc (.cells #[.int .i64 0, .int .i64 0, .string ⟨#[]⟩, .slice none 0 0, .slice none 0 0, .string ⟨#[]⟩] 59)) W) => HY.out W (hb.trans (h.mono hb.size)))
                 have HP7 := Lib.hid (fun (W : World) (h : Below (w22.alloc (.cells #[.int .i64 0, .int .i64 0, .string ⟨#[]⟩, .slice none 0 0, .slice none 0 0, .string ⟨#[]⟩] 59)).heap.size (w22.alloc (.cells #[.int .i64 0, .int .i64 0, .string ⟨#[]⟩, .slice none 0 0, .slice none 0 0, .string ⟨#[]⟩] 59)) W) => hN.below h hN.lt)
                 clear hb hN
                 generalize (w22.alloc (.cells #[.int .i64 0, .int .i64 0, .string ⟨#[]⟩, .slice none 0 0, .slice none 0 0, .string ⟨#[]⟩] 59)) = w23 at *
                 refine hK.out _ _ (.inr (HSC.out _ HBc.out)) (fun _ => ?_)
                 clear hK K
                 (try simp only [List.getElem_toArray, List.getElem_cons_succ, List.getElem_cons_zero, Act.put, List.setIfInBounds_toArray, List.set_cons_zero, List.set_cons_succ])
                 refine anyT_ready (rs := [8]) (by kernel_rfl) (by simp) ?_
                 refine AllReadyT.cons rfl (fun K hK => ?_) AllReadyT.nil
                 have NP := HP7.out _ (Below.refl _ _)
                 have OX := HX.out _ (Below.refl _ _)
                 have OY := HY.out _ (Below.refl _ _)
                 have p0 : w23.cell? ⟨w22.heap.size, 0, none⟩ = some (.int .i64 0) := NP.cell 0
                 have z0 : w23.frozen? ⟨w22.heap.size, 0, none⟩ = false := NP.frozen 0
                 have p1 : w23.cell? ⟨w22.heap.size, 1, none⟩ = some (.int .i64 0) := NP.cell 1
                 have z1 : w23.frozen? ⟨w22.heap.size, 1, none⟩ = false := NP.frozen 1
                 have p2 : w23.cell? ⟨w22.heap.size, 2, none⟩ = some (.string ⟨#[]⟩) := NP.cell 2
                 have z2 : w23.frozen? ⟨w22.heap.size, 2, none⟩ = false := NP.frozen 2
                 have p3 : w23.cell? ⟨w22.heap.size, 3, none⟩ = some (.slice none 0 0) := NP.cell 3
                 have z3 : w23.frozen? ⟨w22.heap.size, 3, none⟩ = false := NP.frozen 3
                 have p4 : w23.cell? ⟨w22.heap.size, 4, none⟩ = some (.slice none 0 0) := NP.cell 4
                 have z4 : w23.frozen? ⟨w22.heap.size, 4, none⟩ = false := NP.frozen 4
                 have p5 : w23.cell? ⟨w22.heap.size, 5, none⟩ = some (.string ⟨#[]⟩) := NP.cell 5
                 have z5 : w23.frozen? ⟨w22.heap.size, 5, none⟩ = false := NP.frozen 5
                 go_simp
                 clear p0 p1 p2 p3 p4 p5 z0 z1 z2 z3 z4 z5
                 show K _ (put6 w23 w22.heap.size (.int .i64 ma.kind) (.int .i64 ma.route) (.string ma.pat) (.slice PB ma.par.length pd) (.slice AB ma.allow.length ad) (.string ma.dest))
                 have HBc := Lib.hid (put6_below (.int .i64 ma.kind) (.int .i64 ma.route) (.string ma.pat) (.slice PB ma.par.length pd) (.slice AB ma.allow.length ad) (.string ma.dest) HBc.out hl7)
                 have OX := put6_row (a := .int .i64 ma.kind) (b := .int .i64 ma.route) (c := .string ma.pat) (d := .slice PB ma.par.length pd) (e := .slice AB ma.allow.length ad) (f := .string ma.dest) OX (trip_ne OX NP)
                 have OY := put6_own (.int .i64 ma.kind) (.int .i64 ma.route) (.string ma.pat) (.slice PB ma.par.length pd) (.slice AB ma.allow.length ad) (.string ma.dest) OY NP (by decide)
                 have NP := put6_blk (.int .i64 ma.kind) (.int .i64 ma.route) (.string ma.pat) (.slice PB ma.par.length pd) (.slice AB ma.allow.length ad) (.string ma.dest) NP
                 generalize (put6 w23 w22.heap.size (.int .i64 ma.kind) (.int .i64 ma.route) (.string ma.pat) (.slice PB ma.par.length pd) (.slice AB ma.allow.length ad) (.string ma.dest)) = wz at *
                 refine hK.out _ _ (.inl (by rfl)) (fun _ => ?_)
                 clear hK K
                 (try simp only [List.getElem_toArray, List.getElem_cons_succ, List.getElem_cons_zero, Act.put, List.setIfInBounds_toArray, List.set_cons_zero, List.set_cons_succ])
                 refine anyT_done (by kernel_rfl) ?_ _
                 have HTW := Lib.hid (show Want x12 ma _ wz from ⟨_, PB, pd, AB, ad, rfl, hl7, NP, OX, own_row OY, HBc.out⟩)
                 clear NP OX OY hHeld hS0
                 go_wp2_with fail
                 go_meet
                 exact HTW.out
               ·go_simp
                have hl7 : x12.heap.size ≤ w21.heap.size := HBc.out.size
                have hb : Below w21.heap.size w21 (w21.alloc (.cells #[.int .i64 0, .int .i64 0, .string ⟨#[]⟩, .slice none 0 0, .slice none 0 0, .string ⟨#[]⟩] 59)) := (Below.refl _ _).alloc (Nat.le_refl _) _
                have hN : Blk (w21.alloc (.cells #[.int .i64 0, .int .i64 0, .string ⟨#[]⟩, .slice none 0 0, .slice none 0 0, .string ⟨#[]⟩] 59)) w21.heap.size 59 #[.int .i64 0, .int .i64 0, .string ⟨#[]⟩, .slice none 0 0, .slice none 0 0, .string ⟨#[]⟩] := Blk.new w21 _ _
                have HBc := Lib.hid (HBc.out.trans (hb.mono HBc.out.size))
                have HOP := Lib.hid (fun (W : World) (h : Below (w21.alloc (.cells #[.int .i64 0, .int .i64 0, .string ⟨#[]⟩, .slice none 0 0, .slice none 0 0, .string ⟨#[]⟩] 59)).heap.size (w21.alloc (.cells #[.int .i64 0, .int .i64 0, .string ⟨#[]⟩, .slice none 0 0, .slice none 0 0, .string ⟨#[]⟩] 59)) W) => HOP.out W (hb.trans (h.mono hb.size)))
                have HP7 := Lib.hid (fun (W : World) (h : Below (w21.alloc (.cells #[.int .i64 0, .int .i64 0, .string ⟨#[]⟩, .slice none 0 0, .slice none 0 0, .string ⟨#[]⟩] 59)).heap.size (w21.alloc (.cells #[.int .i64 0, .int .i64 0, .string ⟨#[]⟩, .slice none 0 0, .slice none 0 0, .string ⟨#[]⟩] 59)) W) => hN.below h hN.lt)
                clear hb hN
                generalize (w21.alloc (.cells #[.int .i64 0, .int .i64 0, .string ⟨#[]⟩, .slice none 0 0, .slice none 0 0, .string ⟨#[]⟩] 59)) = w24 at *
                refine hK.out _ _ (.inr (HSC.out _ HBc.out)) (fun _ => ?_)
                clear hK K
                (try simp only [List.getElem_toArray, List.getElem_cons_succ, List.getElem_cons_zero, Act.put, List.setIfInBounds_toArray, List.set_cons_zero, List.set_cons_succ])
                refine anyT_ready (rs := [6]) (by kernel_rfl) (by simp) ?_
                refine (AllReadyT.cons rfl (fun K hK => ?_) AllReadyT.nil)
                ·go_simp
                 go_at_call 22
                 (with_reducible refine (HRF.out _ RA rc lp (HOP.out _ (Below.refl _ _)) HLP.out).mono ?_)
                 rintro e w25 ⟨PB, pd, AB, ad, rfl, hop, hoa, hb⟩
                 have HBc := Lib.hid (HBc.out.trans (hb.mono HBc.out.size))
                 have HOP := Lib.hid (fun (W : World) (h : Below w25.heap.size w25 W) => HOP.out W (hb.trans (h.mono hb.size)))
                 have HP7 := Lib.hid (fun (W : World) (h : Below w25.heap.size w25 W) => HP7.out W (hb.trans (h.mono hb.size)))
                 have HX := Lib.hid (fun (W : World) (h : Below w25.heap.size w25 W) => hop.below h)
                 have HY := Lib.hid (fun (W : World) (h : Below w25.heap.size w25 W) => own_below hoa h)
                 clear hb hop hoa
                 refine hK.out _ _ (.inr (HSC.out _ HBc.out)) (fun _ => ?_)
                 clear hK K
                 (try simp only [List.getElem_toArray, List.getElem_cons_succ, List.getElem_cons_zero, Act.put, List.setIfInBounds_toArray, List.set_cons_zero, List.set_cons_succ])
                 refine anyT_ready (rs := [8]) (by kernel_rfl) (by simp) ?_
                 refine AllReadyT.cons rfl (fun K hK => ?_) AllReadyT.nil
                 have NP := HP7.out _ (Below.refl _ _)
                 have OX := HX.out _ (Below.refl _ _)
                 have OY := HY.out _ (Below.refl _ _)
                 have p0 : w25.cell? ⟨w21.heap.size, 0, none⟩ = some (.int .i64 0) := NP.cell 0
                 have z0 : w25.frozen? ⟨w21.heap.size, 0, none⟩ = false := NP.frozen 0
                 have p1 : w25.cell? ⟨w21.heap.size, 1, none⟩ = some (.int .i64 0) := NP.cell 1
                 have z1 : w25.frozen? ⟨w21.heap.size, 1, none⟩ = false := NP.frozen 1
                 have p2 : w25.cell? ⟨w21.heap.size, 2, none⟩ = some (.string ⟨#[]⟩) := NP.cell 2
                 have z2 : w25.frozen? ⟨w21.heap.size, 2, none⟩ = false := NP.frozen 2
                 have p3 : w25.cell? ⟨w21.heap.size, 3, none⟩ = some (.slice none 0 0) := NP.cell 3
                 have z3 : w25.frozen? ⟨w21.heap.size, 3, none⟩ = false := NP.frozen 3
                 have p4 : w25.cell? ⟨w21.heap.size, 4, none⟩ = some (.slice none 0 0) := NP.cell 4
                 have z4 : w25.frozen? ⟨w21.heap.size, 4, none⟩ = false := NP.frozen 4
                 have p5 : w25.cell? ⟨w21.heap.size, 5, none⟩ = some (.string ⟨#[]⟩) := NP.cell 5
                 have z5 : w25.frozen? ⟨w21.heap.size, 5, none⟩ = false := NP.frozen 5
                 go_simp
                 clear p0 p1 p2 p3 p4 p5 z0 z1 z2 z3 z4 z5
                 show K _ (put6 w25 w21.heap.size (.int .i64 ma.kind) (.int .i64 ma.route) (.string ma.pat) (.slice PB ma.par.length pd) (.slice AB ma.allow.length ad) (.string ma.dest))
                 have HBc := Lib.hid (put6_below (.int .i64 ma.kind) (.int .i64 ma.route) (.string ma.pat) (.slice PB ma.par.length pd) (.slice AB ma.allow.length ad) (.string ma.dest) HBc.out hl7)
                 have OX := put6_row (a := .int .i64 ma.kind) (b := .int .i64 ma.route) (c := .string ma.pat) (d := .slice PB ma.par.length pd) (e := .slice AB ma.allow.length ad) (f := .string ma.dest) OX (trip_ne OX NP)
                 have OY := put6_own (.int .i64 ma.kind) (.int .i64 ma.route) (.string ma.pat) (.slice PB ma.par.length pd) (.slice AB ma.allow.length ad) (.string ma.dest) OY NP (by decide)
                 have NP := put6_blk (.int .i64 ma.kind) (.int .i64 ma.route) (.string ma.pat) (.slice PB ma.par.length pd) (.slice AB ma.allow.length ad) (.string ma.dest) NP
                 generalize (put6 w25 w21.heap.size (.int .i64 ma.kind) (.int .i64 ma.route) (.string ma.pat) (.slice PB ma.par.length pd) (.slice AB ma.allow.length ad) (.string ma.dest)) = wz at *
                 refine hK.out _ _ (.inl (by rfl)) (fun _ => ?_)
                 clear hK K
                 (try simp only [List.getElem_toArray, List.getElem_cons_succ, List.getElem_cons_zero, Act.put, List.setIfInBounds_toArray, List.set_cons_zero, List.set_cons_succ])
                 refine anyT_done (by kernel_rfl) ?_ _
                 have HTW := Lib.hid (show Want x12 ma _ wz from ⟨_, PB, pd, AB, ad, rfl, hl7, NP, OX, own_row OY, HBc.out⟩)
                 clear NP OX OY hHeld hS0
                 go_wp2_with fail
                 go_meet
                 exact HTW.out
              ·go_simp
               have hl7 : x12.heap.size ≤ x12.heap.size := Nat.le_refl _
               have hN : Blk ((x12.alloc (.cells #[.int .i64 0, .int .i64 0, .string ⟨#[]⟩, .slice none 0 0, .slice none 0 0, .string ⟨#[]⟩] 59)).drew) x12.heap.size 59 #[.int .i64 0, .int .i64 0, .string ⟨#[]⟩, .slice none 0 0, .slice none 0 0, .string ⟨#[]⟩] := (Blk.new x12 _ _).drew
               have HBc : Hid (Below x12.heap.size x12 ((x12.alloc (.cells #[.int .i64 0, .int .i64 0, .string ⟨#[]⟩, .slice none 0 0, .slice none 0 0, .string ⟨#[]⟩] 59)).drew)) := Lib.hid (below_drew ((Below.refl _ x12).alloc (Nat.le_refl _) _))
               have HP7 := Lib.hid (fun (W : World) (h : Below ((x12.alloc (.cells #[.int .i64 0, .int .i64 0, .string ⟨#[]⟩, .slice none 0 0, .slice none 0 0, .string ⟨#[]⟩] 59)).drew).heap.size ((x12.alloc (.cells #[.int .i64 0, .int .i64 0, .string ⟨#[]⟩, .slice none 0 0, .slice none 0 0, .string ⟨#[]⟩] 59)).drew) W) => hN.below h hN.lt)
               clear hN
               generalize ((x12.alloc (.cells #[.int .i64 0, .int .i64 0, .string ⟨#[]⟩, .slice none 0 0, .slice none 0 0, .string ⟨#[]⟩] 59)).drew) = w26 at *
               refine hK.out _ _ (.inr (HSC.out _ HBc.out)) (fun _ => ?_)
               clear hK K
               (try simp only [List.getElem_toArray, List.getElem_cons_succ, List.getElem_cons_zero, Act.put, List.setIfInBounds_toArray, List.set_cons_zero, List.set_cons_succ])
               refine anyT_ready (rs := [1]) (by kernel_rfl) (by simp) ?_
               refine (AllReadyT.cons rfl (fun K hK => ?_) AllReadyT.nil)
               ·go_simp
                go_at_call 15
                (with_reducible refine (HPL.out _ (HBx.out _ HBc.out)).mono ?_)
                rintro e w27 ⟨RA, rc, lp, rfl, hO, hpl, hb⟩
                have HBc := Lib.hid (HBc.out.trans (hb.mono HBc.out.size))
                have HP7 := Lib.hid (fun (W : World) (h : Below w27.heap.size w27 W) => HP7.out W (hb.trans (h.mono hb.size)))
                have HLP := Lib.hid hpl
                have HOP := Lib.hid (fun (W : World) (h : Below w27.heap.size w27 W) => (show OwnR 0 W (.slice RA lp.length rc) lp from (hO.below h).mono (Nat.zero_le _)))
                clear hb hO hpl
                refine hK.out _ _ (.inr (HSC.out _ HBc.out)) (fun _ => ?_)
                clear hK K
                (try simp only [List.getElem_toArray, List.getElem_cons_succ, List.getElem_cons_zero, Act.put, List.setIfInBounds_toArray, List.set_cons_zero, List.set_cons_succ])
                refine anyT_ready (rs := [6]) (by kernel_rfl) (by simp) ?_
                refine (AllReadyT.cons rfl (fun K hK => ?_) AllReadyT.nil)
                ·go_simp
                 go_at_call 22
                 (with_reducible refine (HRF.out _ RA rc lp (HOP.out _ (Below.refl _ _)) HLP.out).mono ?_)
                 rintro e w28 ⟨PB, pd, AB, ad, rfl, hop, hoa, hb⟩
                 have HBc := Lib.hid (HBc.out.trans (hb.mono HBc.out.size))
                 have HP7 := Lib.hid (fun (W : World) (h : Below w28.heap.size w28 W) => HP7.out W (hb.trans (h.mono hb.size)))
                 have HOP := Lib.hid (fun (W : World) (h : Below w28.heap.size w28 W) => HOP.out W (hb.trans (h.mono hb.size)))
                 have HX := Lib.hid (fun (W : World) (h : Below w28.heap.size w28 W) => hop.below h)
                 have HY := Lib.hid (fun (W : World) (h : Below w28.heap.size w28 W) => own_below hoa h)
                 clear hb hop hoa
                 refine hK.out _ _ (.inr (HSC.out _ HBc.out)) (fun _ => ?_)
                 clear hK K
                 (try simp only [List.getElem_toArray, List.getElem_cons_succ, List.getElem_cons_zero, Act.put, List.setIfInBounds_toArray, List.set_cons_zero, List.set_cons_succ])
                 refine anyT_ready (rs := [8]) (by kernel_rfl) (by simp) ?_
                 refine AllReadyT.cons rfl (fun K hK => ?_) AllReadyT.nil
                 have NP := HP7.out _ (Below.refl _ _)
                 have OX := HX.out _ (Below.refl _ _)
                 have OY := HY.out _ (Below.refl _ _)
                 have p0 : w28.cell? ⟨x12.heap.size, 0, none⟩ = some (.int .i64 0) := NP.cell 0
                 have z0 : w28.frozen? ⟨x12.heap.size, 0, none⟩ = false := NP.frozen 0
                 have p1 : w28.cell? ⟨x12.heap.size, 1, none⟩ = some (.int .i64 0) := NP.cell 1
                 have z1 : w28.frozen? ⟨x12.heap.size, 1, none⟩ = false := NP.frozen 1
                 have p2 : w28.cell? ⟨x12.heap.size, 2, none⟩ = some (.string ⟨#[]⟩) := NP.cell 2
                 have z2 : w28.frozen? ⟨x12.heap.size, 2, none⟩ = false := NP.frozen 2
                 have p3 : w28.cell? ⟨x12.heap.size, 3, none⟩ = some (.slice none 0 0) := NP.cell 3
                 have z3 : w28.frozen? ⟨x12.heap.size, 3, none⟩ = false := NP.frozen 3
                 have p4 : w28.cell? ⟨x12.heap.size, 4, none⟩ = some (.slice none 0 0) := NP.cell 4
                 have z4 : w28.frozen? ⟨x12.heap.size, 4, none⟩ = false := NP.frozen 4
                 have p5 : w28.cell? ⟨x12.heap.size, 5, none⟩ = some (.string ⟨#[]⟩) := NP.cell 5
                 have z5 : w28.frozen? ⟨x12.heap.size, 5, none⟩ = false := NP.frozen 5
                 go_simp
                 clear p0 p1 p2 p3 p4 p5 z0 z1 z2 z3 z4 z5
                 show K _ (put6 w28 x12.heap.size (.int .i64 ma.kind) (.int .i64 ma.route) (.string ma.pat) (.slice PB ma.par.length pd) (.slice AB ma.allow.length ad) (.string ma.dest))
                 have HBc := Lib.hid (put6_below (.int .i64 ma.kind) (.int .i64 ma.route) (.string ma.pat) (.slice PB ma.par.length pd) (.slice AB ma.allow.length ad) (.string ma.dest) HBc.out hl7)
                 have OX := put6_row (a := .int .i64 ma.kind) (b := .int .i64 ma.route) (c := .string ma.pat) (d := .slice PB ma.par.length pd) (e := .slice AB ma.allow.length ad) (f := .string ma.dest) OX (trip_ne OX NP)
                 have OY := put6_own (.int .i64 ma.kind) (.int .i64 ma.route) (.string ma.pat) (.slice PB ma.par.length pd) (.slice AB ma.allow.length ad) (.string ma.dest) OY NP (by decide)
                 have NP := put6_blk (.int .i64 ma.kind) (.int .i64 ma.route) (.string ma.pat) (.slice PB ma.par.length pd) (.slice AB ma.allow.length ad) (.string ma.dest) NP
                 generalize (put6 w28 x12.heap.size (.int .i64 ma.kind) (.int .i64 ma.route) (.string ma.pat) (.slice PB ma.par.length pd) (.slice AB ma.allow.length ad) (.string ma.dest)) = wz at *
                 refine hK.out _ _ (.inl (by rfl)) (fun _ => ?_)
                 clear hK K
                 (try simp only [List.getElem_toArray, List.getElem_cons_succ, List.getElem_cons_zero, Act.put, List.setIfInBounds_toArray, List.set_cons_zero, List.set_cons_succ])
                 refine anyT_done (by kernel_rfl) ?_ _
                 have HTW := Lib.hid (show Want x12 ma _ wz from ⟨_, PB, pd, AB, ad, rfl, hl7, NP, OX, own_row OY, HBc.out⟩)
                 clear NP OX OY hHeld hS0
                 go_wp2_with fail
                 go_meet
                 exact HTW.out
             obtain ⟨fb, PB, pd, AB, ad, rfl, hfb, N1, RP, RA, hbx⟩ := hcut
             have HBc := Lib.hid (HBx.out _ hbx)
             have HNF := Lib.hid (fun (W : World) (h : Below wc.heap.size wc W) => N1.below h N1.lt)
             have HRP := Lib.hid (fun (W : World) (h : Below wc.heap.size wc W) => RP.below h)
             have HRL := Lib.hid (fun (W : World) (h : Below wc.heap.size wc W) => RA.below h)
             have HQ0 := Lib.hid (fun (W : World) (h : Below wc.heap.size wc W) => (own_row (own_below HQR.out hbx)).below h)
             have HBy := Lib.hid (fun (W : World) (h : Below wc.heap.size wc W) => HBc.out.trans (h.mono HBc.out.size))
             clear N1 RP RA hbx hS0 HD HSC HBx HQR
             have hS1 : (wc.drew.cell? ⟨nb, 0, none⟩ = some (.string qm) ∧ wc.drew.cell? ⟨nb, 1, none⟩ = some (.string qp)) ∧ wc.drew.cell? ⟨fb, 0, none⟩ = some (.int .i64 ma.kind) ∧ wc.drew.cell? ⟨fb, 1, none⟩ = some (.int .i64 ma.route) ∧ wc.drew.cell? ⟨fb, 2, none⟩ = some (.string ma.pat) ∧ wc.drew.cell? ⟨fb, 3, none⟩ = some (.slice PB ma.par.length pd) ∧ wc.drew.cell? ⟨fb, 4, none⟩ = some (.slice AB ma.allow.length ad) ∧ wc.drew.cell? ⟨fb, 5, none⟩ = some (.string ma.dest) := by
              have hd := below_drew (Below.refl wc.heap.size wc)
              have hN := HNF.out _ hd
              exact ⟨HQ.out _ (HBy.out _ hd), hN.cell 0, hN.cell 1, hN.cell 2, hN.cell 3, hN.cell 4, hN.cell 5⟩
             have HSW := Lib.hid (fun (W : World) (h : Below wc.heap.size wc W) => (show (W.cell? ⟨nb, 0, none⟩ = some (.string qm) ∧ W.cell? ⟨nb, 1, none⟩ = some (.string qp)) ∧ W.cell? ⟨fb, 0, none⟩ = some (.int .i64 ma.kind) ∧ W.cell? ⟨fb, 1, none⟩ = some (.int .i64 ma.route) ∧ W.cell? ⟨fb, 2, none⟩ = some (.string ma.pat) ∧ W.cell? ⟨fb, 3, none⟩ = some (.slice PB ma.par.length pd) ∧ W.cell? ⟨fb, 4, none⟩ = some (.slice AB ma.allow.length ad) ∧ W.cell? ⟨fb, 5, none⟩ = some (.string ma.dest) from ⟨HQ.out _ (HBy.out _ h), (HNF.out _ h).cell 0, (HNF.out _ h).cell 1, (HNF.out _ h).cell 2, (HNF.out _ h).cell 3, (HNF.out _ h).cell 4, (HNF.out _ h).cell 5⟩))
             have HDc := Lib.hid (below_drew (Below.refl wc.heap.size wc))
             have HZ1 := Lib.hid z1
             have HZ3 := Lib.hid z3
             have HZ4 := Lib.hid z4
             clear z1 z2 z3 z4
             go_upto_region 45 with (fail)
             go_region_held3 (fun W => (W.cell? ⟨nb, 0, none⟩ = some (.string qm) ∧ W.cell? ⟨nb, 1, none⟩ = some (.string qp)) ∧ W.cell? ⟨fb, 0, none⟩ = some (.int .i64 ma.kind) ∧ W.cell? ⟨fb, 1, none⟩ = some (.int .i64 ma.route) ∧ W.cell? ⟨fb, 2, none⟩ = some (.string ma.pat) ∧ W.cell? ⟨fb, 3, none⟩ = some (.slice PB ma.par.length pd) ∧ W.cell? ⟨fb, 4, none⟩ = some (.slice AB ma.allow.length ad) ∧ W.cell? ⟨fb, 5, none⟩ = some (.string ma.dest)) (first | exact hS1 | exact HSW.out _ HB37.out | exact HSW.out _ HB36.out | exact HSW.out _ HB35.out | exact HSW.out _ HB34.out | exact HSW.out _ HB33.out | exact HSW.out _ HB32.out | exact HSW.out _ HB31.out) (first
              | (go_at_call 26; (with_reducible refine (paramsS_same QA PB qc pd ma.par _ (HQ0.out _ HDc.out) (HRP.out _ HDc.out) HZ4.out).mono ?_); rintro e w31 ⟨rfl, q31, hw31⟩; (have HB31 := Lib.hid (show Below wc.heap.size wc w31 from by rw [hw31]; exact below_drewN HDc.out q31)); clear hw31)
              | (go_at_call 18; (with_reducible refine (HMT.out _ (HBy.out _ HB31.out)).mono ?_); rintro e w32 ⟨PC, pe, AC, ae, rfl, hop, hoa, hb32⟩; (have HB32 := Lib.hid (HB31.out.trans (hb32.mono HB31.out.size))); (have HSM := Lib.hid (same_any ma.kind ma.route ma.pat ma.dest ma.par ma.allow PC AC PB AB pe ae pd ad w32 (own_row hop) (HRP.out _ HB32.out) (own_row hoa) (HRL.out _ HB32.out) HZ4.out (by have := HZ3.out; omega))); clear hop hoa hb32)
              | (go_at_call 21; (with_reducible refine HSM.out.mono ?_); rintro e w33 ⟨rfl, hb33⟩; (have HB33 := Lib.hid (HB32.out.trans (hb33.mono HB32.out.size))); clear hb33)
              | (go_at_call 25; (with_reducible refine (HAL.out _ (HBy.out _ HB33.out)).mono ?_); rintro e w34 ⟨TA, tc, rfl, hot, hb34⟩; (have HB34 := Lib.hid (HB33.out.trans (hb34.mono HB33.out.size))); (have HOT := Lib.hid (own_row hot)); clear hot hb34)
              | (go_at_call 15; (with_reducible refine (HPL.out _ (HBy.out _ HB34.out)).mono ?_); rintro e w35 ⟨RB, re, lq, rfl, hO, hpl, hb35⟩; (have HB35 := Lib.hid (HB34.out.trans (hb35.mono HB34.out.size))); (have HOT5 := Lib.hid (HOT.out.below hb35)); (have HRA5 := Lib.hid (HRA.out _ RB re lq (hO.mono (Nat.zero_le _)) hpl)); clear hO hpl hb35)
              | (go_at_call 27; (with_reducible refine HRA5.out.mono ?_); rintro e w36 ⟨SA, sc, rfl, hos, hb36⟩; (have HB36 := Lib.hid (HB35.out.trans (hb36.mono HB35.out.size))); (have HTX := Lib.hid (textsSS_any tc sc a1 w36 (HOT5.out.below hb36) (own_row hos) (by have := HZ1.out; omega))); clear hos hb36)
              | (go_at_call 16; (with_reducible refine HTX.out.mono ?_); rintro e w37 ⟨rfl, hb37⟩; (have HB37 := Lib.hid (HB36.out.trans (hb37.mono HB36.out.size))); clear hb37))
             all_goals
              have HFIN := Lib.hid (HB2.out.trans ((HBy.out _ HB37.out).mono HB2.out.size))
              clear hS1
              go_wp2
              go_ret
              exact ⟨rfl, HFIN.out⟩
end Go.Proofs.YtiohmnhbmmhnhaaGreatDoor
