/-
  Onward, of the program: a map of the call's own, counted up, and read by the closure.
-/
import Derived.Test.YtamagbdkcfmfmaaDoorToks
import Derived.Test.YtamagbdkcfmfmaaDoorSetW
import Derived.Test.YtamagbdkcfmfmaaDoorKept
import Derived.Maps.OwnOps
import Derived.Maps.Views
import Derived.Deep.RegionHeld3
namespace Go.Proofs.YtamagbdkcfmfmaaDoor
open Go.RowKit Go.Shelf Go.Lib Go.Maps Go.WideMaps

theorem below_step {w w1 w2 : World} {B : Nat} (h : Below B w w1) (h2 : Below w1.heap.size w1 w2) (hB : B ≤ w.heap.size) : Below B w w2 := h.trans (h2.mono (Nat.le_trans hB h.size))
theorem strKeys : Keyed Tryd.prog 9 := string_keyed Tryd.underlying9
theorem zeroInt (w : World) : (zeroValue 3).run Tryd.prog w = .ok (.int .i64 0) w := by kernel_rfl
def kl (s : ByteArray) : Lit := .string s.data.toList
theorem kl_ne {a b : ByteArray} (h : a ≠ b) : kl a ≠ kl b := fun e => h (bytes_ext (by unfold kl at e; injection e))
/-- A map counts: at each text a number from 0 to n, 0 just where the text is not on the list. -/
def Cnt (D : DataW Unit) (n : Nat) (S : List ByteArray) : Prop :=
  IsMap D ∧ ∀ s : ByteArray, ∃ c : Int, D.atKey (kl s) (.lit (.int .i64 0)) = .lit (.int .i64 c) ∧ 0 ≤ c ∧ c ≤ n ∧ (c = 0 ↔ s ∉ S)
theorem Cnt.empty : Cnt (.map []) 0 [] := ⟨isMap_empty, fun s => ⟨0, rfl, by omega, by omega, by simp⟩⟩
theorem Cnt.put {D : DataW Unit} {n : Nat} {S : List ByteArray} (h : Cnt D n S) (t : ByteArray) (v : Int) (h1 : 1 ≤ v) (h2 : v ≤ n + 1) : Cnt (D.put (kl t) (.lit (.int .i64 v))) (n + 1) (S ++ [t]) := by
  refine ⟨h.1.put _ _, fun s => ?_⟩
  by_cases e : s = t
  · subst e
    refine ⟨v, atKey_put_same h.1 (by unfold kl; trivial) _ _, by omega, by omega, ?_⟩
    simp
    omega
  · obtain ⟨c, hc, c0, c1, c2⟩ := h.2 s
    refine ⟨c, (atKey_put_other (kl_ne e) _ _).trans hc, c0, by omega, ?_⟩
    rw [c2]
    simp [e]
theorem tokR_sizes (r : List ByteArray × Int) : ∀ t ∈ (tokR r).1, t.size ≤ (r.1.map (·.size)).sum := by
  intro t ht
  unfold tokR at ht
  split at ht
  · split at ht
    · obtain ⟨x, hx, rfl⟩ := List.mem_map.1 ht
      rw [lower_size]
      exact size_le_sum hx
    · cases ht
  · cases ht
/-- Block mb is such a map. -/
def Ends (w : World) (mb n : Nat) (S : List ByteArray) : Prop := ∃ D : DataW Unit, w.ownsMap Tryd.prog 9 (plainElem Tryd.prog 3) mb n D ∧ Cnt D n S
section
variable {w w' : World} {mb n : Nat} {S : List ByteArray}
theorem Ends.made (w : World) : Ends (w.alloc (.map #[] 0)) w.heap.size 0 [] := ⟨.map [], World.ownsMap_made _ _ _ _, Cnt.empty⟩
theorem Ends.lt (h : Ends w mb n S) : mb < w.heap.size := let ⟨_, h, _⟩ := h; h.lt
theorem Ends.kept (h : Ends w mb n S) {row : Option Nat} (hg : w.grownBy w' row) (hne : some mb ≠ row) : Ends w' mb n S := let ⟨D, h, hc⟩ := h; ⟨D, World.ownsMap.kept h hg hne, hc⟩
theorem Ends.below (h : Ends w mb n S) {B : Nat} (hb : Below B w w') (hB : mb < B) : Ends w' mb n S := by
  obtain ⟨D, ho, hc⟩ := h
  obtain ⟨es, clock, hh, hF, hs, hD⟩ := ho
  exact ⟨D, ⟨es, clock, (hb.block mb hB).trans hh, hF, hs, hD⟩, hc⟩
theorem Ends.alloc (h : Ends w mb n S) (o : Obj) : Ends (w.alloc o) mb n S := let ⟨D, h, hc⟩ := h; ⟨D, h.alloc o, hc⟩
def litInt : DataW Unit → Int
  | .lit (.int _ a) => a
  | _ => 0
theorem lit_inj {a b : Int} (h : DataW.lit (H := Unit) (.int .i64 a) = .lit (.int .i64 b)) : a = b := congrArg litInt h
/-- What is looked up. -/
theorem Ends.look (h : Ends w mb n S) (s : ByteArray) (hs : s.size ≤ maxLen) : ∃ c : Int, (∀ w', Below w.heap.size w w' → (Instr.lookup 118 (.map (some mb)) (.string s) false).run Tryd.prog w' = .ok (.int .i64 c) w') ∧ 0 ≤ c ∧ c ≤ n ∧ (c = 0 ↔ s ∉ S) := by
  have h0 := h
  obtain ⟨D, ho, hc⟩ := h
  obtain ⟨c, hat, c0, c1, c2⟩ := hc.2 s
  refine ⟨c, fun w' hb => ?_, c0, c1, c2⟩
  have ho' : w'.ownsMap Tryd.prog 9 (plainElem Tryd.prog 3) mb n D := by
    obtain ⟨es, clock, hh, hF, hs, hD⟩ := ho
    exact ⟨es, clock, (hb.block mb h0.lt).trans hh, hF, hs, hD⟩
  obtain ⟨c', hrun, hat', _⟩ := ho'.lookup_int strKeys Tryd.underlying118 Tryd.underlying3 (zeroInt _) (keyOf_string_mk Tryd.underlying9 hs)
  unfold kl at hat
  rw [hat'] at hat
  rw [← lit_inj hat]
  exact hrun
set_option maxRecDepth 20000 in
theorem wpList_insert_ends {ops : Array Oper} {rest : List Oper} {o : Oper} {a : Act} {Q : Exit → Act → World → Prop}
    (hg : o.guard = none) (m x v : Operand) (hop : o.op = Op.insert 118 m x v) (hm : a.eval m = .map (some mb)) (hE : Ends w mb n S) (hn : n < maxLen) (s : ByteArray) (c : Int)
    (hx : a.eval x = .string s) (hv : a.eval v = .int .i64 c) (hs : s.size ≤ maxLen) (h1 : 1 ≤ c) (h2 : c ≤ n + 1) (h3 : c ≤ 9223372036854775807)
    (hK : ∀ w', Ends w' mb (n + 1) (S ++ [s]) → w.grownBy w' (some mb) → wpList Tryd.prog ops Q rest (a.put o.dst undef) w') : wpList Tryd.prog ops Q (o :: rest) a w := by
  obtain ⟨D, ho, hc⟩ := hE
  refine wpList_plain hg fun K' hK' => ?_
  obtain ⟨w', hrun, r1, r2⟩ := ho.update strKeys Tryd.underlying118 hn (keyOf_string_mk Tryd.underlying9 hs) (plainElem_int (a := c) Tryd.underlying3 (WalkArith.wf_i64 (by omega)))
  unfold Oper.wp
  simp [execOp, hop, hm, hx, hv, hrun, Result.andThen]
  exact hK' _ _ (hK w' ⟨_, r1, hc.put s c h1 h2⟩ r2)
set_option maxRecDepth 20000 in
theorem wpList_update_ends {ops : Array Oper} {rest : List Oper} {o : Oper} {a : Act} {Q : Exit → Act → World → Prop}
    (hg : o.guard = none) (m x v : Operand) (hop : o.op = Op.mapUpdate 118 m x v) (hm : a.eval m = .map (some mb)) (hE : Ends w mb n S) (hn : n < maxLen) (s : ByteArray) (c : Int)
    (hx : a.eval x = .string s) (hv : a.eval v = .int .i64 c) (hs : s.size ≤ maxLen) (h1 : 1 ≤ c) (h2 : c ≤ n + 1) (h3 : c ≤ 9223372036854775807)
    (hK : ∀ w', Ends w' mb (n + 1) (S ++ [s]) → w.grownBy w' (some mb) → wpList Tryd.prog ops Q rest (a.put o.dst undef) w') : wpList Tryd.prog ops Q (o :: rest) a w := by
  obtain ⟨D, ho, hc⟩ := hE
  refine wpList_plain hg fun K' hK' => ?_
  obtain ⟨w', hrun, r1, r2⟩ := ho.update strKeys Tryd.underlying118 hn (keyOf_string_mk Tryd.underlying9 hs) (plainElem_int (a := c) Tryd.underlying3 (WalkArith.wf_i64 (by omega)))
  unfold Oper.wp
  simp [execOp, hop, hm, hx, hv, hrun, Result.andThen]
  exact hK' _ _ (hK w' ⟨_, r1, hc.put s c h1 h2⟩ r2)
end

set_option maxRecDepth 20000 in
set_option maxHeartbeats 1000000 in
theorem Onward1_any (x y : ByteArray) (eb mb n : Nat) (S : List ByteArray) (w : World) (hx : x.size ≤ maxLen) (hc : w.cell? ⟨eb, 0, none⟩ = some (.map (some mb))) (hlt : eb < w.heap.size) (hE : Ends w mb n S) :
    Calls Tryd.prog 96 #[.agg #[.string x, .string y], .pointer (some ⟨eb, 0, none⟩)] w fun e w' => e = .returned (.bool (!isIn S (lower x))) ∧ Below w.heap.size w w' := by
  obtain ⟨c, hlk, c0, _, c2⟩ := hE.look (lower x) (by rw [lower_size]; exact hx)
  have hres : (c == 0) = !isIn S (lower x) := by
    by_cases h : c = 0
    · have h2 := c2.1 h
      rw [h]
      cases h3 : isIn S (lower x)
      · rfl
      · exact absurd (isIn_iff.1 h3) h2
    · have h2 : lower x ∈ S := by
        by_cases h4 : lower x ∈ S
        · exact h4
        · exact absurd (c2.2 h4) h
      rw [isIn_iff.2 h2]
      simpa using h
  have HRES := Lib.hid hres
  have HLW := Lib.hid (fun w => Lower_any x w hx)
  clear hres c2 hE c0
  have HF := Lib.hid (show ∀ w', Below (w.heap.size + 1) (w.alloc (.cells #[.string x, .string y] 24)) w' → Below (w.heap.size + 1) (w.alloc (.cells #[.string x, .string y] 24)) w' ∧ w'.cell? ⟨eb, 0, none⟩ = some (.map (some mb)) ∧ w'.cell? ⟨w.heap.size, 0, none⟩ = some (.string x) ∧ (Instr.lookup 118 (.map (some mb)) (.string (lower x)) false).run Tryd.prog w' = .ok (.int .i64 c) w' from fun w' hb => by
    refine ⟨hb, ?_, ?_, hlk w' (below_box hb)⟩
    · rw [hb.cell (p := ⟨eb, 0, none⟩) (show eb < _ by omega), World.cell?_alloc_lt _ _ _ hlt]; exact hc
    · rw [hb.cell (p := ⟨w.heap.size, 0, none⟩) (by simp)]; simp)
  clear hlk
  generalize lower x = lx at *
  go_enter Tryd.func96, Tryd.ntmps96
  go_wp2_with fail
  go_region_held3 (fun w' => Below (w.heap.size + 1) (w.alloc (.cells #[.string x, .string y] 24)) w' ∧ w'.cell? ⟨eb, 0, none⟩ = some (.map (some mb)) ∧ w'.cell? ⟨w.heap.size, 0, none⟩ = some (.string x) ∧ (Instr.lookup 118 (.map (some mb)) (.string lx) false).run Tryd.prog w' = .ok (.int .i64 c) w')
    (first | exact HF.out _ (Below.refl _ _) | exact HF.out _ (Below.drew (Below.refl _ _)) | exact HF.out _ (below_drewN (Below.refl _ _) _) | exact HF.out _ (below_step (Below.drew (Below.refl _ _)) hb (by simp)) | exact HF.out _ (below_step (Below.refl _ _) hb (by simp)))
    (first | (go_at_call 81; refine (HLW.out _).mono ?_; rintro e w' ⟨rfl, hb⟩))
  go_wp2
  go_ret
  exact ⟨ret_bool HRES.out, below_box (below_step (Below.drew (Below.refl _ _)) hb (by simp))⟩

theorem onwR_eq (l : List Fl) (toks : List ByteArray) : onwR l toks = l.filter fun p => !isIn (hopEnds ++ toks) (lower p.1) := rfl
set_option maxRecDepth 100000 in
set_option maxHeartbeats 8000000 in
theorem Onward_any (A : Option Addr) (c : Nat) (l : List Fl) (w : World) (hr : Row w A (flat l)) (hk : bulkF l ≤ 1048576) (hg : Glob w) :
    Calls Tryd.prog 53 #[.slice A l.length c] w (GivesFl 24 w (onwR l (tokR (listR (allV l ⟨#[67, 111, 110, 110, 101, 99, 116, 105, 111, 110]⟩))).1)) := by
  have hmm := @run_makeMap Tryd.prog
  have hmf : ∀ (fn : Fn) (first cap : Array Value) (w : World), (Instr.makeFunc fn first cap).run Tryd.prog w = .ok (.func fn first cap) w := fun _ _ _ _ => rfl
  have hbl := bulk_len l
  have hba := bulk_all l ⟨#[67, 111, 110, 110, 101, 99, 116, 105, 111, 110]⟩
  have hlb := listR_bound (allV l ⟨#[67, 111, 110, 110, 101, 99, 116, 105, 111, 110]⟩)
  have htl := tokR_len (listR (allV l ⟨#[67, 111, 110, 110, 101, 99, 116, 105, 111, 110]⟩))
  have hts := tokR_sizes (listR (allV l ⟨#[67, 111, 110, 110, 101, 99, 116, 105, 111, 110]⟩))
  have HT := Lib.hid (fun A c w hr hg => Tokens_any A c l ⟨#[67, 111, 110, 110, 101, 99, 116, 105, 111, 110]⟩ w hr hk (by decide) hg)
  generalize tokR (listR (allV l ⟨#[67, 111, 110, 110, 101, 99, 116, 105, 111, 110]⟩)) = tr at *
  obtain ⟨toks, te⟩ := tr
  simp only at htl hts
  have htk : toks.length ≤ 1048576 := by omega
  have HTS := Lib.hid (show ∀ t ∈ toks, t.size ≤ maxLen from fun t ht => by
    have := hts t ht
    unfold maxLen
    omega)
  clear hts hlb htl hba
  have HFIN := Lib.hid (onwR_eq l toks)
  go_enter Tryd.func53, Tryd.ntmps53
  have E0 := Ends.made w
  have B0 : Below w.heap.size w (w.alloc (.map #[] 0)) := (Below.refl _ _).alloc (Nat.le_refl _) _
  go_wp2_with (refine wpList_insert_ends rfl _ _ _ rfl rfl E0 (by unfold maxLen; omega) ⟨#[99, 111, 110, 110, 101, 99, 116, 105, 111, 110]⟩ 1 rfl rfl (by decide) (by omega) (by omega) (by omega) ?_)
  intro w1 E1 g1
  have B1 := B0.grown g1 B0.size (fun k hk => by injection hk with hk; omega)
  clear g1 E0 B0
  go_wp2_with (refine wpList_insert_ends rfl _ _ _ rfl rfl E1 (by unfold maxLen; omega) ⟨#[107, 101, 101, 112, 45, 97, 108, 105, 118, 101]⟩ 1 rfl rfl (by decide) (by omega) (by omega) (by omega) ?_)
  intro w2 E2 g2
  have B2 := B1.grown g2 B1.size (fun k hk => by injection hk with hk; omega)
  clear g2 E1 B1
  go_wp2_with (refine wpList_insert_ends rfl _ _ _ rfl rfl E2 (by unfold maxLen; omega) ⟨#[112, 114, 111, 120, 121, 45, 99, 111, 110, 110, 101, 99, 116, 105, 111, 110]⟩ 1 rfl rfl (by decide) (by omega) (by omega) (by omega) ?_)
  intro w3 E3 g3
  have B3 := B2.grown g3 B2.size (fun k hk => by injection hk with hk; omega)
  clear g3 E2 B2
  go_wp2_with (refine wpList_insert_ends rfl _ _ _ rfl rfl E3 (by unfold maxLen; omega) ⟨#[116, 101]⟩ 1 rfl rfl (by decide) (by omega) (by omega) (by omega) ?_)
  intro w4 E4 g4
  have B4 := B3.grown g4 B3.size (fun k hk => by injection hk with hk; omega)
  clear g4 E3 B3
  go_wp2_with (refine wpList_insert_ends rfl _ _ _ rfl rfl E4 (by unfold maxLen; omega) ⟨#[116, 114, 97, 105, 108, 101, 114]⟩ 1 rfl rfl (by decide) (by omega) (by omega) (by omega) ?_)
  intro w5 E5 g5
  have B5 := B4.grown g5 B4.size (fun k hk => by injection hk with hk; omega)
  clear g5 E4 B4
  go_wp2_with (refine wpList_insert_ends rfl _ _ _ rfl rfl E5 (by unfold maxLen; omega) ⟨#[116, 114, 97, 110, 115, 102, 101, 114, 45, 101, 110, 99, 111, 100, 105, 110, 103]⟩ 1 rfl rfl (by decide) (by omega) (by omega) (by omega) ?_)
  intro w6 E6 g6
  have B6 := B5.grown g6 B5.size (fun k hk => by injection hk with hk; omega)
  clear g6 E5 B5
  go_wp2_with (refine wpList_insert_ends rfl _ _ _ rfl rfl E6 (by unfold maxLen; omega) ⟨#[117, 112, 103, 114, 97, 100, 101]⟩ 1 rfl rfl (by decide) (by omega) (by omega) (by omega) ?_)
  intro w7 E7 g7
  have B7 := B6.grown g7 B6.size (fun k hk => by injection hk with hk; omega)
  clear g7 E6 B6
  have EE : Ends w7 w.heap.size 7 hopEnds := E7
  have hmb : w.heap.size < w7.heap.size := EE.lt
  have EB := EE.alloc (.cells #[.map (some w.heap.size)] 118)
  have hcb : (w7.alloc (.cells #[.map (some w.heap.size)] 118)).cell? ⟨w7.heap.size, 0, none⟩ = some (.map (some w.heap.size)) := by simp
  have BB := B7.alloc B7.size (.cells #[.map (some w.heap.size)] 118)
  have hr7 := (hr.below B7).alloc (.cells #[.map (some w.heap.size)] 118)
  have hg7 := (hg.beyond B7).alloc (.cells #[.map (some w.heap.size)] 118)
  clear E7 EE B7
  go_wp2_with fail
  refine (HT.out A c _ hr7 hg7).mono ?_
  rintro e w8 ⟨A1, c1, rfl, hown, hb8⟩
  have E8 := EB.below hb8 (by first | (simp; omega) | simp)
  have hc8 := (hb8.cell (p := ⟨w7.heap.size, 0, none⟩) (by simp)).trans hcb
  have B8 := below_step BB hb8 (by first | (simp; done) | (simp; omega))
  have hz8 : w7.heap.size < w8.heap.size := by have := hb8.size; simp at this; omega
  have hbase : (w7.alloc (.cells #[.map (some w.heap.size)] 118)).heap.size = w7.heap.size + 1 := by simp
  rw [hbase] at hown
  simp only at hown
  clear hb8 hcb BB EB hr7 hg7 hbase HT
  go_wp2
  go_loopw [17] (fun i wr => ∃ k : Nat, k ≤ toks.length ∧ i = .int .i64 k ∧ Ends wr w.heap.size (7 + k) (hopEnds ++ toks.take k) ∧ wr.cell? ⟨w7.heap.size, 0, none⟩ = some (.map (some w.heap.size)) ∧ wr.ownsRow (w7.heap.size + 1) 9 1 (.slice A1 toks.length c1) toks.length (toks.map .string) ∧ Below w.heap.size w wr ∧ w7.heap.size < wr.heap.size) (fun i _ => toks.length - (RowKit.intOf i).toNat)
  case atStart => exact ⟨0, by omega, rfl, by simpa using E8, hc8, hown, B8, hz8⟩
  case round =>
    obtain ⟨k, hkk, rfl, hE, hce, hown, hbw, hz⟩ := hrel
    by_cases hlt : k < toks.length
    · obtain ⟨s, hs⟩ := some_of_lt hlt
      obtain ⟨b, off, rfl, hb, h0⟩ := (own_row hown).str hs
      have hss := HTS.out s (List.mem_of_getElem? hs)
      have HTK := Lib.hid (take_snoc hs)
      obtain ⟨cc, hlk, c0, c1', _⟩ := hE.look s hss
      have hrun := hlk wr (Below.refl _ _)
      have hlo : ∀ k, (Value.slice (some ⟨b, off, none⟩) toks.length c1).ownBlock = some k → w.heap.size < k := fun k hk => by have := own_lt hown k hk; omega
      clear hlk hs
      go_wp2_with (refine wpList_update_ends rfl _ _ _ rfl rfl hE (by unfold maxLen; omega) s (cc + 1) rfl rfl hss (by omega) (by omega) (by omega) ?_)
      intro w9 hE9 g9
      have hown9 : w9.ownsRow (w7.heap.size + 1) 9 1 (.slice (some ⟨b, off, none⟩) toks.length c1) toks.length (toks.map .string) := hown.kept g9 (.inr (fun e => by have := hlo _ e; omega))
      have hce9 : w9.cell? ⟨w7.heap.size, 0, none⟩ = some (.map (some w.heap.size)) := (World.cell?_of_block (a := ⟨w7.heap.size, 0, none⟩) (g9.block w7.heap.size hz (by simp; omega))).trans hce
      have hbw9 := hbw.grown g9 hbw.size (fun k hk => by injection hk with hk; omega)
      have hz9 : w7.heap.size < w9.heap.size := Nat.lt_of_lt_of_le hz g9.size
      have HE9 := Lib.hid hE9
      clear hE hce hown hbw hz g9 hE9 hrun h0
      go_wp2
      go_roundw
      case rel => exact ⟨k + 1, by omega, by go_num, by rw [HTK.out, ← List.append_assoc]; exact HE9.out, hce9, hown9, hbw9, hz9⟩
      case measure => simp [RowKit.intOf]; omega
    · obtain rfl : k = toks.length := by omega
      rw [List.take_length] at hE
      have hK := kept_any A c l 96 (.pointer (some ⟨w7.heap.size, 0, none⟩)) (fun p => !isIn (hopEnds ++ toks) (lower p.1)) wr (hr.below hbw) (by omega) (fun args w => Tryd.call96 args w) (fun W hW x y hxy => by
        have hx : x.size ≤ maxLen := (bulk_wide hk _ hxy).1
        exact Onward1_any x y w7.heap.size w.heap.size (7 + toks.length) (hopEnds ++ toks) W hx ((hW.cell (p := ⟨w7.heap.size, 0, none⟩) hz).trans hce) (Nat.lt_of_lt_of_le hz hW.size) (hE.below hW hE.lt))
      rw [← HFIN.out] at hK
      have HK := Lib.hid hK
      clear hK hE hce hown
      go_wp2_with fail
      refine HK.out.mono ?_
      rintro e w9 ⟨A9, c9, rfl, hown9, hb9⟩
      go_wp2
      go_ret
      exact ⟨A9, c9, rfl, hown9.mono hbw.size, hbw.trans (hb9.mono hbw.size)⟩

theorem tokR_nil {r : List ByteArray × Int} (h : ¬ (tokR r).2 = 0) : (tokR r).1 = [] := by
  unfold tokR at *
  split
  · rename_i h1
    rw [if_pos h1] at h
    split
    · rename_i h2
      rw [if_pos h2] at h
      exact absurd rfl h
    · rfl
  · rfl
theorem onwR_take {l : List Fl} {toks : List ByteArray} {k : Nat} {p : Fl} (h : l[k]? = some p) : onwR (l.take (k + 1)) toks = if isIn (hopEnds ++ toks) (lower p.1) = true then onwR (l.take k) toks else onwR (l.take k) toks ++ [p] := by
  rw [take_snoc h]
  unfold onwR
  rw [List.filter_append]
  cases e : isIn (hopEnds ++ toks) (lower p.1) <;> simp [e]
theorem onwR_len (l : List Fl) (toks : List ByteArray) : (onwR l toks).length ≤ l.length := List.length_filter_le _ _
theorem own_seven (w : World) (cs : Array Value) (hs : cs.size = 7) : (w.alloc (.cells cs 9)).ownsRow w.heap.size 9 1 (.slice (some ⟨w.heap.size, 0, none⟩) 7 7) 7 cs.toList := World.ownsRow_lit w cs 7 (Nat.le_refl _) (by unfold maxLen; omega) hs

set_option maxRecDepth 100000 in
set_option maxHeartbeats 8000000 in
theorem rOnward_any (A : Option Addr) (c : Nat) (l : List Fl) (w : World) (hr : Row w A (flat l)) (hk : bulkF l ≤ 1048576) :
    Calls Tryd.prog 54 #[.slice A l.length c] w (GivesFl 28 w (onwR l (tokR (listR (allV l ⟨#[67, 111, 110, 110, 101, 99, 116, 105, 111, 110]⟩))).1)) := by
  obtain ⟨i0, hi0, hz0, hz1, hz2⟩ := info_parts info_string
  obtain ⟨j0, hj0, hy0, hy1, hy2⟩ := info_parts info_rfield
  have hbl := bulk_len l
  have hba := bulk_all l ⟨#[67, 111, 110, 110, 101, 99, 116, 105, 111, 110]⟩
  have hlb := listR_bound (allV l ⟨#[67, 111, 110, 110, 101, 99, 116, 105, 111, 110]⟩)
  have htl := tokR_len (listR (allV l ⟨#[67, 111, 110, 110, 101, 99, 116, 105, 111, 110]⟩))
  have htn := @tokR_nil (listR (allV l ⟨#[67, 111, 110, 110, 101, 99, 116, 105, 111, 110]⟩))
  have HT := Lib.hid (fun A c w hr => rTokens_any A c l ⟨#[67, 111, 110, 110, 101, 99, 116, 105, 111, 110]⟩ w hr hk (by decide))
  generalize tokR (listR (allV l ⟨#[67, 111, 110, 110, 101, 99, 116, 105, 111, 110]⟩)) = tr at *
  obtain ⟨toks, te⟩ := tr
  simp only at htl htn
  have htk : toks.length ≤ 1048576 := by omega
  clear hlb htl hba
  by_cases hte : te = 0
  · subst hte
    clear htn
    go_enter Tryd.func54, Tryd.ntmps54
    go_wp2_with fail
    have hr1 := hr.alloc (.cells #[.string ⟨#[99, 111, 110, 110, 101, 99, 116, 105, 111, 110]⟩, .string ⟨#[107, 101, 101, 112, 45, 97, 108, 105, 118, 101]⟩, .string ⟨#[112, 114, 111, 120, 121, 45, 99, 111, 110, 110, 101, 99, 116, 105, 111, 110]⟩, .string ⟨#[116, 101]⟩, .string ⟨#[116, 114, 97, 105, 108, 101, 114]⟩, .string ⟨#[116, 114, 97, 110, 115, 102, 101, 114, 45, 101, 110, 99, 111, 100, 105, 110, 103]⟩, .string ⟨#[117, 112, 103, 114, 97, 100, 101]⟩] 9)
    have hs7 := own_seven w #[.string ⟨#[99, 111, 110, 110, 101, 99, 116, 105, 111, 110]⟩, .string ⟨#[107, 101, 101, 112, 45, 97, 108, 105, 118, 101]⟩, .string ⟨#[112, 114, 111, 120, 121, 45, 99, 111, 110, 110, 101, 99, 116, 105, 111, 110]⟩, .string ⟨#[116, 101]⟩, .string ⟨#[116, 114, 97, 105, 108, 101, 114]⟩, .string ⟨#[116, 114, 97, 110, 115, 102, 101, 114, 45, 101, 110, 99, 111, 100, 105, 110, 103]⟩, .string ⟨#[117, 112, 103, 114, 97, 100, 101]⟩] rfl
    have hb1 := (Below.refl w.heap.size w).alloc (Nat.le_refl _) (.cells #[.string ⟨#[99, 111, 110, 110, 101, 99, 116, 105, 111, 110]⟩, .string ⟨#[107, 101, 101, 112, 45, 97, 108, 105, 118, 101]⟩, .string ⟨#[112, 114, 111, 120, 121, 45, 99, 111, 110, 110, 101, 99, 116, 105, 111, 110]⟩, .string ⟨#[116, 101]⟩, .string ⟨#[116, 114, 97, 105, 108, 101, 114]⟩, .string ⟨#[116, 114, 97, 110, 115, 102, 101, 114, 45, 101, 110, 99, 111, 100, 105, 110, 103]⟩, .string ⟨#[117, 112, 103, 114, 97, 100, 101]⟩] 9)
    refine (HT.out A c _ hr1).mono ?_
    rintro e w2 ⟨A2, c2, rfl, hown2, hb2⟩
    have hr2 := hr1.below hb2
    have hs2 := own_below hs7 hb2
    have hbw2 := below_step hb1 hb2 (by simp)
    have hrow2 := own_row hown2
    simp only at hrow2
    clear hr1 hs7 hb1 hb2 hown2
    go_wp2_with (at_builtin; refine wpList_append_any _ rfl (.tmp 17) (.tmp 18) 60 rfl w.heap.size 9 i0 (.string ⟨#[]⟩) 1 16 Tryd.underlying60 hi0 hz0 hz1 hz2 rfl (by decide) _ 7 _ rfl hs2 _ A2 toks.length c2 (toks.map .string) rfl (reads_of_row hrow2 (by simp) (by decide)) ?x1 ?x2 ?x3 ?x4 ?x5)
    case x1 => exact strs_oneCell toks
    case x2 => unfold maxLen; omega
    case x3 => omega
    case x4 => exact hbw2.size
    case x5 =>
      intro v' wE hownE hgE _
      have hbwE : Below w.heap.size w wE := hbw2.grown hgE hbw2.size (own_lt hs2)
      have hrE := hr.below hbwE
      obtain ⟨AE, cE, rfl⟩ := own_slice hownE
      have hEr := own_row hownE
      replace hEr : Row wE AE ((hopEnds ++ toks).map .string) := hEr
      have hel : (hopEnds ++ toks).length = 7 + toks.length := by rw [List.length_append]; rfl
      rw [← hel]
      clear hs2 hgE hownE hrow2
      have hee : ∃ E, E = hopEnds ++ toks := ⟨_, rfl⟩
      obtain ⟨E, hee⟩ := hee
      rw [← hee] at hEr hel ⊢
      have HEE := Lib.hid hee
      have hEl : E.length ≤ 1048583 := by omega
      clear hee hel hr2 hbw2
      go_wp2
      go_loopw [6, 22] (fun v i wr => ∃ k : Nat, k ≤ l.length ∧ i = .int .i64 k ∧ wr.ownsRow wE.heap.size 28 2 v (onwR (l.take k) toks).length (flat (onwR (l.take k) toks)) ∧ Below wE.heap.size wE wr) (fun _ i _ => l.length - (RowKit.intOf i).toNat)
      case atStart => exact ⟨0, by omega, rfl, World.ownsRow_nil _ _ _ _, Below.refl _ _⟩
      case round =>
        obtain ⟨k, hkk, rfl, hown, hbw⟩ := hrel
        by_cases hlt : k < l.length
        · obtain ⟨⟨x, y⟩, hxy⟩ := some_of_lt hlt
          obtain ⟨b, off, hA, hb, h0, h1⟩ := (Row.below hrE hbw).pair hxy
          subst hA
          have hwx := (bulk_wide hk).at_ hxy
          have HLW := Lib.hid (fun w => rLower_any x w hwx.1)
          have hok := onwR_len (l.take k) toks
          have hlk : (l.take k).length ≤ k := List.length_take_le _ _
          have HS := Lib.hid (show onwR (l.take (k + 1)) toks = if isIn (hopEnds ++ toks) (lower x) = true then onwR (l.take k) toks else onwR (l.take k) toks ++ [(x, y)] from onwR_take hxy)
          have hE := Row.below hEr hbw
          clear hxy hwx
          go_wp2_with fail
          refine (HLW.out _).mono ?_
          rintro e w3 ⟨rfl, hb3⟩
          have hb3' : Below (wr.heap.size + 1) (wr.alloc (.cells #[.string x, .string y] 28)) w3 := by simpa using hb3
          obtain ⟨⟨hc0, hc1⟩, _, hsz⟩ := box2 hb3'
          have hE3 := hE.below (below_box hb3')
          have hbw3 : Below wE.heap.size wE w3 := hbw.trans ((below_box hb3').mono hbw.size)
          have hown3 := own_below (hown.alloc _) hb3
          clear hb3 hb3' h0 h1 hown hE
          have HIN := Lib.hid (rIn_any AE cE E (lower x) w3 hE3 (by omega))
          rw [HEE.out] at HIN
          generalize isIn (hopEnds ++ toks) (lower x) = bi at *
          try rw [← HEE.out] at HIN
          generalize lower x = lx at *
          cases bi
          · go_wp2_with fail
            refine HIN.out.mono ?_
            rintro e w4 ⟨rfl, rfl⟩
            go_wp2_with (at_builtin; refine wpList_append_own _ rfl _ _ 40 rfl wE.heap.size 28 j0 (.agg #[.string ⟨#[]⟩, .string ⟨#[]⟩]) 2 32 Tryd.underlying40 hj0 hy0 hy1 hy2 rfl (by decide) _ _ _ rfl (hown3.alloc _) ⟨w3.heap.size, 0, none⟩ 1 1 [.string x, .string y] rfl rfl ?c0a ?c1a ?c2a ?c3a ?c4a ?c5a)
            case c0a => exact cells_new2 _ x y _ rfl
            case c1a => exact flat_oneCell [(x, y)]
            case c2a => unfold maxLen; omega
            case c3a => omega
            case c4a => simp; have := hbw3.size; omega
            case c5a =>
              intro v' w5 hown5 hg5 _
              go_wp2
              go_roundw
              case rel => exact ⟨k + 1, by omega, by go_num, by rw [HS.out, if_neg (by simp), flat_append, List.length_append]; exact hown5, (hbw3.alloc hbw3.size _).grown hg5 (by simp; have := hbw3.size; omega) (own_lt hown3)⟩
              case measure => simp [RowKit.intOf]; omega
          · go_wp2_with fail
            refine HIN.out.mono ?_
            rintro e w4 ⟨rfl, rfl⟩
            go_wp2
            go_roundw
            case rel => exact ⟨k + 1, by omega, by go_num, by rw [HS.out]; (first | rw [if_pos rfl] | rw [if_pos trivial]); exact hown3, hbw3⟩
            case measure => simp [RowKit.intOf]; omega
        · obtain rfl : k = l.length := by omega
          rw [List.take_length] at hown
          obtain ⟨A', c', rfl⟩ := own_slice hown
          go_wp2
          go_ret
          exact ⟨A', c', rfl, hown.mono hbwE.size, hbwE.trans (hbw.mono hbwE.size)⟩
  · have hne : (te == 0) = false := beq_eq_false_iff_ne.2 hte
    have htoks : toks = [] := htn hte
    subst htoks
    clear htn hte
    go_enter Tryd.func54, Tryd.ntmps54
    go_wp2_with fail
    have hr1 := hr.alloc (.cells #[.string ⟨#[99, 111, 110, 110, 101, 99, 116, 105, 111, 110]⟩, .string ⟨#[107, 101, 101, 112, 45, 97, 108, 105, 118, 101]⟩, .string ⟨#[112, 114, 111, 120, 121, 45, 99, 111, 110, 110, 101, 99, 116, 105, 111, 110]⟩, .string ⟨#[116, 101]⟩, .string ⟨#[116, 114, 97, 105, 108, 101, 114]⟩, .string ⟨#[116, 114, 97, 110, 115, 102, 101, 114, 45, 101, 110, 99, 111, 100, 105, 110, 103]⟩, .string ⟨#[117, 112, 103, 114, 97, 100, 101]⟩] 9)
    have hs7 := own_seven w #[.string ⟨#[99, 111, 110, 110, 101, 99, 116, 105, 111, 110]⟩, .string ⟨#[107, 101, 101, 112, 45, 97, 108, 105, 118, 101]⟩, .string ⟨#[112, 114, 111, 120, 121, 45, 99, 111, 110, 110, 101, 99, 116, 105, 111, 110]⟩, .string ⟨#[116, 101]⟩, .string ⟨#[116, 114, 97, 105, 108, 101, 114]⟩, .string ⟨#[116, 114, 97, 110, 115, 102, 101, 114, 45, 101, 110, 99, 111, 100, 105, 110, 103]⟩, .string ⟨#[117, 112, 103, 114, 97, 100, 101]⟩] rfl
    have hb1 := (Below.refl w.heap.size w).alloc (Nat.le_refl _) (.cells #[.string ⟨#[99, 111, 110, 110, 101, 99, 116, 105, 111, 110]⟩, .string ⟨#[107, 101, 101, 112, 45, 97, 108, 105, 118, 101]⟩, .string ⟨#[112, 114, 111, 120, 121, 45, 99, 111, 110, 110, 101, 99, 116, 105, 111, 110]⟩, .string ⟨#[116, 101]⟩, .string ⟨#[116, 114, 97, 105, 108, 101, 114]⟩, .string ⟨#[116, 114, 97, 110, 115, 102, 101, 114, 45, 101, 110, 99, 111, 100, 105, 110, 103]⟩, .string ⟨#[117, 112, 103, 114, 97, 100, 101]⟩] 9)
    refine (HT.out A c _ hr1).mono ?_
    rintro e wE ⟨A2, c2, rfl, _, hb2⟩
    have hrE := hr1.below hb2
    have hbwE := below_step hb1 hb2 (by simp)
    have hEr := (own_row hs7).below hb2
    clear hr1 hs7 hb1 hb2
    replace hEr : Row wE (some ⟨w.heap.size, 0, none⟩) ((hopEnds ++ []).map .string) := hEr
    have hel : (hopEnds ++ []).length = 7 := rfl
    have hee : ∃ E, E = hopEnds ++ [] := ⟨_, rfl⟩
    obtain ⟨E, hee⟩ := hee
    rw [← hee] at hEr hel
    have HEE := Lib.hid hee
    have hEl : E.length ≤ 1048583 := by omega
    have HEL := Lib.hid hel
    clear hee hel
    generalize hts : ([] : List ByteArray) = toks at *
    clear hts
    go_wp2
    go_loopw [6, 22] (fun v i wr => ∃ k : Nat, k ≤ l.length ∧ i = .int .i64 k ∧ wr.ownsRow wE.heap.size 28 2 v (onwR (l.take k) toks).length (flat (onwR (l.take k) toks)) ∧ Below wE.heap.size wE wr) (fun _ i _ => l.length - (RowKit.intOf i).toNat)
    case atStart => exact ⟨0, by omega, rfl, World.ownsRow_nil _ _ _ _, Below.refl _ _⟩
    case round =>
      obtain ⟨k, hkk, rfl, hown, hbw⟩ := hrel
      by_cases hlt : k < l.length
      · obtain ⟨⟨x, y⟩, hxy⟩ := some_of_lt hlt
        obtain ⟨b, off, hA, hb, h0, h1⟩ := (Row.below hrE hbw).pair hxy
        subst hA
        have hwx := (bulk_wide hk).at_ hxy
        have HLW := Lib.hid (fun w => rLower_any x w hwx.1)
        have hok := onwR_len (l.take k) toks
        have hlk : (l.take k).length ≤ k := List.length_take_le _ _
        have HS := Lib.hid (show onwR (l.take (k + 1)) toks = if isIn (hopEnds ++ toks) (lower x) = true then onwR (l.take k) toks else onwR (l.take k) toks ++ [(x, y)] from onwR_take hxy)
        have hE := Row.below hEr hbw
        clear hxy hwx
        go_wp2_with fail
        refine (HLW.out _).mono ?_
        rintro e w3 ⟨rfl, hb3⟩
        have hb3' : Below (wr.heap.size + 1) (wr.alloc (.cells #[.string x, .string y] 28)) w3 := by simpa using hb3
        obtain ⟨⟨hc0, hc1⟩, _, hsz⟩ := box2 hb3'
        have hE3 := hE.below (below_box hb3')
        have hbw3 : Below wE.heap.size wE w3 := hbw.trans ((below_box hb3').mono hbw.size)
        have hown3 := own_below (hown.alloc _) hb3
        clear hb3 hb3' h0 h1 hown hE
        have HIN := Lib.hid (rIn_any (some ⟨w.heap.size, 0, none⟩) 7 E (lower x) _ hE3 (by omega))
        rw [HEL.out] at HIN
        rw [HEE.out] at HIN
        generalize isIn (hopEnds ++ toks) (lower x) = bi at *
        try rw [← HEE.out] at HIN
        generalize lower x = lx at *
        cases bi
        · go_wp2_with fail
          refine HIN.out.mono ?_
          rintro e w4 ⟨rfl, rfl⟩
          go_wp2_with (at_builtin; refine wpList_append_own _ rfl _ _ 40 rfl wE.heap.size 28 j0 (.agg #[.string ⟨#[]⟩, .string ⟨#[]⟩]) 2 32 Tryd.underlying40 hj0 hy0 hy1 hy2 rfl (by decide) _ _ _ rfl (hown3.alloc _) ⟨w3.heap.size, 0, none⟩ 1 1 [.string x, .string y] rfl rfl ?c0b ?c1b ?c2b ?c3b ?c4b ?c5b)
          case c0b => exact cells_new2 _ x y _ rfl
          case c1b => exact flat_oneCell [(x, y)]
          case c2b => unfold maxLen; omega
          case c3b => omega
          case c4b => simp; have := hbw3.size; omega
          case c5b =>
            intro v' w5 hown5 hg5 _
            go_wp2
            go_roundw
            case rel => exact ⟨k + 1, by omega, by go_num, by rw [HS.out, if_neg (by simp), flat_append, List.length_append]; exact hown5, (hbw3.alloc hbw3.size _).grown hg5 (by simp; have := hbw3.size; omega) (own_lt hown3)⟩
            case measure => simp [RowKit.intOf]; omega
        · go_wp2_with fail
          refine HIN.out.mono ?_
          rintro e w4 ⟨rfl, rfl⟩
          go_wp2
          go_roundw
          case rel => exact ⟨k + 1, by omega, by go_num, by rw [HS.out]; (first | rw [if_pos rfl] | rw [if_pos trivial]); exact hown3, hbw3⟩
          case measure => simp [RowKit.intOf]; omega
      · obtain rfl : k = l.length := by omega
        rw [List.take_length] at hown
        obtain ⟨A', c', rfl⟩ := own_slice hown
        go_wp2
        go_ret
        exact ⟨A', c', rfl, hown.mono hbwE.size, hbwE.trans (hbw.mono hbwE.size)⟩
end Go.Proofs.YtamagbdkcfmfmaaDoor
