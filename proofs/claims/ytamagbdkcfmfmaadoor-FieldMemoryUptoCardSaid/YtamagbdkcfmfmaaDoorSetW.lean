/-
  Set: plain words and the walk of the program's.
-/
import Derived.Test.YtamagbdkcfmfmaaDoorKept
namespace Go.Proofs.YtamagbdkcfmfmaaDoor
open Go.RowKit Go.Shelf Go.Lib

/-- What has turned is block d alone, and what is new. -/
def Only (d : Nat) (w w' : World) : Prop := w.grownBy w' (some d)
section
variable {d : Nat} {a w w' : World}
theorem Only.refl (d : Nat) (w : World) : Only d w w := ⟨rfl, rfl, rfl, Nat.le_refl _, fun _ _ _ => rfl⟩
theorem Only.only (h : Only d a w) (h2 : Only d w w') : Only d a w' :=
  ⟨h2.os.trans h.os, h2.tape.trans h.tape, h2.output.trans h.output, Nat.le_trans h.size h2.size, fun k hk hne => (h2.block k (Nat.lt_of_lt_of_le hk h.size) hne).trans (h.block k hk hne)⟩
theorem Only.of_below (d : Nat) (hb : Below w.heap.size w w') : Only d w w' := ⟨hb.os, hb.tape, hb.output, hb.size, fun k hk _ => hb.block k hk⟩
theorem Only.alloc (h : Only d a w) (o : Obj) : Only d a (w.alloc o) := h.only (Only.of_below d ((Below.refl _ w).alloc (Nat.le_refl _) o))
theorem Only.own (h : Only d a w) {row : Option Nat} (hg : w.grownBy w' row) (hr : ∀ k, row = some k → a.heap.size ≤ k) : Only d a w' :=
  ⟨hg.os.trans h.os, hg.tape.trans h.tape, hg.output.trans h.output, Nat.le_trans h.size hg.size, fun k hk hne => (hg.block k (Nat.lt_of_lt_of_le hk h.size) (fun e => by have := hr k e.symm; omega)).trans (h.block k hk hne)⟩
theorem Only.set (d : Nat) (w : World) (u : Value) : Only d w (w.setCell ⟨d, 0, none⟩ u) :=
  ⟨rfl, rfl, rfl, by simp [World.setCell], fun k _ hne => Below.heap_setCell _ _ _ _ (fun e => hne (by simp [e]))⟩
theorem Only.cell (h : Only d w w') {p : Addr} (hp : p.block < w.heap.size) (hne : p.block ≠ d) : w'.cell? p = w.cell? p := World.cell?_of_block (w := w) (h.block p.block hp (by simpa using hne))
theorem Only.frozen (h : Only d w w') {p : Addr} (hp : p.block < w.heap.size) (hne : p.block ≠ d) : w'.frozen? p = w.frozen? p := World.frozen?_of_block (w := w) (h.block p.block hp (by simpa using hne))
end

set_option maxRecDepth 20000 in
theorem Set1_any (x y name : ByteArray) (nb db : Nat) (d : Bool) (w : World) (hx : x.size ≤ maxLen) (hn : name.size ≤ maxLen) (hc : w.cell? ⟨nb, 0, none⟩ = some (.string name)) (hlt : nb < w.heap.size)
    (hd : w.cell? ⟨db, 0, none⟩ = some (.bool d)) (hdf : w.frozen? ⟨db, 0, none⟩ = false) (hdl : db < w.heap.size) :
    Calls Tryd.prog 88 #[.agg #[.string x, .string y], .pointer (some ⟨nb, 0, none⟩), .pointer (some ⟨db, 0, none⟩)] w fun e w' => e = .returned (.bool (!alike x name || !d)) ∧ Only db w w' ∧ w'.cell? ⟨db, 0, none⟩ = some (.bool (alike x name || d)) ∧ w'.frozen? ⟨db, 0, none⟩ = false := by
  cases hal : alike x name
  · go_enter Tryd.func88, Tryd.ntmps88
    go_wp2_with fail
    refine (Same_any x name _ hx hn).mono ?_
    rw [hal]
    rintro e w1 ⟨rfl, hb⟩
    have hbw : Below w.heap.size w w1 := below_box (by simpa using hb)
    have hd1 := (hbw.cell (p := ⟨db, 0, none⟩) hdl).trans hd
    have hf1 := (hbw.frozen (p := ⟨db, 0, none⟩) hdl).trans hdf
    have HD := Lib.hid hd1
    have HF := Lib.hid hf1
    clear hd1 hf1
    go_wp2
    go_ret
    exact ⟨rfl, Only.of_below db hbw, HD.out, HF.out⟩
  · go_enter Tryd.func88, Tryd.ntmps88
    go_wp2_with fail
    refine (Same_any x name _ hx hn).mono ?_
    rw [hal]
    rintro e w1 ⟨rfl, hb⟩
    have hbw : Below w.heap.size w w1 := below_box (by simpa using hb)
    have hd1 := (hbw.cell (p := ⟨db, 0, none⟩) hdl).trans hd
    have hf1 := (hbw.frozen (p := ⟨db, 0, none⟩) hdl).trans hdf
    have hdl1 : db < w1.heap.size := Nat.lt_of_lt_of_le hdl hbw.size
    clear hb
    go_wp2
    go_ret
    refine ⟨by cases d <;> rfl, (Only.of_below db hbw).only (Only.set db w1 _), ?_, ?_⟩
    · rw [World.cell?_setCell_same w1 _ _ hd1]; rfl
    · rw [World.frozen?_setCell]; exact hf1

/-- What kept keeps for Set: the first field of the name, and all others. -/
def setStep (name : ByteArray) (s : List Fl × Bool) (p : Fl) : List Fl × Bool := (if (!alike p.1 name || !s.2) = true then s.1 ++ [p] else s.1, alike p.1 name || s.2)
def setKept (l : List Fl) (name : ByteArray) : List Fl × Bool := l.foldl (setStep name) ([], false)
theorem setKept_take {l : List Fl} {k : Nat} {p : Fl} (name : ByteArray) (h : l[k]? = some p) : setKept (l.take (k + 1)) name = setStep name (setKept (l.take k) name) p := by
  rw [take_snoc h]
  unfold setKept
  rw [List.foldl_append]
  rfl
theorem setKept_len (name : ByteArray) (l : List Fl) : (setKept l name).1.length ≤ l.length := by
  have gen : ∀ (l : List Fl) (s : List Fl × Bool), (l.foldl (setStep name) s).1.length ≤ s.1.length + l.length := by
    intro l
    induction l with
    | nil => intro s; simp
    | cons p l ih =>
      intro s
      have := ih (setStep name s p)
      have h2 : (setStep name s p).1.length ≤ s.1.length + 1 := by
        unfold setStep
        split <;> simp
      simp only [List.foldl_cons, List.length_cons]
      omega
  have := gen l ([], false)
  simpa [setKept] using this

def GivesKeptSet (W0 : World) (db : Nat) (r : List Fl × Bool) (e : Ending) (w' : World) : Prop :=
  ∃ A c, e = .returned (.slice A r.1.length c) ∧ w'.ownsRow W0.heap.size 24 2 (.slice A r.1.length c) r.1.length (flat r.1) ∧ Only db W0 w' ∧ w'.cell? ⟨db, 0, none⟩ = some (.bool r.2)
set_option maxRecDepth 20000 in
set_option maxHeartbeats 2000000 in
theorem keptSet_any (A : Option Addr) (c : Nat) (l : List Fl) (name : ByteArray) (nb db : Nat) (w W0 : World) (hr : Row w A (flat l)) (hl : l.length ≤ 4398046511104) (hw : Wide l) (hn : name.size ≤ maxLen)
    (hb0 : Below w.heap.size w W0) (hdb : w.heap.size ≤ db) (hdl : db < W0.heap.size) (hnl : nb < W0.heap.size) (hne : nb ≠ db) (hc : W0.cell? ⟨nb, 0, none⟩ = some (.string name)) (hd : W0.cell? ⟨db, 0, none⟩ = some (.bool false)) (hdf : W0.frozen? ⟨db, 0, none⟩ = false) :
    Calls Tryd.prog 87 #[.slice A l.length c, .func (.func 88) #[] #[.pointer (some ⟨nb, 0, none⟩), .pointer (some ⟨db, 0, none⟩)]] W0 (GivesKeptSet W0 db (setKept l name)) := by
  obtain ⟨i0, hi0, hz0, hz1, hz2⟩ := info_parts info_field
  go_enter Tryd.func87, Tryd.ntmps87
  go_wp2
  go_loopw [5, 10] (fun v i wr => ∃ k : Nat, k ≤ l.length ∧ i = .int .i64 k ∧ wr.ownsRow W0.heap.size 24 2 v (setKept (l.take k) name).1.length (flat (setKept (l.take k) name).1) ∧ Only db W0 wr ∧ wr.cell? ⟨db, 0, none⟩ = some (.bool (setKept (l.take k) name).2) ∧ wr.frozen? ⟨db, 0, none⟩ = false) (fun _ i _ => l.length - (RowKit.intOf i).toNat)
  case atStart => exact ⟨0, by omega, rfl, World.ownsRow_nil _ _ _ _, Only.refl _ _, hd, hdf⟩
  case round =>
    obtain ⟨k, hk, rfl, hown, hon, hdk, hfk⟩ := hrel
    by_cases hlt : k < l.length
    · obtain ⟨⟨x, y⟩, hxy⟩ := some_of_lt hlt
      have hbw : Below w.heap.size w wr := hb0.grown hon hb0.size (fun k hk => by injection hk with hk; omega)
      obtain ⟨b, off, rfl, hb, h0, h1⟩ := (hr.below hbw).pair hxy
      have hlen : (setKept (l.take k) name).1.length ≤ k := Nat.le_trans (setKept_len name _) (List.length_take_le _ _)
      have HS := Lib.hid (setKept_take name hxy)
      have hwx := (hw.at_ hxy).1
      generalize setKept (l.take k) name = r at hown hdk hlen HS
      obtain ⟨out, dn⟩ := r
      have hon1 := hon.alloc (.cells #[.string x, .string y] 24)
      have hnr : nb < wr.heap.size := Nat.lt_of_lt_of_le hnl hon.size
      have hdr : db < wr.heap.size := Nat.lt_of_lt_of_le hdl hon.size
      have HC := Lib.hid (Set1_any x y name nb db dn (wr.alloc (.cells #[.string x, .string y] 24)) hwx hn
        (by rw [hon1.cell (p := ⟨nb, 0, none⟩) hnl hne]; exact hc) (by simp; omega)
        (by rw [World.cell?_alloc_lt _ _ _ hdr]; exact hdk) (by rw [World.frozen?_alloc_old _ _ _ (by simp; omega)]; exact hfk) (by simp; omega))
      have hown0 : (wr.alloc (.cells #[.string x, .string y] 24)).ownsRow W0.heap.size 24 2 _ out.length (flat out) := hown.alloc _
      clear hxy
      go_wp2_with fail
      refine HC.out.mono ?_
      rintro e w1 ⟨rfl, ho1, hd1, hf1⟩
      have hbk : wr.heap.size ≠ db := by omega
      have hc0 : w1.cell? ⟨wr.heap.size, 0, none⟩ = some (.string x) := by rw [ho1.cell (p := ⟨wr.heap.size, 0, none⟩) (by simp) hbk]; simp
      have hc1 : w1.cell? ⟨wr.heap.size, 1, none⟩ = some (.string y) := by rw [ho1.cell (p := ⟨wr.heap.size, 1, none⟩) (by simp) hbk]; simp
      have hown1 := hown0.kept ho1 (.inr (fun e => by have := own_lt hown0 _ e; omega))
      have hon2 : Only db W0 w1 := hon1.only ho1
      have hsz1 : wr.heap.size < w1.heap.size := by have := ho1.size; simp at this; omega
      clear hown0 ho1 hon1 hown hon hdk hfk h0 h1 HC
      cases hal : (!alike x name || !dn)
      · have hkeep : setStep name (out, dn) (x, y) = (out, alike x name || dn) := by unfold setStep; simp only [hal]; rfl
        have HK := Lib.hid hkeep
        clear hkeep
        go_wp2
        go_roundw
        case rel => exact ⟨k + 1, by omega, by go_num, by rw [HS.out, HK.out]; exact hown1, hon2, by rw [HS.out, HK.out]; exact hd1, hf1⟩
        case measure => simp [RowKit.intOf]; omega
      · have hkeep : setStep name (out, dn) (x, y) = (out ++ [(x, y)], alike x name || dn) := by unfold setStep; simp only [hal]; rfl
        have HK := Lib.hid hkeep
        clear hkeep
        go_wp2_with (at_builtin; refine wpList_append_own _ rfl _ _ 33 rfl W0.heap.size 24 i0 (.agg #[.string ⟨#[]⟩, .string ⟨#[]⟩]) 2 32 Tryd.underlying33 hi0 hz0 hz1 hz2 rfl (by decide) _ _ _ rfl (hown1.alloc _) ⟨w1.heap.size, 0, none⟩ 1 1 [.string x, .string y] rfl rfl ?c0 ?c1 ?c2 ?c3 ?c4 ?c5)
        case c0 => exact cells_new2 _ x y _ rfl
        case c1 => exact flat_oneCell [(x, y)]
        case c2 => have h : out.length ≤ k := hlen; unfold maxLen; omega
        case c3 => have h : out.length ≤ k := hlen; omega
        case c4 => simp; have := hon2.size; omega
        case c5 =>
          intro v' w2 hown2 hg2 _
          have hdl1 : db < w1.heap.size := by omega
          have hrow : ∀ k, Value.ownBlock _ = some k → W0.heap.size ≤ k := own_lt hown1
          have hdk2 : w2.heap[db]? = (w1.alloc (.cells #[.string x, .string y] 24)).heap[db]? := hg2.block db (by simp; omega) (fun e => by have := hrow _ e.symm; omega)
          have hd2 : w2.cell? ⟨db, 0, none⟩ = some (.bool (alike x name || dn)) := by
            rw [World.cell?_of_block (a := ⟨db, 0, none⟩) hdk2, World.cell?_alloc_lt _ _ _ hdl1]; exact hd1
          have hf2 : w2.frozen? ⟨db, 0, none⟩ = false := by
            rw [World.frozen?_of_block (a := ⟨db, 0, none⟩) hdk2, World.frozen?_alloc_old _ _ _ (by simp; omega)]; exact hf1
          have hon3 : Only db W0 w2 := (hon2.alloc _).own hg2 hrow
          clear hg2 hdk2 hd1 hf1 hon2 hown1 hrow
          go_wp2
          go_roundw
          case rel => exact ⟨k + 1, by omega, by go_num, by rw [HS.out, HK.out]; simp only [flat_append, List.length_append]; exact hown2, hon3, by rw [HS.out, HK.out]; exact hd2, hf2⟩
          case measure => simp [RowKit.intOf]; omega
    · obtain rfl : k = l.length := by omega
      rw [List.take_length] at hown hdk
      obtain ⟨A', c', rfl⟩ := own_slice hown
      go_wp2
      go_ret
      exact ⟨A', c', rfl, hown, hon, hdk⟩
end Go.Proofs.YtamagbdkcfmfmaaDoor
