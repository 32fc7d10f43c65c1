/-
  Set: the walk of the program's, whole.
-/
import Derived.Test.YtamagbdkcfmfmaaDoorSetW
namespace Go.Proofs.YtamagbdkcfmfmaaDoor
open Go.RowKit Go.Shelf Go.Lib

/-- The first places mapped, the others as they were. -/
def mixTo (f : Fl → Fl) (l : List Fl) (k : Nat) : List Fl := (l.take k).map f ++ l.drop k
section
variable (f : Fl → Fl) (l : List Fl)
theorem mixTo_length (k : Nat) : (mixTo f l k).length = l.length := by simp [mixTo]; omega
theorem mixTo_get (k j : Nat) (hk : k ≤ l.length) : (mixTo f l k)[j]? = if j < k then l[j]?.map f else l[j]? := by
  have h : ((l.take k).map f).length = k := by simp; omega
  unfold mixTo
  rw [List.getElem?_append, h]
  by_cases e : j < k
  · rw [if_pos e, if_pos e, List.getElem?_map, List.getElem?_take, if_pos e]
  · rw [if_neg e, if_neg e, List.getElem?_drop]
    congr 1
    omega
theorem mixTo_succ {k : Nat} {p : Fl} (h : l[k]? = some p) : mixTo f l (k + 1) = (mixTo f l k).set k (f p) := by
  have hk := lt_of_some h
  apply List.ext_getElem?
  intro j
  rw [mixTo_get f l _ _ (by omega), List.getElem?_set, mixTo_get f l _ _ (by omega), mixTo_length]
  by_cases e : k = j
  · subst e
    rw [if_pos (by omega), if_pos rfl, if_pos hk, h]
    rfl
  · rw [if_neg e]
    by_cases h' : j < k
    · rw [if_pos (by omega), if_pos h']
    · rw [if_neg (by omega), if_neg h']
theorem mixTo_same {k : Nat} {p : Fl} (h : l[k]? = some p) (hp : f p = p) : mixTo f l (k + 1) = mixTo f l k := by
  have hk := lt_of_some h
  apply List.ext_getElem?
  intro j
  rw [mixTo_get f l _ _ (by omega), mixTo_get f l _ _ (by omega)]
  by_cases e : j = k
  · subst e
    rw [if_pos (by omega), if_neg (by omega), h, Option.map_some, hp]
  · by_cases h' : j < k
    · rw [if_pos (by omega), if_pos h']
    · rw [if_neg (by omega), if_neg h']
theorem mixTo_all : mixTo f l l.length = l.map f := by simp [mixTo]
end
theorem flat_set : ∀ (l : List Fl) (k : Nat) (p : Fl), k < l.length → ((flat l).set (k * 2) (.string p.1)).set (k * 2 + 1) (.string p.2) = flat (l.set k p)
  | [], k, p, h => by simp at h
  | q :: l, 0, p, _ => rfl
  | q :: l, k + 1, p, h => by
    have ih := flat_set l k p (by simpa using h)
    show ((Value.string q.1 :: Value.string q.2 :: flat l).set ((k + 1) * 2) _).set ((k + 1) * 2 + 1) _ = Value.string q.1 :: Value.string q.2 :: flat (l.set k p)
    rw [show (k + 1) * 2 = k * 2 + 1 + 1 from by omega]
    simp only [List.set_cons_succ]
    rw [ih]

def setOne (name value : ByteArray) (p : Fl) : Fl := if alike p.1 name = true then (name, value) else p
def setL (l : List Fl) (name value : ByteArray) : List Fl × Int :=
  if (setKept l name).2 = false then addL l name value
  else if wrongC name value ((setKept l name).1.length : Int) = 0 then ((setKept l name).1.map (setOne name value), 0) else ([], wrongC name value ((setKept l name).1.length : Int))
theorem setKept_wide {l : List Fl} (hw : Wide l) (name : ByteArray) : Wide (setKept l name).1 := by
  have gen : ∀ (m : List Fl) (s : List Fl × Bool), Wide m → Wide s.1 → Wide (m.foldl (setStep name) s).1 := by
    intro m
    induction m with
    | nil => intro s _ hs; exact hs
    | cons p m ih =>
      intro s hm hs
      refine ih _ (fun q hq => hm q (List.mem_cons_of_mem _ hq)) ?_
      unfold setStep
      split
      · intro q hq
        rcases List.mem_append.1 hq with h | h
        · exact hs q h
        · simp at h; subst h; exact hm _ (List.mem_cons_self ..)
      · exact hs
  exact gen l ([], false) hw (fun q hq => by simp at hq)

set_option maxRecDepth 20000 in
set_option maxHeartbeats 4000000 in
theorem Set_any (A : Option Addr) (c : Nat) (l : List Fl) (name value : ByteArray) (w : World) (hr : Row w A (flat l)) (hl : l.length < 4398046511104) (hw : Wide l) (hn : name.size ≤ maxLen) (hv : value.size ≤ maxLen) (hg : Glob w) :
    Calls Tryd.prog 36 #[.slice A l.length c, .string name, .string value] w (GivesFlE 24 w (setL l name value)) := by
  have hmf : ∀ (fn : Fn) (first cap : Array Value) (w : World), (Instr.makeFunc fn first cap).run Tryd.prog w = .ok (.func fn first cap) w := fun _ _ _ _ => rfl
  have hW0 : Below w.heap.size w ((w.alloc (.cells #[.string name] 9)).alloc (.cells #[.bool false] 4)) := ((Below.refl _ w).alloc (Nat.le_refl _) _).alloc (by simp) _
  have hK := keptSet_any A c l name w.heap.size (w.heap.size + 1) w ((w.alloc (.cells #[.string name] 9)).alloc (.cells #[.bool false] 4)) hr (by omega) hw hn hW0 (by omega) (by simp) (by simp; omega) (by omega)
    (by rw [World.cell?_alloc_past _ _ _ (by simp), World.cell?_alloc_at _ _ _ _ rfl]; rfl) (by rw [World.cell?_alloc_at _ _ _ _ (by simp)]; rfl) (World.frozen?_alloc_at _ _ _ _ (by simp))
  have hSL := setL.eq_1 l name value
  have hwk := setKept_wide hw name
  have hlk := setKept_len name l
  generalize setKept l name = r at hK hSL hwk hlk
  obtain ⟨out, dn⟩ := r
  have HK := Lib.hid hK
  have HSL := Lib.hid hSL
  clear hK hSL
  go_enter Tryd.func36, Tryd.ntmps36
  go_wp2_with fail
  refine HK.out.mono ?_
  rintro e w1 ⟨A1, c1, rfl, hown, hon, hdc⟩
  have hbw : Below w.heap.size w w1 := hW0.grown hon (by simp; omega) (fun k hk => by injection hk with hk; omega)
  have hnc : w1.cell? ⟨w.heap.size, 0, none⟩ = some (.string name) := by
    rw [hon.cell (p := ⟨w.heap.size, 0, none⟩) (by simp; omega) (by simp)]
    rw [World.cell?_alloc_past _ _ _ (by simp), World.cell?_alloc_at _ _ _ _ rfl]; rfl
  have hz1 : w.heap.size + 1 < w1.heap.size := by have := hon.size; simp at this; omega
  have hown' : w1.ownsRow (w.heap.size + 2) 24 2 (.slice A1 out.length c1) out.length (flat out) := hown.mono (by simp)
  simp only at hdc hwk hlk
  clear hon hown HK
  cases dn
  · have HR := Lib.hid (show setL l name value = addL l name value by rw [HSL.out]; rfl)
    have hA := Add_any A c l name value w1 (hr.below hbw) hl hn hv (hg.beyond hbw)
    have HA := Lib.hid hA
    clear hA HSL
    go_wp2_with fail
    refine HA.out.mono ?_
    rintro e w2 ⟨A2, c2, rfl, hown2, hb2⟩
    go_wp2
    go_ret2
    refine ⟨A2, c2, ?_, ?_, hbw.trans (hb2.mono hbw.size)⟩
    · rw [HR.out]; rfl
    · rw [HR.out]; exact hown2.mono hbw.size
  · have HR := Lib.hid (show setL l name value = if wrongC name value (out.length : Int) = 0 then (out.map (setOne name value), 0) else ([], wrongC name value (out.length : Int)) by rw [HSL.out]; rfl)
    have hWr := wrong_any name value (out.length : Int) w1 hn hv (hg.beyond hbw)
    generalize wrongC name value (out.length : Int) = ec at hWr HR
    have HWr := Lib.hid hWr
    clear hWr HSL
    go_wp2_with fail
    refine HWr.out.mono ?_
    rintro e w2 ⟨rfl, hb2⟩
    have hbw2 : Below w.heap.size w w2 := hbw.trans (hb2.mono hbw.size)
    by_cases hec : ec = 0
    · subst hec
      have hown2 := own_below hown' hb2
      have hnc2 : w2.cell? ⟨w.heap.size, 0, none⟩ = some (.string name) := (hb2.cell (p := ⟨w.heap.size, 0, none⟩) (by simp; omega)).trans hnc
      have hz2 : w.heap.size + 1 < w2.heap.size := Nat.lt_of_lt_of_le hz1 hb2.size
      clear hb2 hnc hdc hown' hbw hz1
      go_wp2
      go_loopw [34] (fun i wr => ∃ k : Nat, k ≤ out.length ∧ i = .int .i64 k ∧ wr.ownsRow (w.heap.size + 2) 24 2 (.slice A1 out.length c1) out.length (flat (mixTo (setOne name value) out k)) ∧ Below w.heap.size w wr ∧ wr.cell? ⟨w.heap.size, 0, none⟩ = some (.string name) ∧ w.heap.size + 1 < wr.heap.size) (fun i _ => out.length - (RowKit.intOf i).toNat)
      case atStart => exact ⟨0, by omega, rfl, hown2, hbw2, hnc2, hz2⟩
      case round =>
        obtain ⟨k, hk, rfl, hownr, hbr, hncr, hzr⟩ := hrel
        have hL := mixTo_length (setOne name value) out k
        have hcap := own_cap hownr
        by_cases hlt : k < out.length
        · obtain ⟨⟨x, y⟩, hxy⟩ := some_of_lt hlt
          have hmx : (mixTo (setOne name value) out k)[k]? = some (x, y) := by rw [mixTo_get _ _ _ _ hk, if_neg (by omega)]; exact hxy
          have hwx := (hwk.at_ hxy).1
          obtain ⟨g, cp, hv, hg0, hg1⟩ := hownr.form (by omega)
          injection hv with hA1 _ hc1
          subst hA1 hc1
          obtain ⟨b, off, hA, hb, h0, h1⟩ := (own_row hownr).pair hmx
          injection hA with hA
          injection hA with hA1 hA2
          subst hA1 hA2
          rw [Nat.zero_add] at h0 h1
          have hgr : Glob wr := hg.beyond hbr
          have HM := Lib.hid (mixTo_succ (setOne name value) out hxy)
          have HMS := Lib.hid (mixTo_same (setOne name value) out hxy)
          have HF := Lib.hid (flat_set (mixTo (setOne name value) out k) k (setOne name value (x, y)) (by omega))
          have hbr1 : Below w.heap.size w (wr.alloc (.cells #[.string x, .string y] 24)) := hbr.alloc hbr.size _
          have hncr1 : (wr.alloc (.cells #[.string x, .string y] 24)).cell? ⟨w.heap.size, 0, none⟩ = some (.string name) := by rw [World.cell?_alloc_lt _ _ _ (by simp; omega)]; exact hncr
          have hown1 := hownr.alloc (.cells #[.string x, .string y] 24)
          have HG := Lib.hid (flat_get hmx)
          clear hmx hxy hownr hL
          go_wp2_with fail
          refine (Same_any x name _ hwx hn).mono ?_
          rintro e w3 ⟨rfl, hb3⟩
          have hbr3 : Below w.heap.size w w3 := hbr1.trans (hb3.mono hbr1.size)
          have hncr3 : w3.cell? ⟨w.heap.size, 0, none⟩ = some (.string name) := (hb3.cell (p := ⟨w.heap.size, 0, none⟩) (by simp; omega)).trans hncr1
          have hown3 := own_below hown1 hb3
          have hz3 : w.heap.size + 1 < w3.heap.size := by have := hb3.size; simp at this; omega
          have hg3 : g < w3.heap.size := by have := hb3.size; simp at this; omega
          clear hb3 hown1 hncr1 hbr1
          have hal : alike x name = false ∨ alike x name = true := by cases alike x name <;> simp
          rcases hal with hal | hal
          · rw [hal]
            have HE := Lib.hid (HMS.out (by unfold setOne; simp only [hal]; rfl))
            clear h0 h1
            go_wp2
            go_roundw
            case rel => exact ⟨k + 1, by omega, by go_num, by rw [HE.out]; exact hown3, hbr3, hncr3, hz3⟩
            case measure => simp [RowKit.intOf]; omega
          · rw [hal]
            have HE := Lib.hid (show setOne name value (x, y) = (name, value) by unfold setOne; simp only [hal]; rfl)
            obtain ⟨hs1, hs2⟩ := hown3.stored (k * 2) (.string name)
            obtain ⟨hs3, hs4⟩ := hs1.stored (k * 2 + 1) (.string value)
            have hf0 : w3.frozen? ⟨g, k * 2, none⟩ = false := hown3.frozenAt _
            have hf1 : (w3.setCell ⟨g, k * 2, none⟩ (.string name)).frozen? ⟨g, k * 2 + 1, none⟩ = false := hs1.frozenAt _
            have hc0 : w3.cell? ⟨g, k * 2, none⟩ = some (.string x) := by rw [hown3.cellAt _ (by omega)]; exact HG.out.1
            have hc2 : (w3.setCell ⟨g, k * 2, none⟩ (.string name)).cell? ⟨g, k * 2 + 1, none⟩ = some (.string y) := by
              rw [hs1.cellAt _ (by omega), List.getElem?_set_ne (by omega)]; exact HG.out.2
            clear h0 h1 hs1 hown3
            have hon : Only g w3 ((w3.setCell ⟨g, k * 2, none⟩ (.string name)).setCell ⟨g, k * 2 + 1, none⟩ (.string value)) := (show Only g w3 (w3.setCell ⟨g, k * 2, none⟩ (.string name)) from hs2).only hs4
            have hbn : Below w.heap.size w ((w3.setCell ⟨g, k * 2, none⟩ (.string name)).setCell ⟨g, k * 2 + 1, none⟩ (.string value)) := hbr3.grown hon (by omega) (fun k hk => by injection hk with hk; omega)
            have hnn := (hon.cell (p := ⟨w.heap.size, 0, none⟩) (by simp; omega) (by simp; omega)).trans hncr3
            have HB := Lib.hid hbn
            have HN := Lib.hid hnn
            have HO := Lib.hid hs3
            have HS := Lib.hid hon.size
            clear hbn hnn hs3 hon hs2 hs4
            go_wp2
            go_roundw
            case rel =>
              refine ⟨k + 1, by omega, by go_num, ?_, HB.out, HN.out, Nat.lt_of_lt_of_le hz3 HS.out⟩
              have h := HF.out
              rw [HE.out] at h
              rw [HM.out, HE.out, ← h]
              exact HO.out
            case measure => simp [RowKit.intOf]; omega
        · have hke : k = out.length := by omega
          subst hke
          rw [mixTo_all] at hownr
          have HR2 := Lib.hid (show setL l name value = (out.map (setOne name value), 0) by rw [HR.out]; rfl)
          go_wp2
          go_ret2
          refine ⟨A1, c1, ?_, ?_, hbr⟩
          · rw [HR2.out]; simp
          · rw [HR2.out]; simp only [List.length_map]; exact hownr.mono (by omega)
    · have HR2 := Lib.hid (show setL l name value = ([], ec) by rw [HR.out, if_neg hec])
      have hne : (ec != 0) = true := by simpa using hec
      clear HR hec
      go_wp2
      go_ret2
      exact givesE_none HR2.out hbw2
end Go.Proofs.YtamagbdkcfmfmaaDoor
