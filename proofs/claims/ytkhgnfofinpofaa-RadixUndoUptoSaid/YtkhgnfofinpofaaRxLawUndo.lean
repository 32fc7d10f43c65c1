/-
  The walk of RadixUndo.
-/
import Derived.Test.YtkhgnfofinpofaaRsK
import Derived.Test.YtkhgnfofinpofaaRxKs
import Derived.Deep.RegionHeld3
namespace Go.Proofs.Ytkhgnfofinpofaa
open Go.RowKit Go.Shelf Go.Lib

theorem sumT_take' {l : List ByteArray} {k : Nat} {x : ByteArray} (h : l[k]? = some x) : sumS (l.take (k + 1)) + (k + 1) = sumS (l.take k) + k + (x.size + 1) := by
  rw [take_snoc h, sumS_append, sumS_cons]
  show _ + (x.size + 0) + _ = _
  omega
theorem sumS_take_le' (l : List ByteArray) (k : Nat) : sumS (l.take k) ≤ sumS l := by
  have h := sumS_append (l.take k) (l.drop k)
  rw [List.take_append_drop] at h
  omega
/-- What was put in is found, and taken out again leaves what there was. -/
theorem undo_get {es : List Rs.En} (hg : Rs.GoodE es) {s : ByteArray} (_hs : (splitP s).2.2 = true) (hn : ∀ y ∈ es, ordP y.2.2.1 (splitP s).1 ≠ 0) (loc : Option Addr × Nat) (v : ByteArray) :
    Rs.findP (Rs.insE es (s, loc, (splitP s).1, v)) s = some (Rs.cntE es (splitP s).1) ∧ (Rs.insE es (s, loc, (splitP s).1, v))[Rs.cntE es (splitP s).1]? = some (s, loc, (splitP s).1, v) ∧ (Rs.insE es (s, loc, (splitP s).1, v)).eraseIdx (Rs.cntE es (splitP s).1) = es := by
  have hc := Rs.cntE_le es (splitP s).1
  have hl : (es.take (Rs.cntE es (splitP s).1)).length = Rs.cntE es (splitP s).1 := by rw [List.length_take]; omega
  have hne : ∀ y ∈ es, y.1 ≠ s := fun y hy e => by
    have h1 := hg.pcs y hy
    rw [e] at h1
    have h2 := hn y hy
    rw [h1] at h2
    exact h2 (ordP_self _)
  have h1 : (Rs.insE es (s, loc, (splitP s).1, v))[Rs.cntE es (splitP s).1]? = some (s, loc, (splitP s).1, v) := by
    unfold Rs.insE
    dsimp only
    rw [List.getElem?_append_right (by omega), hl]
    simp
  refine ⟨?_, h1, ?_⟩
  · have hlt : Rs.cntE es (splitP s).1 < (Rs.insE es (s, loc, (splitP s).1, v)).length := by rw [Rs.insE_length]; omega
    refine List.findIdx?_eq_some_iff_getElem.2 ⟨hlt, ?_, fun j hj => ?_⟩
    · have := (List.getElem?_eq_some_iff.1 h1).2
      rw [this]
      exact decide_eq_true rfl
    · have hj2 : (Rs.insE es (s, loc, (splitP s).1, v))[j]? = es[j]? := by
        unfold Rs.insE
        dsimp only
        rw [List.getElem?_append_left (by omega), List.getElem?_take, if_pos hj]
      have hj3 : j < es.length := by omega
      rw [List.getElem?_eq_getElem (by omega), List.getElem?_eq_getElem hj3] at hj2
      rw [Option.some.inj hj2, decide_eq_false (hne _ (List.getElem_mem hj3))]
      simp
  · unfold Rs.insE
    dsimp only
    rw [List.eraseIdx_append_of_length_le (by omega), hl, Nat.sub_self]
    simp
theorem nodesS_load {w0 w : World} {q B : Nat} {es : List Rs.En} (h : Rs.Kp w0 w q es B) : Rs.nodesE es ≤ 2 * (Rs.pcsE es).length + 2 * edgL (Rs.pcsE es) + 1 := Rs.nodes_bound h.good
/-- What Find answers, but for its list. -/
def ansV (es : List Rs.En) (o : Option Nat) : ByteArray × ByteArray × Bool := match o with
  | none => (⟨#[]⟩, ⟨#[]⟩, false)
  | some i => match es[i]? with
    | none => (⟨#[]⟩, ⟨#[]⟩, false)
    | some x => (x.2.2.2, x.1, true)
theorem find_form {w w' : World} {es : List Rs.En} {path : ByteArray} {e : Ending} {fv fp : ByteArray} {fo : Bool} (h : ansV es (Rs.findE es path) = (fv, fp, fo)) (hf : Rs.GivesFind w es path (Rs.findE es path) e w') :
    ∃ FA fn fc, e = .returned (.tuple #[.string fv, .string fp, .slice FA fn fc, .bool fo]) ∧ Below w.heap.size w w' := by
  rcases hf with ⟨h1, h2, h3⟩ | ⟨i, x, h1, h2, ⟨A, c, h3, _⟩, h4⟩
  · rw [h1] at h
    obtain ⟨rfl, rfl, rfl⟩ : (⟨#[]⟩ : ByteArray) = fv ∧ (⟨#[]⟩ : ByteArray) = fp ∧ false = fo := by
      unfold ansV at h
      injection h with h5 h6
      injection h6 with h6 h7
      exact ⟨h5, h6, h7⟩
    exact ⟨_, _, _, h2, h3⟩
  · rw [h1] at h
    unfold ansV at h
    dsimp only at h
    rw [h2] at h
    injection h with h5 h6
    injection h6 with h6 h7
    subst h5 h6 h7
    exact ⟨_, _, _, h3, h4⟩
theorem find_some (es : List Rs.En) (path : ByteArray) : ∀ i, Rs.findE es path = some i → ∃ x, es[i]? = some x := fun i h => by
  unfold Rs.findE at h
  split at h
  · exact ⟨_, List.getElem?_eq_getElem (List.findIdx?_eq_some_iff_getElem.1 h).1⟩
  · cases h
def newT : ByteArray := ⟨#[110, 101, 119]⟩
set_option maxRecDepth 20000 in
set_option maxHeartbeats 8000000 in
theorem RadixUndo_walk (A : Option Addr) (c : Nat) (l : List ByteArray) (s path : ByteArray) (w : World) (hr : Row w A (l.map .string)) (_hs : s.size ≤ maxLen) (_hp : path.size ≤ maxLen) (hk : (sumS l + l.length) + s.size + path.size ≤ 1048576) (hg : Glob w) :
    Calls Try.prog 8 #[.slice A l.length c, .string s, .string path] w fun e w' => e = .returned (.bool true) ∧ Below w.heap.size w w' := by
  have HN := Lib.hid (Rs.NewK w w (Below.refl _ _))
  have HG := Lib.hid hg
  have HR := Lib.hid hr
  have HTL := Lib.hid (sumS_take_le' l)
  clear hg hr
  go_enter Try.func8, Try.ntmps8
  go_wp2_with fail
  refine HN.out.mono ?_
  rintro e w1 ⟨rfl, hK1, hb1⟩
  go_wp2_with fail
  refine (awake_any _ (HG.out.beyond hb1)).mono ?_
  rintro e w2 ⟨rfl, hb2⟩
  have hK2 := Lib.hid (hK1.below hb2)
  clear HN hK1 hb1 hb2
  generalize hq : w.heap.size + 1 = q at *
  clear hq
  go_wp2
  go_loopw [8] (fun i wr => ∃ (k : Nat) (es : List Rs.En), k ≤ l.length ∧ i = .int .i64 (k : Int) ∧ Hid (Rs.Kp w wr q es (sumS (l.take k) + k))) (fun i _ => l.length - (RowKit.intOf i).toNat)
  case atStart => exact ⟨0, [], by omega, rfl, Lib.hid (hK2.out.more (Nat.zero_le _))⟩
  case round =>
    obtain ⟨k, es, hkl, rfl, HK⟩ := hrel
    by_cases hlt : k < l.length
    · obtain ⟨x, hx⟩ := some_of_lt hlt
      have hkI : (k : Int) < (l.length : Int) := by omega
      obtain ⟨b, off, rfl, hb, hc0⟩ := HR.out.str hx
      have hc := (HK.out.base.cell (p := ⟨b, off + k, none⟩) hb).trans hc0
      have hbq : b ≠ q := by have := HK.out.old; omega
      have hb2 : b < wr.heap.size := Nat.lt_of_lt_of_le hb HK.out.base.size
      have hst := sumT_take' hx
      have h1 := HTL.out k
      have h2 := HTL.out (k + 1)
      have hxz := sumS_mem (List.mem_of_getElem? hx)
      have HI := Lib.hid (fun W (h : Below wr.heap.size wr W) => Rs.InsertK w W q es _ x x (HK.out.below h) (by omega))
      have HST := Lib.hid hst
      have HSB := Lib.hid (fun (W : World) (h : Turn q wr.drew W) => (World.cell?_of_block (a := ⟨b, off + k, none⟩) (h.block b hb2 hbq)).trans hc)
      clear hx hst h1 h2 hK2
      go_wp2_with fail
      go_region_held3 (fun w' => w'.cell? ⟨b, off + k, none⟩ = some (.string x)) (first | assumption | exact HSB.out _ ht3 | go_keep) ((go_at_call 27; (with_reducible refine (HI.out _ (by first | exact Below.refl _ _ | exact below_drew (Below.refl _ _))).mono ?_); rintro e w3 ⟨code, es', rfl, hto, hK3, ht3⟩))
      have hK4 := Lib.hid (show Rs.Kp w w3 q es' (sumS (l.take (k + 1)) + (k + 1)) from by rw [HST.out]; exact hK3)
      clear hto hK3 ht3 HI
      go_wp2
      go_roundw
      case rel => exact ⟨k + 1, es', by omega, by go_num, hK4⟩
      case measure => simp [RowKit.intOf]; omega
    · obtain rfl : k = l.length := by omega
      have hKe := HK.out
      rw [List.take_length] at hKe
      have HKE := Lib.hid hKe
      have hes := hKe.sum
      have hn1 := nodesS_load hKe
      have hel := Rs.sumE_len es
      have HFD := Lib.hid (fun W (h : Below wr.heap.size wr W) => Rs.FindK (w := W) path (HKE.out.below h) (by omega) (by omega) HG.out)
      have HLN := Lib.hid (fun W (h : Below wr.heap.size wr W) => Rs.LenK (w := W) (HKE.out.below h))
      have HND := Lib.hid (fun W (h : Below wr.heap.size wr W) => Rs.NodesK (w := W) (HKE.out.below h) (by omega))
      have HINS := Lib.hid (fun W (h : Below wr.heap.size wr W) => Rs.InsertK w W q es _ s newT (HKE.out.below h) (by omega))
      obtain ⟨⟨fv, fp, fo⟩, hans⟩ : ∃ r, r = ansV es (Rs.findE es path) := ⟨_, rfl⟩
      have hans2 : ∀ es2, es2 = es → ansV es2 (Rs.findE es2 path) = (fv, fp, fo) := fun es2 h => by rw [h, hans]
      have HANS := Lib.hid hans2
      have HAN1 := Lib.hid hans
      clear hans hans2 HK hKe
      go_wp2_with fail
      refine (HLN.out _ (Below.refl _ _)).mono ?_
      rintro e x1 ⟨rfl, rfl⟩
      go_wp2_with fail
      refine (HND.out _ (Below.refl _ _)).mono ?_
      rintro e x2 ⟨rfl, hd2⟩
      have B2 : Below wr.heap.size wr x2 := hd2.below
      go_wp2_with fail
      refine (HFD.out _ B2).mono ?_
      rintro e x3 hf3
      obtain ⟨FA, fn, fc, rfl, hb3⟩ := find_form HAN1.out.symm hf3
      have B3 := B2.trans (hb3.mono B2.size)
      clear hf3 hb3 hd2 B2
      go_wp2_with fail
      refine (HINS.out _ B3).mono ?_
      rintro e x4 ⟨code, es', rfl, hto, hK4, ht4⟩
      have hss : (fv.toList == fv.toList) = true := by simp
      have hpp : (fp.toList == fp.toList) = true := by simp
      have hoo : (fo == fo) = true := by simp
      have hnn : (((es.length : Nat) : Int) == ((es.length : Nat) : Int)) = true := by simp
      have hdd : (((Rs.nodesE es : Nat) : Int) == ((Rs.nodesE es : Nat) : Int)) = true := by simp
      by_cases hcode : code = 0
      · subst hcode
        have hins : (splitP s).2.2 = true ∧ (∀ y ∈ es, ordP y.2.2.1 (splitP s).1 ≠ 0) ∧ ∃ loc, es' = Rs.insE es (s, loc, (splitP s).1, newT) := by
          rcases hto with ⟨_, h, _⟩ | ⟨_, _, h, _⟩ | ⟨h1, h2, _, h3⟩
          · cases h
          · cases h
          · exact ⟨h1, h2, h3⟩
        obtain ⟨hgd, hno, loc, hes'⟩ := hins
        obtain ⟨u1, u2, u3⟩ := undo_get HKE.out.good hgd hno loc newT
        rw [← hes'] at u1 u2 u3
        have hgv : Rs.getV es' s = (newT, true) := Rs.getV_some u1 u2
        have hl' : es'.length = es.length + 1 := by rw [hes']; exact Rs.insE_length es _
        have HGT := Lib.hid (Rs.GetK s hK4 (by omega))
        have HLN4 := Lib.hid (fun W (h : Below x4.heap.size x4 W) => Rs.LenK (w := W) (hK4.below h))
        have HRM := Lib.hid (fun W (h : Below x4.heap.size x4 W) => Rs.RemoveK w W q es' _ s (hK4.below h) (by omega))
        have HU := Lib.hid (show ∀ r es2, Rs.RemTo es' s r es2 → r = (newT, true) ∧ es2 = es from fun r es2 h => by
          rcases h with ⟨h, _⟩ | ⟨i, y, h1, h2, h3, h4⟩
          · rw [u1] at h; cases h
          · rw [u1] at h1
            obtain rfl := Option.some.inj h1
            rw [u2] at h2
            obtain rfl := Option.some.inj h2
            exact ⟨h3, h4.trans u3⟩)
        rw [hgv] at HGT
        rw [hl'] at HLN4
        have hn5 : ((es.length : Int) + 1 != (es.length : Int) + 1) = false := by simp
        have hne : (newT.toList != [110, 101, 119]) = false := by decide +kernel
        have hne2 : (newT.toList == [110, 101, 119]) = true := by decide +kernel
        clear u1 u2 u3 hgv hl' hes' hto hno hgd ht4 HINS HFD HLN HND
        dsimp only at HGT
        generalize newT = nt at *
        go_wp2_with fail
        refine HGT.out.mono ?_
        rintro e x5 ⟨rfl, hb5⟩
        go_wp2_with fail
        refine (HLN4.out _ hb5).mono ?_
        rintro e x6 ⟨rfl, rfl⟩
        go_wp2_with fail
        refine (HRM.out _ hb5).mono ?_
        rintro e x7 ⟨r, es2, rfl, hrt, hK7, ht7⟩
        obtain ⟨rfl, rfl⟩ := HU.out r es2 hrt
        dsimp only
        have HFD7 := Lib.hid (Rs.FindK path hK7 (by omega) (by omega) HG.out)
        have HLN7 := Lib.hid (fun W (h : Below x7.heap.size x7 W) => Rs.LenK (w := W) (hK7.below h))
        have HND7 := Lib.hid (fun W (h : Below x7.heap.size x7 W) => Rs.NodesK (w := W) (hK7.below h) (by omega))
        have HBA := Lib.hid hK7.base
        clear hrt hK7 ht7 HRM HU HGT HLN4 hb5
        go_wp2_with fail
        refine HFD7.out.mono ?_
        rintro e x8 hf8
        obtain ⟨FA8, fn8, fc8, rfl, hb8⟩ := find_form (HANS.out _ rfl) hf8
        clear hf8
        go_wp2_with fail
        refine (HLN7.out _ hb8).mono ?_
        rintro e x9 ⟨rfl, rfl⟩
        go_wp2_with fail
        refine (HND7.out _ hb8).mono ?_
        rintro e x10 ⟨rfl, hd10⟩
        have hbF := HBA.out.trans ((hb8.trans (hd10.below.mono hb8.size)).mono HBA.out.size)
        go_wp2
        go_ret
        exact ⟨rfl, hbF⟩
      · have hcq : (code == 0) = false := by simpa using hcode
        have hes' : es' = es := by
          rcases hto with ⟨_, _, h⟩ | ⟨_, _, _, h⟩ | ⟨_, _, h, _⟩
          · exact h
          · exact h
          · exact absurd h hcode
        subst hes'
        have HFD7 := Lib.hid (Rs.FindK path hK4 (by omega) (by omega) HG.out)
        have HLN7 := Lib.hid (fun W (h : Below x4.heap.size x4 W) => Rs.LenK (w := W) (hK4.below h))
        have HND7 := Lib.hid (fun W (h : Below x4.heap.size x4 W) => Rs.NodesK (w := W) (hK4.below h) (by omega))
        have HBA := Lib.hid hK4.base
        clear hto hcode hK4 ht4 HINS HFD HLN HND
        go_wp2_with fail
        refine HFD7.out.mono ?_
        rintro e x8 hf8
        obtain ⟨FA8, fn8, fc8, rfl, hb8⟩ := find_form (HANS.out _ rfl) hf8
        clear hf8
        go_wp2_with fail
        refine (HLN7.out _ hb8).mono ?_
        rintro e x9 ⟨rfl, rfl⟩
        go_wp2_with fail
        refine (HND7.out _ hb8).mono ?_
        rintro e x10 ⟨rfl, hd10⟩
        have hbF := HBA.out.trans ((hb8.trans (hd10.below.mono hb8.size)).mono HBA.out.size)
        go_wp2
        go_ret
        exact ⟨rfl, hbF⟩
end Go.Proofs.Ytkhgnfofinpofaa
