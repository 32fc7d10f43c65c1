/-
  The walk of RadixOrder.
-/
import Derived.Test.YtkhgnfofinpofaaRxOp
import Derived.Test.YtkhgnfofinpofaaRxLawChecks
import Derived.Maps.OwnIn
import Derived.Shelf.RegionOpen
import Derived.Sort.BigQuietIn
namespace Go.Proofs.Ytkhgnfofinpofaa
open Go.RowKit Go.Shelf Go.Lib
attribute [local go_sem] Oper.semAt_some

theorem code_zero {es es' : List En} {s : ByteArray} {v code : Int} (h : InsTo es s v code es') : (code = 0 ∧ (txE es').Perm (txE es ++ [s]) ∧ ((∀ x ∈ es, x.2.2.2 = v) → ∀ x ∈ es', x.2.2.2 = v)) ∨ (code ≠ 0 ∧ es' = es) := by
  rcases h with ⟨_, rfl, rfl⟩ | ⟨_, _, rfl, rfl⟩ | ⟨_, _, rfl, loc, rfl⟩
  · exact .inr ⟨by decide, rfl⟩
  · exact .inr ⟨by decide, rfl⟩
  · refine .inl ⟨rfl, txE_ins es _, fun hv x hx => ?_⟩
    rcases insE_mem hx with rfl | hx
    · rfl
    · exact hv x hx
theorem alt_snd {w : World} {o : Obj} {v v' : Value} (h : v'.ownBlock = v.ownBlock ∨ v'.ownBlock = some (w.heap.size + 1)) : v'.ownBlock = v.ownBlock ∨ v'.ownBlock = some (w.alloc o).heap.size := by rwa [World.size_alloc]
theorem slice_blk {n b k c : Nat} (h : (Value.slice (some ⟨n, 0, none⟩) k c).ownBlock = some b) : b = n := by
  have e : n = b := by simpa [Value.ownBlock] using h
  exact e.symm
def OrI (es : List En) (w6 : World) (X n : Nat) (pre : List (KM es)) (W : World) : Prop := OrJ w6 X n (pre.map fun z => z.1.1) W
theorem kept_tx {es : List En} {ys : List (KM es)} (h : ys.map (·.1) = keptE es) : (ys.map fun z => z.1.1) = txE es := by
  have h2 := congrArg (List.map Prod.fst) h
  rw [List.map_map] at h2
  rw [← keptE_tx]
  exact h2
set_option maxRecDepth 100000 in
set_option maxHeartbeats 8000000 in
theorem RadixOrder_walk (A : Option Addr) (c : Nat) (l : List ByteArray) (A2 : Option Addr) (c2 : Nat) (g : List ByteArray) (w : World) (hr : Row w A (l.map .string)) (hr2 : Row w A2 (g.map .string)) (hk : (sumS l + l.length) + (sumS g + g.length) ≤ 1048576) (hg : Glob w) :
    Calls Try.prog 9 #[.slice A l.length c, .slice A2 g.length c2] w fun e w' => e = .returned (.bool true) ∧ Below w.heap.size w w' := by
  obtain ⟨i0, hi0, hz0, hz1, hz2⟩ := info_parts info_string
  have hfn : ∀ (b : Nat) (w : World), (binOp .eql 53 (.func (.func 47) #[] #[.pointer (some ⟨b, 0, none⟩)]) .nilFunc).run Try.prog w = .ok (.bool false) w := fun _ _ => rfl
  have HN := Lib.hid (NewO w w (Below.refl _ _) (fun _ => False) (fun b h => h.elim))
  have HG := Lib.hid hg
  have HR := Lib.hid hr
  have HR2 := Lib.hid hr2
  have HTL := Lib.hid (sumO_take_le l)
  have HTG := Lib.hid (sumO_take_le g)
  have hll : l.length ≤ 1048576 := by omega
  have hgl : g.length ≤ 1048576 := by omega
  have HSL := Lib.hid (show sumS l + l.length ≤ 1048576 by omega)
  have HSG := Lib.hid (show sumS g + g.length ≤ 1048576 by omega)
  clear hg hr hr2 hk
  refine (callsIn_wide (n := 8)).1 ?_
  refine callsIn_of_wp_marks Try.func9 rfl trivial ?_ rfl
  simp only [Try.ntmps9, List.size_toArray, List.length_cons, List.length_nil, Nat.reduceAdd, Nat.reduceSub, Array.replicate_succ, Array.replicate_zero, List.push_toArray, List.append_toArray, List.nil_append, List.cons_append]
  gi_wp2_with fail
  refine ⟨trivial, (callsIn_wide.2 HN.out).mono ?_⟩
  rintro e w1 ⟨rfl, hA1, hb1, hz1⟩
  have HN2 := Lib.hid (NewO w w1 hb1 (fun b => b = w.heap.size + 1) (fun b h => by omega))
  rw [hz1] at HN2
  gi_wp2_with fail
  refine ⟨trivial, (callsIn_wide.2 HN2.out).mono ?_⟩
  rintro e w2 ⟨rfl, hB2, hb2, hz2⟩
  have hO2 := Ost.start hA1 hB2 (by rw [hz1]; exact hb2) (by omega)
  have B2 := hO2.a.kv.kp.base
  clear HN HN2 hA1 hB2 hb1 hb2 hz2
  gi_wp2_with fail
  refine ⟨trivial, (callsIn_wide.2 (awake_any _ (HG.out.beyond B2))).mono ?_⟩
  rintro e w3 ⟨rfl, hb3⟩
  have HO3 := Lib.hid (hO2.below hb3)
  have hm3 : w2.heap.size ≤ w3.heap.size := hb3.size
  clear hO2 B2 hb3 hz1
  generalize w.heap.size + 1 = qa at *
  generalize w.heap.size + 2 + 1 = qb at *
  generalize w2.heap.size = m at *
  have HO3b := Lib.hid (HO3.out.newK hm3)
  gi_wp2
  gi_loopw [7, 8] (fun kv i wr => ∃ (k : Nat) (ea : List En) (ks : List ByteArray), k ≤ l.length ∧ i = .int .i64 (k : Int) ∧ Hid (Ost w wr qa qb m ea [] (sumS (l.take k) + k) 0 kv (.slice none 0 0) ks []) ∧ Hid ((txE ea).Perm ks) ∧ ks.length ≤ k ∧ m ≤ wr.heap.size) (fun _ i _ => l.length - (RowKit.intOf i).toNat)
  case atStart => exact ⟨0, [], [], by omega, rfl, Lib.hid (HO3b.out.tightA (Nat.zero_le _)), Lib.hid (List.Perm.refl _), Nat.le_refl _, by simp; omega⟩
  case round =>
    obtain ⟨k, ea, ks, hkl, rfl, HO, HP, hks, hmr⟩ := hrel
    clear HO3 HO3b hm3
    by_cases hlt : k < l.length
    · obtain ⟨x, hx⟩ := some_of_lt hlt
      have hkI : (k : Int) < (l.length : Int) := by omega
      obtain ⟨b, off, rfl, hb, hc0⟩ := HR.out.str hx
      have hc := (HO.out.a.kv.kp.base.cell (p := ⟨b, off + k, none⟩) hb).trans hc0
      have hst := sumO_take hx
      have h1 := HTL.out k
      have h2 := HTL.out (k + 1)
      have hsl := HSL.out
      have HI := Lib.hid (InsertO _ w wr qa ea _ x 1 HO.out.a (by omega))
      have HST := Lib.hid hst
      clear hx hst h1 h2
      gi_wp2_with fail
      refine ⟨trivial, (callsIn_wide.2 HI.out).mono ?_⟩
      rintro e w4 ⟨code, es', rfl, hto, hK4, ht4⟩
      rw [← HST.out] at hK4
      have hO4 := HO.out.turnA ht4 hK4
      have hc4 := (hK4.kv.kp.base.cell (p := ⟨b, off + k, none⟩) hb).trans hc0
      have hb4 : b < w4.heap.size := Nat.lt_of_lt_of_le hb hK4.kv.kp.base.size
      have hm4 : m ≤ w4.heap.size := Nat.le_trans hmr ht4.size
      clear HI hK4 ht4 HO hc hc0
      rcases code_zero hto with ⟨rfl, hp, _⟩ | ⟨hcode, rfl⟩
      · have HP4 := Lib.hid (hp.trans (HP.out.append_right [x]))
        have hrow := hO4.k
        have HO4 := Lib.hid hO4
        clear hto hp HP hO4
        gi_wp2_with (gi_at_builtin; refine wpListIn_append_own_at _ rfl _ _ 22 rfl m 9 i0 (.string ⟨#[]⟩) 1 16 Try.underlying22 hi0 hz0 hz1 hz2 rfl (by decide) _ _ _ rfl (hrow.alloc _) ⟨w4.heap.size, 0, none⟩ 1 1 [.string x] rfl rfl (cell_one_new _ _ _) (by simp [Value.oneCell']) (by unfold maxLen; omega) (by omega) (by simp; omega) ?_; intro v' w7 hown7 hg7 _ alt7; have HO7 := Lib.hid ((HO4.out.below ((Below.refl w4.heap.size w4).alloc (Nat.le_refl _) _)).growK hg7 hown7 (by first | exact alt7 | exact alt_snd alt7)); have hm7 : m ≤ w7.heap.size := Nat.le_trans hm4 (by have := hg7.size; rw [World.size_alloc] at this; omega); clear hown7 hg7 alt7 hrow HO4)
        go_roundw
        case rel => exact ⟨k + 1, es', ks ++ [x], by omega, by go_num, HO7, HP4, by simp; omega, hm7⟩
        case measure => simp [RowKit.intOf] <;> omega
      · have hcq : (code == 0) = false := by simpa using hcode
        have HO4 := Lib.hid hO4
        clear hto hO4 hcode
        gi_wp2
        go_roundw
        case rel => exact ⟨k + 1, es', ks, by omega, by go_num, HO4, HP, by omega, hm4⟩
        case measure => simp [RowKit.intOf] <;> omega
    · obtain rfl : k = l.length := by omega
      obtain ⟨xo, rfl⟩ : ∃ xo : World, xo = wr := ⟨_, rfl⟩
      have HOs := HO.out
      rw [List.take_length] at HOs
      obtain ⟨KA, kc, rfl⟩ := own_slice HOs.k
      have HO5 := Lib.hid ((HOs.swapT.swapR).newK hmr)
      have HPA := Lib.hid HP.out
      have hkl5 : ks.length ≤ 1048576 := by omega
      clear HO HOs HP hks
      gi_wp2
      gi_loopw [9, 10] (fun xv i wr => ∃ (k : Nat) (eb : List En) (xs : List ByteArray), k ≤ g.length ∧ i = .int .i64 (k : Int) ∧ Hid (Ost w wr qb qa m eb ea (sumS (g.take k) + k) (sumS l + l.length) xv (.slice KA ks.length kc) xs ks) ∧ Hid ((txE eb).Perm xs) ∧ Hid (∀ x ∈ eb, x.2.2.2 = 2) ∧ xs.length ≤ k ∧ m ≤ wr.heap.size) (fun _ i _ => g.length - (RowKit.intOf i).toNat)
      case atStart => exact ⟨0, [], [], by omega, rfl, Lib.hid (HO5.out.tightA (Nat.zero_le _)), Lib.hid (List.Perm.refl _), Lib.hid (fun x h => by cases h), Nat.le_refl _, by simp; omega⟩
      case round =>
        clear hmr HO5
        obtain ⟨k, eb, xs, hkl, rfl, HO, HP, HV, hxs, hmr⟩ := hrel
        by_cases hlt : k < g.length
        · obtain ⟨x, hx⟩ := some_of_lt hlt
          have hkI : (k : Int) < (g.length : Int) := by omega
          obtain ⟨b, off, rfl, hb, hc0⟩ := HR2.out.str hx
          have hc := (HO.out.a.kv.kp.base.cell (p := ⟨b, off + k, none⟩) hb).trans hc0
          have hst := sumO_take hx
          have h1 := HTG.out k
          have h2 := HTG.out (k + 1)
          have hsl := HSG.out
          have HI := Lib.hid (InsertO _ w wr qb eb _ x 2 HO.out.a (by omega))
          have HST := Lib.hid hst
          clear hx hst h1 h2
          gi_wp2_with fail
          refine ⟨trivial, (callsIn_wide.2 HI.out).mono ?_⟩
          rintro e w4 ⟨code, es', rfl, hto, hK4, ht4⟩
          rw [← HST.out] at hK4
          have hO4 := HO.out.turnA ht4 hK4
          have hc4 := (hK4.kv.kp.base.cell (p := ⟨b, off + k, none⟩) hb).trans hc0
          have hb4 : b < w4.heap.size := Nat.lt_of_lt_of_le hb hK4.kv.kp.base.size
          have hm4 : m ≤ w4.heap.size := Nat.le_trans hmr ht4.size
          clear HI hK4 ht4 HO hc hc0
          rcases code_zero hto with ⟨rfl, hp, hv⟩ | ⟨hcode, rfl⟩
          · have HP4 := Lib.hid (hp.trans (HP.out.append_right [x]))
            have HV4 := Lib.hid (hv HV.out)
            have hrow := hO4.k
            have HO4 := Lib.hid hO4
            clear hto hp hv HP HV hO4
            gi_wp2_with (gi_at_builtin; refine wpListIn_append_own_at _ rfl _ _ 22 rfl m 9 i0 (.string ⟨#[]⟩) 1 16 Try.underlying22 hi0 hz0 hz1 hz2 rfl (by decide) _ _ _ rfl (hrow.alloc _) ⟨w4.heap.size, 0, none⟩ 1 1 [.string x] rfl rfl (cell_one_new _ _ _) (by simp [Value.oneCell']) (by unfold maxLen; omega) (by omega) (by simp; omega) ?_; intro v' w7 hown7 hg7 _ alt7; have HO7 := Lib.hid ((HO4.out.below ((Below.refl w4.heap.size w4).alloc (Nat.le_refl _) _)).growK hg7 hown7 (by first | exact alt7 | exact alt_snd alt7)); have hm7 : m ≤ w7.heap.size := Nat.le_trans hm4 (by have := hg7.size; rw [World.size_alloc] at this; omega); clear hown7 hg7 alt7 hrow HO4)
            go_roundw
            case rel => exact ⟨k + 1, es', xs ++ [x], by omega, by go_num, HO7, HP4, HV4, by simp; omega, hm7⟩
            case measure => simp [RowKit.intOf] <;> omega
          · have hcq : (code == 0) = false := by simpa using hcode
            have HO4 := Lib.hid hO4
            clear hto hO4 hcode
            gi_wp2
            go_roundw
            case rel => exact ⟨k + 1, es', xs, by omega, by go_num, HO4, HP, HV, by omega, hm4⟩
            case measure => simp [RowKit.intOf] <;> omega
        · obtain rfl : k = g.length := by omega
          obtain ⟨xp, rfl⟩ : ∃ xp : World, xp = wr := ⟨_, rfl⟩
          have HOs := HO.out
          rw [List.take_length] at HOs
          obtain ⟨XA, xc, rfl⟩ := own_slice HOs.k
          have HO6 := Lib.hid HOs
          have hxl : xs.length ≤ 1048576 := by omega
          have HP6 := Lib.hid (show (txE eb).Perm (xs.take xs.length) by rw [List.take_length]; exact HP.out)
          clear HO HOs HP hxs
          gi_wp2
          gi_loopw [11] (fun i wr => ∃ (k : Nat) (iv : Int) (eb : List En), k ≤ xs.length ∧ i = .int .i64 iv ∧ iv = (k : Int) - 1 ∧ Hid (Ost w wr qb qa m eb ea (sumS g + g.length) (sumS l + l.length) (.slice XA xs.length xc) (.slice KA ks.length kc) xs ks) ∧ Hid ((txE eb).Perm (xs.take k)) ∧ Hid (∀ x ∈ eb, x.2.2.2 = 2) ∧ m ≤ wr.heap.size) (fun i _ => (RowKit.intOf i + 1).toNat)
          case atStart => exact ⟨xs.length, _, eb, Nat.le_refl _, rfl, by omega, HO6, HP6, HV, hmr⟩
          case round =>
            clear hmr HO6 HP6 HV hlt hkl
            obtain ⟨k, iv, eb, hkx, rfl, hiv, HO, HP, HV, hmr⟩ := hrel
            by_cases hlt : 0 < k
            · obtain ⟨j, rfl⟩ : ∃ j, k = j + 1 := ⟨k - 1, by omega⟩
              obtain rfl : iv = (j : Int) := by omega
              obtain ⟨s, hs⟩ := some_of_lt (show j < xs.length by omega)
              obtain ⟨b, off, rfl, hb, hc⟩ := (own_row HO.out.k).str hs
              have hsg := HSG.out
              have HRM := Lib.hid (RemoveO _ w wr qb eb _ s HO.out.a (by omega))
              have HTS := Lib.hid (take_snoc hs)
              have hjx : (j : Int) < (xs.length : Int) := by omega
              clear hs hiv
              gi_wp2_with fail
              refine ⟨trivial, (callsIn_wide.2 HRM.out).mono ?_⟩
              rintro e w4 ⟨r, es', rfl, hto, hK4, ht4⟩
              obtain ⟨rfl, hp, hv⟩ := rem_one hto (by rw [← HTS.out]; exact HP.out) HV.out
              dsimp only
              have HO4 := Lib.hid (HO.out.turnA ht4 hK4)
              have hm4 : m ≤ w4.heap.size := Nat.le_trans hmr ht4.size
              have HP4 := Lib.hid hp
              have HV4 := Lib.hid hv
              clear hto hK4 ht4 HO HP HV hp hv HRM hc
              gi_wp2
              go_roundw
              case rel => exact ⟨j, _, es', by omega, rfl, by first | rfl | omega | go_num, HO4, HP4, HV4, hm4⟩
              case measure => simp [RowKit.intOf] <;> omega
            · obtain rfl : k = 0 := by omega
              obtain ⟨xq, rfl⟩ : ∃ xq : World, xq = wr := ⟨_, rfl⟩
              have hiv0 : ¬ (0 : Int) ≤ iv := by omega
              have he : eb = [] := by
                have h := HP.out.length_eq
                rw [txE_length, List.take_zero] at h
                exact List.length_eq_zero_iff.1 h
              subst he
              have hsl := HSL.out
              have hsg := HSG.out
              have HLE := Lib.hid (fun W (h : Below xq.heap.size xq W) => LenK (w := W) (HO.out.a.kv.kp.below h))
              have HNO := Lib.hid (fun W (h : Below xq.heap.size xq W) => NodesK (w := W) (HO.out.a.kv.kp.below h) (by omega))
              rw [nodes_nil] at HNO
              have HO7 := Lib.hid (HO.out.tightA (B' := 0) (Nat.le_refl _))
              have HTA := Lib.hid (show sumT ks ≤ 1048576 by have h1 := HO.out.b.kv.kp.sum; rw [sumT_E, sumT_perm HPA.out] at h1; omega)
              have HAP := Lib.hid ((apT_of HO.out.b.kv.kp.good).perm HPA.out)
              clear HO HP HV
              gi_wp2_with fail
              refine ⟨trivial, (callsIn_wide.2 (HLE.out _ (Below.refl _ _))).mono ?_⟩
              rintro e w5 ⟨rfl, rfl⟩
              gi_wp2_with fail
              refine ⟨trivial, (callsIn_wide.2 (HNO.out _ (Below.refl _ _))).mono ?_⟩
              rintro e w6 ⟨rfl, hd6⟩
              have HO8 := Lib.hid (show Ost w w6 qb qa m [] ea (sumT (ks.drop ks.length)) (sumS l + l.length) (.slice XA xs.length xc) (.slice KA ks.length kc) xs ks from (HO7.out.below hd6.below).tightA (Nat.zero_le _))
              have hm6 : m ≤ w6.heap.size := Nat.le_trans hmr hd6.below.size
              have HP8 := Lib.hid (show (txE []).Perm (ks.drop ks.length) by rw [List.drop_length]; exact List.Perm.refl _)
              clear hd6 HLE HNO HO7
              gi_wp2
              gi_loopw [14] (fun i wr => ∃ (k : Nat) (iv : Int) (eb : List En), k ≤ ks.length ∧ i = .int .i64 iv ∧ iv = (k : Int) - 1 ∧ Hid (Ost w wr qb qa m eb ea (sumT (ks.drop k)) (sumS l + l.length) (.slice XA xs.length xc) (.slice KA ks.length kc) xs ks) ∧ Hid ((txE eb).Perm (ks.drop k)) ∧ m ≤ wr.heap.size) (fun i _ => (RowKit.intOf i + 1).toNat)
              case atStart => exact ⟨ks.length, _, [], Nat.le_refl _, rfl, by omega, HO8, HP8, hm6⟩
              case round =>
                clear hm6 HO8 HP8 hmr hiv0 hiv hkx hlt
                obtain ⟨k, iv, eb, hkx, rfl, hiv, HO, HP, hmr⟩ := hrel
                by_cases hlt : 0 < k
                · obtain ⟨j, rfl⟩ : ∃ j, k = j + 1 := ⟨k - 1, by omega⟩
                  obtain rfl : iv = (j : Int) := by omega
                  obtain ⟨s, hs⟩ := some_of_lt (show j < ks.length by omega)
                  obtain ⟨b, off, rfl, hb, hc⟩ := (own_row HO.out.x).str hs
                  have hd := sumT_drop hs
                  have hdl := sumT_drop_le ks j
                  have hta := HTA.out
                  obtain ⟨hgs, hns⟩ := apT_drop HAP.out hs
                  have HI := Lib.hid (InsertO _ w wr qb eb _ s 1 HO.out.a (by omega))
                  have HDR := Lib.hid (show ks.drop j = s :: ks.drop (j + 1) by obtain ⟨h1, rfl⟩ := List.getElem?_eq_some_iff.1 hs; exact List.drop_eq_getElem_cons h1)
                  have HDS := Lib.hid hd
                  have hjx : (j : Int) < (ks.length : Int) := by omega
                  have HNS := Lib.hid (And.intro hgs hns)
                  clear hs hiv hgs hns hd hdl hta
                  gi_wp2_with fail
                  refine ⟨trivial, (callsIn_wide.2 HI.out).mono ?_⟩
                  rintro e w7 ⟨code, es', rfl, hto, hK7, ht7⟩
                  obtain ⟨rfl, loc, hes⟩ := ins_new hto HO.out.a.kv.kp.good HNS.out.1 (fun t ht => HNS.out.2 t (HP.out.mem_iff.1 ht))
                  have HP7 := Lib.hid (show (txE es').Perm (ks.drop j) by
                    rw [hes, HDR.out]
                    exact (txE_ins eb _).trans ((HP.out.append_right [s]).trans (List.perm_append_singleton s _)))
                  have HO7 := Lib.hid (HO.out.turnA ht7 (hK7.more (B' := sumT (ks.drop j)) (by rw [HDS.out]; omega)))
                  have hm7 : m ≤ w7.heap.size := Nat.le_trans hmr ht7.size
                  clear hto hK7 ht7 HO HP hes HI hc
                  gi_wp2
                  go_roundw
                  case rel => exact ⟨j, _, es', by omega, rfl, by first | rfl | omega | go_num, HO7, HP7, hm7⟩
                  case measure => simp [RowKit.intOf] <;> omega
                · obtain rfl : k = 0 := by omega
                  obtain ⟨xr, rfl⟩ : ∃ xr : World, xr = wr := ⟨_, rfl⟩
                  have hiv0 : ¬ (0 : Int) ≤ iv := by omega
                  have hsl := HSL.out
                  have hta := HTA.out
                  have hgA := HO.out.b.kv.kp.good
                  have hgB := HO.out.a.kv.kp.good
                  have hp0 : (txE eb).Perm ks := HP.out
                  have hse : txE eb = txE ea := same_tx hgB hgA (hp0.trans HPA.out.symm)
                  have hln : eb.length = ea.length := by rw [← txE_length, hse, txE_length]
                  have hkn : ks.length = ea.length := by rw [← HPA.out.length_eq, txE_length]
                  have hnd : nodesE eb = nodesE ea := nodes_same hgB hgA hse
                  have hal : ea.length ≤ 1048576 := by omega
                  have HLA := Lib.hid (fun W (h : Below xr.heap.size xr W) => LenK (w := W) (HO.out.b.kv.kp.below h))
                  have HNA := Lib.hid (fun W (h : Below xr.heap.size xr W) => NodesK (w := W) (HO.out.b.kv.kp.below h) (by omega))
                  have HLB := Lib.hid (fun W (h : Below xr.heap.size xr W) => LenK (w := W) (HO.out.a.kv.kp.below h))
                  have HNB := Lib.hid (fun W (h : Below xr.heap.size xr W) => NodesK (w := W) (HO.out.a.kv.kp.below h) (by rw [List.drop_zero]; omega))
                  have HAA := Lib.hid (fun W (h : Below xr.heap.size xr W) => AllK (w := W) (HO.out.b.kv.kp.below h) (by omega))
                  have HAB := Lib.hid (fun W (h : Below xr.heap.size xr W) => AllK (w := W) (HO.out.a.kv.kp.below h) (by rw [List.drop_zero]; omega))
                  have HBX := Lib.hid HO.out.a.kv.kp.base
                  have HSE := Lib.hid hse
                  rw [hln] at HLB
                  rw [hnd] at HNB
                  have HKN := Lib.hid hkn
                  have HLN := Lib.hid hln
                  clear HO HP HAP HTA hgA hgB hp0 hse hnd hsl hta hkn hln HPA
                  rw [HKN.out]
                  have hnn : (((ea.length : Nat) : Int) != ((ea.length : Nat) : Int)) = false := by simp
                  have hnm : (((nodesE ea : Nat) : Int) != ((nodesE ea : Nat) : Int)) = false := by simp
                  gi_wp2_with fail
                  refine ⟨trivial, (callsIn_wide.2 (HLA.out _ (Below.refl _ _))).mono ?_⟩
                  rintro e w5 ⟨rfl, rfl⟩
                  gi_wp2_with fail
                  refine ⟨trivial, (callsIn_wide.2 (HLB.out _ (Below.refl _ _))).mono ?_⟩
                  rintro e w5 ⟨rfl, rfl⟩
                  gi_wp2_with fail
                  refine ⟨trivial, (callsIn_wide.2 (HNA.out _ (Below.refl _ _))).mono ?_⟩
                  rintro e w6 ⟨rfl, hd6⟩
                  have B6 := hd6.below
                  gi_wp2_with fail
                  refine ⟨trivial, (callsIn_wide.2 (HNB.out _ B6)).mono ?_⟩
                  rintro e w7 ⟨rfl, hd7⟩
                  have B7 := B6.trans (hd7.below.mono B6.size)
                  clear HLA HLB HNA HNB hd6 hd7 B6
                  generalize nodesE ea = nn at *
                  clear hnm
                  gi_wp2_with fail
                  have n4 : Below xr.heap.size xr ((((w7.alloc (.cells #[] 9)).alloc (.cells #[] 9)).alloc (.cells #[.slice (some ⟨w7.heap.size, 0, none⟩) 0 0] 22)).alloc (.cells #[.slice (some ⟨w7.heap.size + 1, 0, none⟩) 0 0] 22)) := (((B7.alloc B7.size _).alloc (by have := B7.size; simp; omega) _).alloc (by have := B7.size; simp; omega) _).alloc (by have := B7.size; simp; omega) _
                  refine ⟨trivial, (callsIn_wide.2 (HAA.out _ n4)).mono ?_⟩
                  rintro e w5 ⟨A5, c5, rfl, b5, hl5, hc5, hr5⟩
                  have B5 := n4.trans (b5.mono n4.size)
                  gi_wp2_with fail
                  refine ⟨trivial, (callsIn_wide.2 (HAB.out _ B5)).mono ?_⟩
                  rintro e w6 ⟨A6, c6, rfl, b6, hl6, hc6, hr6⟩
                  have B6 := B5.trans (b6.mono B5.size)
                  have s5 := b5.size
                  have s6 := b6.size
                  have kx := ((((Boxed.new ((w7.alloc (.cells #[] 9)).alloc (.cells #[] 9)) 22 (.slice (some ⟨w7.heap.size, 0, none⟩) 0 0)).alloc (.cells #[.slice (some ⟨w7.heap.size + 1, 0, none⟩) 0 0] 22)).kept (below_grown b5) (fun e => by cases e)).kept (below_grown b6) (fun e => by cases e))
                  have ky := ((Boxed.new (((w7.alloc (.cells #[] 9)).alloc (.cells #[] 9)).alloc (.cells #[.slice (some ⟨w7.heap.size, 0, none⟩) 0 0] 22)) 22 (.slice (some ⟨w7.heap.size + 1, 0, none⟩) 0 0)).kept (below_grown b5) (fun e => by cases e)).kept (below_grown b6) (fun e => by cases e)
                  have rx := own_below (own_below (own_below (World.ownsRow_lit (e := 9) (size := 1) w7 #[] 0 (Nat.le_refl _) (by unfold maxLen; omega) rfl) (((((Below.refl _ (w7.alloc (.cells #[] 9))).alloc (Nat.le_refl _) _).alloc (by simp) _).alloc (by simp <;> omega) _))) b5) b6
                  have ry := own_below (own_below (own_below (World.ownsRow_lit (e := 9) (size := 1) (w7.alloc (.cells #[] 9)) #[] 0 (Nat.le_refl _) (by unfold maxLen; omega) rfl) ((((Below.refl _ ((w7.alloc (.cells #[] 9)).alloc (.cells #[] 9))).alloc (Nat.le_refl _) _).alloc (by simp) _))) b5) b6
                  simp only [World.size_alloc] at hc5 hl5
                  have hc5' := (b6.cell (p := ⟨w7.heap.size + 1 + 1 + 1 + 1, 0, none⟩) hl5).trans hc5
                  have hr5' : RowF (fun b => (((w7.alloc (.cells #[] 9)).alloc (.cells #[] 9)).alloc (.cells #[.slice (some ⟨w7.heap.size, 0, none⟩) 0 0] 22)).heap.size + 1 ≤ b ∧ b < w5.heap.size) w6 A5 (flatE ea) := fun h0 => by
                    obtain ⟨b, off, e, h1, h2, h3⟩ := hr5 h0
                    exact ⟨b, off, e, ⟨by simpa using h1, h2⟩, Nat.lt_of_lt_of_le h2 s6, fun j v hj => (b6.cell (p := ⟨b, off + j, none⟩) h2).trans (h3 j v hj)⟩
                  have hr6' : RowF (fun b => w5.heap.size ≤ b ∧ b < w6.heap.size) w6 A6 (flatE eb) := fun h0 => by
                    obtain ⟨b, off, e, h1, h2, h3⟩ := hr6 h0
                    exact ⟨b, off, e, ⟨h1, h2⟩, h2, h3⟩
                  have HBW := Lib.hid (HBX.out.trans (B6.mono HBX.out.size))
                  have hbw := HBX.out.size
                  have hb7 := B7.size
                  simp only [World.size_alloc] at kx ky rx ry hr5' s5 ⊢
                  clear n4 b5 b6 B5 B6 hc5 hr5 hr6 HAA HAB HBX B7
                  generalize hnw : w7.heap.size = n at *
                  have HX0 := Lib.hid (show OrJ w6 (n + 1 + 1) n [] w6 from ⟨_, kx, rx, fun b hb => .inl (slice_blk hb), Turn2.refl _ _ _⟩)
                  clear kx rx hnw
                  gi_wp2_with fail
                  refine wpIn_rangeFunc_ownG rfl (by omega) (gf := 47) (lb := #[.pointer (some ⟨n + 1 + 1 + 1 + 1, 0, none⟩)]) rfl trivial (enters_of Try.func47 (by kernel_rfl) rfl)
                    (all1_mem (fun b => n + 1 + 1 + 1 + 1 ≤ b ∧ b < w5.heap.size) (8 - 1) (by omega) (n + 1 + 1 + 1 + 1) A5 c5 ea (by omega) w6 (by omega) hc5' hr5' (fun b h => by omega)) (fun h k => h.trans k) (hold_putObj (fun b h => h.2) s6) (Below.refl _ _) (fun _ => rfl)
                    (OrI ea w6 (n + 1 + 1) n) (fun _ _ _ => False) ?own (fun _ _ _ _ _ hs _ _ => hs) HX0.out ?_ ?assign ?body ?done ?stop
                  case own => exact orJ_own (by omega) (Nat.le_refl _) _
                  case assign =>
                    intro l x W K hK
                    gi_wp2
                    exact hK
                  case body =>
                    rintro l' pre ⟨⟨p, v⟩, hx⟩ W ⟨u, hv, hrow, hat, ht⟩ hlt2
                    have HSN := Lib.hid (show (pre ++ [(⟨(p, v), hx⟩ : KM ea)]).map (fun z => z.1.1) = pre.map (fun z => z.1.1) ++ [p] by rw [List.map_append]; rfl)
                    have hts : (pre.map (fun z : KM ea => z.1.1)).length ≤ 4194304 := by rw [List.length_map]; omega
                    generalize pre.map (fun z : KM ea => z.1.1) = ts at *
                    have hcv := hv.cell
                    have hfv := hv.frozen
                    have hnW : n ≤ W.heap.size := by have := ht.size; omega
                    gi_wp2_with (gi_at_builtin; refine wpListIn_append_own_at _ rfl _ _ 22 rfl n 9 i0 (.string ⟨#[]⟩) 1 16 Try.underlying22 hi0 hz0 hz1 hz2 rfl (by decide) _ _ _ rfl (hrow.alloc _) ⟨W.heap.size, 0, none⟩ 1 1 [.string p] rfl rfl (cell_one_new _ _ _) (by simp [Value.oneCell']) (by unfold maxLen; omega) (by omega) (by simp; omega) ?_; intro v' w1 hown' hgrow _ alt; obtain ⟨g', cap', rfl⟩ := ownsRow_succ hown'; obtain ⟨hv2, hk2, hh2, hj2⟩ := orJ_push (by omega) hv hrow hat ht hown' hgrow (by rcases alt with h | h; exact .inl h; exact .inr (h.trans (by rw [World.size_alloc]))); have hc1 := hv2.cell; have hf1 := hv2.frozen)
                    exact ⟨hk2.from _, hh2 _ (fun b h => by omega), by unfold OrI; rw [HSN.out]; exact hj2⟩
                  case stop =>
                    rintro D c pre W _ _ h _
                    exact h.elim
                  case done =>
                    rintro D ys W hD hys hI hK
                    unfold OrI at hI
                    rw [kept_tx hys] at hI
                    obtain ⟨u, hv, hrow, hat, ht⟩ := hI
                    have hz := ht.size
                    have hDW : D < W.heap.size := (Array.getElem?_eq_some_iff.1 hK).1
                    have hh := ht.hold (S := fun b => w5.heap.size ≤ b ∧ b < w6.heap.size) (fun b h => ⟨by omega, by omega⟩)
                    have hc6W := (hh.cell (p := ⟨w5.heap.size, 0, none⟩) ⟨Nat.le_refl _, hl6⟩ hl6).trans hc6
                    have hr6W := hr6'.hold hh
                    have kyW : Boxed W (n + 1 + 1 + 1) 22 (.slice (some ⟨n + 1, 0, none⟩) 0 0) := (ht.block (n + 1 + 1 + 1) (by omega) (by omega) (by omega)).trans ky
                    have ryW := ht.row ry (by simp [Value.ownBlock]) (by simp [Value.ownBlock])
                    have HY0 := Lib.hid (show OrJ W (n + 1 + 1 + 1) (n + 1) [] W from ⟨_, kyW, ryW, fun b hb => .inl (slice_blk hb), Turn2.refl _ _ _⟩)
                    have HB1 := Lib.hid (HBW.out.trans (ht.below (n := w.heap.size) (by omega) (by omega) (by omega)))
                    have hebl : eb.length ≤ 1048576 := by rw [HLN.out]; exact hal
                    clear hh hc6 hr6' ky ry kyW ryW hys HX0 hc5' hr5' HBW
                    gi_wp2_with fail
                    refine wpIn_rangeFunc_ownG rfl (by omega) (gf := 47) (lb := #[.pointer (some ⟨w5.heap.size, 0, none⟩)]) rfl trivial (enters_of Try.func47 (by kernel_rfl) rfl)
                      (all1_mem (fun b => w5.heap.size ≤ b ∧ b < w6.heap.size) (8 - 1) (by omega) w5.heap.size A6 c6 eb (by omega) W (by omega) hc6W hr6W (fun b h => by omega)) (fun h k => h.trans k) (hold_putObj (fun b h => h.2) hz) (Below.refl _ _) (fun _ => rfl)
                      (OrI eb W (n + 1 + 1 + 1) (n + 1)) (fun _ _ _ => False) ?own (fun _ _ _ _ _ hs _ _ => hs) HY0.out ?_ ?assign ?body ?done ?stop
                    case own => exact orJ_own (by omega) (Nat.le_refl _) _
                    case assign =>
                      intro l x W K hK
                      gi_wp2
                      exact hK
                    case body =>
                      clear hv hrow hat ht
                      rintro l' pre ⟨⟨p, v⟩, hx⟩ V ⟨u, hv, hrow, hat, ht⟩ hlt2
                      have HSN := Lib.hid (show (pre ++ [(⟨(p, v), hx⟩ : KM eb)]).map (fun z => z.1.1) = pre.map (fun z => z.1.1) ++ [p] by rw [List.map_append]; rfl)
                      have hts : (pre.map (fun z : KM eb => z.1.1)).length ≤ 4194304 := by rw [List.length_map]; omega
                      generalize pre.map (fun z : KM eb => z.1.1) = ts at *
                      have hcv := hv.cell
                      have hfv := hv.frozen
                      have hnW : n + 1 ≤ V.heap.size := by have := ht.size; omega
                      gi_wp2_with (gi_at_builtin; refine wpListIn_append_own_at _ rfl _ _ 22 rfl (n + 1) 9 i0 (.string ⟨#[]⟩) 1 16 Try.underlying22 hi0 hz0 hz1 hz2 rfl (by decide) _ _ _ rfl (hrow.alloc _) ⟨V.heap.size, 0, none⟩ 1 1 [.string p] rfl rfl (cell_one_new _ _ _) (by simp [Value.oneCell']) (by unfold maxLen; omega) (by omega) (by simp; omega) ?_; intro v' w1 hown' hgrow _ alt; obtain ⟨g', cap', rfl⟩ := ownsRow_succ hown'; obtain ⟨hv2, hk2, hh2, hj2⟩ := orJ_push (by omega) hv hrow hat ht hown' hgrow (by rcases alt with h | h; exact .inl h; exact .inr (h.trans (by rw [World.size_alloc]))); have hc1 := hv2.cell; have hf1 := hv2.frozen)
                      exact ⟨hk2.from _, hh2 _ (fun b h => by omega), by unfold OrI; rw [HSN.out]; exact hj2⟩
                    case stop =>
                      rintro D c pre W _ _ h _
                      exact h.elim
                    case done =>
                      rintro D2 ys2 W2 hD2 hys2 hI2 hK2
                      unfold OrI at hI2
                      rw [kept_tx hys2, HSE.out] at hI2
                      obtain ⟨u2, hv2, hrow2, hat2, ht2⟩ := hI2
                      have hvx : Boxed W2 (n + 1 + 1) 22 u := (ht2.block (n + 1 + 1) (by omega) (by omega) (by omega)).trans hv
                      have hrowx := ht2.row hrow (fun e => by rcases hat _ e with h | h <;> omega) (fun e => by rcases hat _ e with h | h <;> omega)
                      have hKD := (ht2.block D hDW (by omega) (by omega)).trans hK
                      have B2 := HB1.out.trans (ht2.below (n := w.heap.size) (by omega) (by omega) (by omega))
                      have hn2 : D2 ≠ D := by omega
                      obtain ⟨XA2, xc2, rfl⟩ := own_slice hrowx
                      obtain ⟨YA2, yc2, rfl⟩ := own_slice hrow2
                      have rx2 := own_row hrowx
                      have ry2 := own_row hrow2
                      have hcx := hvx.cell
                      have hcy := hv2.cell
                      have hel : ea.length = (txE ea).length := (txE_length ea).symm
                      rw [hel]
                      rw [hel] at hal
                      have hDw : w.heap.size ≤ D := by omega
                      have hDw2 : w.heap.size ≤ D2 := by omega
                      have HEND := Lib.hid (And.intro (And.intro hK2 hKD) B2)
                      clear hel hv hrow hat ht hrowx hrow2 hvx hv2 hat2 ht2 hys2 HSE HLN HKN hK hKD hK2 B2 HB1 HY0
                      generalize txE ea = ts at *
                      have hnn2 : (((ts.length : Nat) : Int) != ((ts.length : Nat) : Int)) = false := by simp
                      gi_wp2
                      gi_loopw [21] (fun i wr => ∃ k q : Nat, k ≤ ts.length ∧ i = .int .i64 (k : Int) ∧ wr = W2.drewN q) (fun i _ => ts.length - (RowKit.intOf i).toNat)
                      case atStart => exact ⟨0, 0, by omega, rfl, rfl⟩
                      case round =>
                        obtain ⟨k, qn, hk3, rfl, rfl⟩ := hrel
                        by_cases hk4 : k < ts.length
                        · obtain ⟨s, hs⟩ := some_of_lt hk4
                          obtain ⟨b6, o6, rfl, hb6, u0⟩ := rx2.str hs
                          obtain ⟨b7, o7, rfl, hb7, v0⟩ := ry2.str hs
                          have hkI : (k : Int) < (ts.length : Int) := by omega
                          have hss : (s.toList != s.toList) = false := by simp
                          clear hs
                          gi_wp2_with fail
                          gi_big_quiet_th (fail)
                          gi_wp2
                          go_roundw
                          case rel => exact ⟨k + 1, qn + nq, by omega, by go_num, by first | rfl | exact World.drewN_drewN _ _ _⟩
                          case measure => simp [RowKit.intOf] <;> omega
                        · obtain rfl : k = ts.length := by omega
                          have h1 : (W2.drewN qn).heap[D2]? = some (.deferred (some [])) := HEND.out.1.1
                          have h2 : ((W2.drewN qn).putObj D2 (.deferred none)).heap[D]? = some (.deferred (some [])) := (World.putObj_heap_other (Ne.symm hn2)).trans HEND.out.1.2
                          have h3 := below_drewN HEND.out.2 qn
                          gi_wp2
                          refine ⟨by simp, .inl ⟨_, _, rfl, run_takeDeferred h1, ⟨by simp, .inl ⟨_, _, rfl, run_takeDeferred h2, ?_⟩⟩⟩⟩
                          exact ⟨.bool true, by simp [results, Try.results9, go_sem], rfl, (h3.trans (belowK_b (w := w) (Nat.le_refl _) _ D2 _ _ hDw2 h1 rfl rfl)).trans (belowK_b (w := w) (Nat.le_refl _) _ D _ _ hDw h2 rfl rfl)⟩
end Go.Proofs.Ytkhgnfofinpofaa
