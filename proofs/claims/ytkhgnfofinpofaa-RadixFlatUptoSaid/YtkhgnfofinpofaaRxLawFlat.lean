/-
  The walk of RadixFlat.
-/
import Derived.Test.YtkhgnfofinpofaaRxIt
import Derived.Test.YtkhgnfofinpofaaRxLawChecks
import Derived.Shelf.RegionOpen
import Derived.Test.YtkhgnfofinpofaaRxQr
import Derived.Laws.StructEq
namespace Go.Proofs.Ytkhgnfofinpofaa
open Go.RowKit Go.Shelf Go.Lib Go.BigFrame
attribute [local go_sem] Oper.semAt_some

theorem sumF_take {l : List ByteArray} {k : Nat} {x : ByteArray} (h : l[k]? = some x) : sumS (l.take (k + 1)) + (k + 1) = sumS (l.take k) + k + (x.size + 1) := by
  rw [take_snoc h, sumS_append, sumS_cons]
  show _ + (x.size + 0) + _ = _
  omega
theorem sumF_take_le (l : List ByteArray) (k : Nat) : sumS (l.take k) ≤ sumS l := by
  have h := sumS_append (l.take k) (l.drop k)
  rw [List.take_append_drop] at h
  omega
/-- What Insert and the reference's Check answer. -/
theorem ins_chk {es es' : List En} {s : ByteArray} {v code : Int} (h : InsTo es s v code es') : (code = 130 ∧ (checkP s).2 = 130) ∨ (code = 131 ∧ (checkP s).2 = 0) ∨ (code = 0 ∧ (checkP s).2 = 0) := by
  rcases h with ⟨h1, h2, _⟩ | ⟨h1, _, h2, _⟩ | ⟨h1, _, h2, _⟩
  · exact .inl ⟨h2, chk_no h1⟩
  · exact .inr (.inl ⟨h2, by rw [chk_yes h1]⟩)
  · exact .inr (.inr ⟨h2, by rw [chk_yes h1]⟩)
theorem eq_prm (a b : Pr) (w : World) : (Op.equalIn 10000 45 (.agg #[.string a.1, .string a.2.1, .bool a.2.2]) (.agg #[.string b.1, .string b.2.1, .bool b.2.2])).run Try.prog w = .ok (a.1.toList == b.1.toList && (a.2.1.toList == b.2.1.toList && a.2.2 == b.2.2)) w := by
  rw [show (10000 : Nat) = 9999 + 1 from rfl, run_equalIn_agg w 9999 45 _ _ (by kernel_rfl) (by kernel_rfl)]
  simp only [Program.fieldsOf, Try.underlying45]
  go_simp
  obtain ⟨a0, a1, a2⟩ := a
  obtain ⟨b0, b1, b2⟩ := b
  dsimp only
  by_cases h1 : a0.toList = b0.toList <;> by_cases h2 : a1.toList = b1.toList <;> by_cases h3 : a2 = b2 <;> simp [h1, h2, h3]
theorem eq_prm_same (a : Pr) (w : World) : (Op.equalIn 10000 45 (.agg #[.string a.1, .string a.2.1, .bool a.2.2]) (.agg #[.string a.1, .string a.2.1, .bool a.2.2])).run Try.prog w = .ok true w := by
  rw [eq_prm]
  simp
theorem eq_prm_other {a b : Pr} (h : a ≠ b) (w : World) : (Op.equalIn 10000 45 (.agg #[.string a.1, .string a.2.1, .bool a.2.2]) (.agg #[.string b.1, .string b.2.1, .bool b.2.2])).run Try.prog w = .ok false w := by
  rw [eq_prm]
  obtain ⟨a0, a1, a2⟩ := a
  obtain ⟨b0, b1, b2⟩ := b
  dsimp only
  rw [eq_str, eq_str]
  by_cases h1 : a0 = b0
  · by_cases h2 : a1 = b1
    · by_cases h3 : a2 = b2
      · subst h1 h2 h3
        exact absurd rfl h
      · simp [h1, h2, h3]
    · simp [h1, h2]
  · simp [h1]
/-- The two boxes of the law. -/
def BxF (w0 W : World) (path : ByteArray) : Prop := Boxed W w0.heap.size 9 (.string path) ∧ Boxed W (w0.heap.size + 1) 4 (.bool false)
theorem BxF.below {w0 W W' : World} {path : ByteArray} (h : BxF w0 W path) (hb : Below W.heap.size W W') : BxF w0 W' path := ⟨h.1.kept (below_grown hb) (fun e => by cases e), h.2.kept (below_grown hb) (fun e => by cases e)⟩
theorem BxF.turn {w0 W W' : World} {path : ByteArray} {q : Nat} (h : BxF w0 W path) (ht : Turn q W W') (hq : w0.heap.size + 1 < q) : BxF w0 W' path :=
  ⟨(ht.block _ h.1.lt (by omega)).trans h.1, (ht.block _ h.2.lt (by omega)).trans h.2⟩
/-- What Find answered. -/
def FoundF (es : List En) (path : ByteArray) (fv : Int) (fp : ByteArray) (fl : List Prm) (fo : Bool) : Prop :=
  (fo = false ∧ fp = ⟨#[]⟩ ∧ fv = 0 ∧ fl = [] ∧ ∀ x ∈ es, fitB path x = false) ∨ (fo = true ∧ ∃ (i : Nat) (x : En), es[i]? = some x ∧ fp = x.1 ∧ fv = x.2.2.2 ∧ fl = (fitVal (fitsP x.1 path)).1 ∧ fitB path x = true ∧ ∀ (j : Nat) (y : En), j < i → es[j]? = some y → fitB path y = false)
theorem flat_first {es : List En} {path : ByteArray} {fv : Int} {fp : ByteArray} {fl : List Prm} {fo : Bool} (HF : FoundF es path fv fp fl fo) {pre : List (KM es)} {x : KM es} (hno : ∀ z : KM es, z ∈ pre → (fitVal (fitsP z.1.1 path)).2 = false) (hf : (fitVal (fitsP x.1.1 path)).2 = true) (hp : (pre ++ [x]).map (·.1) <+: keptE es) :
    fo = true ∧ fp = x.1.1 ∧ fv = x.1.2 ∧ fl = (fitVal (fitsP x.1.1 path)).1 := by
  obtain ⟨t, ht⟩ := hp
  rw [List.map_append, List.append_assoc] at ht
  have hn : (keptE es)[pre.length]? = some x.1 := by
    have h2 : (pre.map (·.1) ++ ([x].map (·.1) ++ t))[pre.length]? = (keptE es)[pre.length]? := by rw [ht]
    rw [← h2, List.getElem?_append_right (by rw [List.length_map]; exact Nat.le_refl _)]
    simp
  have hlt : ∀ (j : Nat) (z : KM es), pre[j]? = some z → (keptE es)[j]? = some z.1 := fun j z hz => by
    have hj := (List.getElem?_eq_some_iff.1 hz).1
    have h2 : (pre.map (·.1) ++ ([x].map (·.1) ++ t))[j]? = (keptE es)[j]? := by rw [ht]
    rw [← h2, List.getElem?_append_left (by rw [List.length_map]; exact hj), List.getElem?_map, hz]
    rfl
  rcases HF with ⟨_, _, _, _, h⟩ | ⟨h1, i, y, hy, h2, h3, h4, h5, h6⟩
  · obtain ⟨y, hy, hyx⟩ := List.mem_map.1 (show x.1 ∈ es.map fun x => (x.1, x.2.2.2) from List.mem_of_getElem? hn)
    have h7 := h y hy
    unfold fitB at h7
    rw [← hyx] at hf
    exact absurd (h7.symm.trans hf) (by decide)
  · have k1 := keptE_get hy
    rcases Nat.lt_trichotomy i pre.length with hi | hi | hi
    · have hz := hlt i _ (List.getElem?_eq_getElem hi)
      rw [k1] at hz
      have h7 := hno _ (List.getElem_mem hi)
      rw [← Option.some.inj hz] at h7
      unfold fitB at h5
      exact absurd (h7.symm.trans h5) (by decide)
    · subst hi
      rw [k1] at hn
      have hx := Option.some.inj hn
      rw [← hx]
      exact ⟨h1, h2, h3, h4⟩
    · have hl : pre.length < es.length := by have := (List.getElem?_eq_some_iff.1 hy).1; omega
      obtain ⟨y2, hy2⟩ := some_of_lt hl
      have h7 := h6 _ y2 hi hy2
      rw [keptE_get hy2] at hn
      unfold fitB at h7
      rw [← Option.some.inj hn] at hf
      exact absurd (h7.symm.trans hf) (by decide)
theorem flat_none {es : List En} {path : ByteArray} {fv : Int} {fp : ByteArray} {fl : List Prm} {fo : Bool} (HF : FoundF es path fv fp fl fo) {ys : List (KM es)} (hno : ∀ z : KM es, z ∈ ys → (fitVal (fitsP z.1.1 path)).2 = false) (hys : ys.map (·.1) = keptE es) :
    fo = false ∧ fp = ⟨#[]⟩ ∧ fv = 0 ∧ fl = [] := by
  rcases HF with ⟨h1, h2, h3, h4, _⟩ | ⟨h1, i, y, hy, h2, h3, h4, h5, h6⟩
  · exact ⟨h1, h2, h3, h4⟩
  · have hm : (y.1, y.2.2.2) ∈ ys.map (fun z : KM es => z.1) := by rw [hys]; exact List.mem_of_getElem? (keptE_get hy)
    obtain ⟨z, hz, hzy⟩ := List.mem_map.1 hm
    have h7 := hno z hz
    rw [hzy] at h7
    unfold fitB at h5
    exact absurd (h7.symm.trans h5) (by decide)
/-- What holds while the law goes over all, and when it leaves early. -/
def FlI (es : List En) (path : ByteArray) (w5 : World) (pre : List (KM es)) (W : World) : Prop := Below w5.heap.size w5 W ∧ ∀ z : KM es, z ∈ pre → (fitVal (fitsP z.1.1 path)).2 = false
def FlX (es : List En) (w0 : World) (cc : Code) (pre : List (KM es)) (W : World) : Prop := (∃ v, Boxed W (w0.heap.size + 1) 4 (.bool v) ∧ (pre.map (·.1) <+: keptE es → v = true)) ∧ Below w0.heap.size w0 W ∧ cc = .ret
set_option maxRecDepth 100000 in
set_option maxHeartbeats 8000000 in
theorem RadixFlat_walk (A : Option Addr) (c : Nat) (l : List ByteArray) (path : ByteArray) (w : World) (hr : Row w A (l.map .string)) (_hp : path.size ≤ maxLen) (hk : (sumS l + l.length) + path.size ≤ 1048576) (hg : Glob w) :
    Calls Try.prog 5 #[.slice A l.length c, .string path] w fun e w' => e = .returned (.bool true) ∧ Below w.heap.size w w' := by
  have hfn : ∀ (b : Nat) (w : World), (binOp .eql 53 (.func (.func 47) #[] #[.pointer (some ⟨b, 0, none⟩)]) .nilFunc).run Try.prog w = .ok (.bool false) w := fun _ _ => rfl
  have b0 : Below w.heap.size w ((w.alloc (.cells #[.string path] 9)).alloc (.cells #[.bool false] 4)) := ((Below.refl _ w).alloc (Nat.le_refl _) _).alloc (by simp) _
  have HN := Lib.hid (NewK w _ b0)
  have hX0 : BxF w ((w.alloc (.cells #[.string path] 9)).alloc (.cells #[.bool false] 4)) path := ⟨(Boxed.new w 9 (.string path)).alloc _, by
    have := Boxed.new (w.alloc (.cells #[.string path] 9)) 4 (.bool false)
    rwa [World.size_alloc] at this⟩
  have HG := Lib.hid hg
  have HR := Lib.hid hr
  have HTL := Lib.hid (sumF_take_le l)
  have hll : l.length ≤ 1048576 := by omega
  have HX0 := Lib.hid hX0
  clear hg hr b0 hX0
  simp only [World.size_alloc] at HN
  refine (callsIn_wide (n := 8)).1 ?_
  refine callsIn_of_wp_marks Try.func5 rfl trivial ?_ rfl
  simp only [Try.ntmps5, List.size_toArray, List.length_cons, List.length_nil, Nat.reduceAdd, Nat.reduceSub, Array.replicate_succ, Array.replicate_zero, List.push_toArray, List.append_toArray, List.nil_append, List.cons_append]
  gi_wp2_with fail
  refine ⟨trivial, (callsIn_wide.2 HN.out).mono ?_⟩
  rintro e w1 ⟨rfl, hK1, hb1⟩
  have hX1 := HX0.out.below (by simpa using hb1)
  gi_wp2_with fail
  refine ⟨trivial, (callsIn_wide.2 (awake_any _ (HG.out.beyond hK1.base))).mono ?_⟩
  rintro e w2 ⟨rfl, hb2⟩
  have HK2 := Lib.hid (hK1.below hb2)
  have HX2 := Lib.hid (hX1.below hb2)
  clear HN hK1 hb1 hb2 hX1 HX0
  generalize hq : w.heap.size + 2 + 1 = q at *
  have hqw : w.heap.size + 1 < q := by omega
  clear hq
  gi_wp2
  gi_loopw [6] (fun i wr => ∃ (k : Nat) (es : List En), k ≤ l.length ∧ i = .int .i64 (k : Int) ∧ Hid (Kp w wr q es (sumS (l.take k) + k)) ∧ Hid (BxF w wr path)) (fun i _ => l.length - (RowKit.intOf i).toNat)
  case atStart => exact ⟨0, [], by omega, rfl, Lib.hid (HK2.out.more (Nat.zero_le _)), HX2⟩
  case round =>
    obtain ⟨k, es, hkl, rfl, HK, HX⟩ := hrel
    by_cases hlt : k < l.length
    · obtain ⟨x, hx⟩ := some_of_lt hlt
      have hkI : (k : Int) < (l.length : Int) := by omega
      obtain ⟨b, off, rfl, hb, hc0⟩ := HR.out.str hx
      have hc := (HK.out.base.cell (p := ⟨b, off + k, none⟩) hb).trans hc0
      have hst := sumF_take hx
      have h1 := HTL.out k
      have h2 := HTL.out (k + 1)
      have hxz := sumS_mem (List.mem_of_getElem? hx)
      have HI := Lib.hid (InsertK w wr q es _ x (k : Int) HK.out (by omega))
      have HCH := Lib.hid (fun W => rCheck_any x W (by omega))
      have HST := Lib.hid hst
      clear hx hst h1 h2 HK2 HX2
      gi_wp2_with fail
      refine ⟨trivial, (callsIn_wide.2 HI.out).mono ?_⟩
      rintro e w3 ⟨code, es', rfl, hto, hK3, ht3⟩
      have hX3 := HX.out.turn ht3 hqw
      have hc3 := (hK3.base.cell (p := ⟨b, off + k, none⟩) hb).trans hc0
      have hb3 : b < w3.heap.size := Nat.lt_of_lt_of_le hb hK3.base.size
      have hic := ins_chk hto
      unfold chkVal at HCH
      generalize checkP x = ch at *
      obtain ⟨cp, ce⟩ := ch
      dsimp only at HCH hic
      rw [← HST.out] at hK3
      have HK3 := Lib.hid hK3
      have HX3 := Lib.hid hX3
      clear hto ht3 hK3 hX3 HI hc0 HX HK
      gi_wp2_with fail
      refine ⟨trivial, (callsIn_wide.2 (HCH.out _)).mono ?_⟩
      rintro e w4 ⟨rfl, hb4⟩
      have HK4 := Lib.hid (HK3.out.below hb4)
      have HX4 := Lib.hid (HX3.out.below hb4)
      clear hb4 HK3 HX3 HCH
      rcases hic with ⟨rfl, rfl⟩ | ⟨rfl, rfl⟩ | ⟨rfl, rfl⟩
      all_goals
        gi_wp2
        go_roundw
        case rel => exact ⟨k + 1, es', by omega, by go_num, HK4, HX4⟩
        case measure => simp [RowKit.intOf]; omega
    · obtain rfl : k = l.length := by omega
      have hKe := HK.out
      rw [List.take_length] at hKe
      have HKE := Lib.hid hKe
      have hsum := hKe.sum
      have hel := sumE_len es
      have hgd := hKe.good
      have hpz : path.size ≤ 4194304 := by omega
      have HFD := Lib.hid (fun W (hb : Below wr.heap.size wr W) => FindK (w := W) path (HKE.out.below hb) (by omega) hpz HG.out)
      have HAL := Lib.hid (fun W (hb : Below wr.heap.size wr W) => AllK (w := W) (HKE.out.below hb) (by omega))
      have hxp := HX.out.1.cell
      have hwr := Lib.hid hKe.base
      clear HK hKe HK2 HX2
      gi_wp2_with fail
      refine ⟨trivial, (callsIn_wide.2 (HFD.out _ (Below.refl _ _))).mono ?_⟩
      rintro e w3 hf3
      have hfd : ∃ (fv : Int) (fp : ByteArray) (fl : List Prm) (fo : Bool) (FA : Option Addr) (fc : Nat), e = .returned (.tuple #[.int .i64 fv, .string fp, .slice FA fl.length fc, .bool fo]) ∧ Row w3 FA (flat3 fl) ∧ Below wr.heap.size wr w3 ∧ Hid (FoundF es path fv fp fl fo) := by
        rw [findE_fit hgd] at hf3
        rcases hf3 with ⟨h1, rfl, h3⟩ | ⟨i, x, h1, h2, ⟨FA, fc, rfl, ho⟩, h4⟩
        · exact ⟨0, ⟨#[]⟩, [], false, none, 0, rfl, Row.nil _ _, h3, Lib.hid (.inl ⟨rfl, rfl, rfl, rfl, List.findIdx?_eq_none_iff.1 h1⟩)⟩
        · obtain ⟨hi, hi2, hi3⟩ := List.findIdx?_eq_some_iff_getElem.1 h1
          have hxe : es[i] = x := (List.getElem?_eq_some_iff.1 h2).2
          refine ⟨_, _, _, true, FA, fc, rfl, own_row ho, h4, Lib.hid (.inr ⟨rfl, i, x, h2, rfl, rfl, rfl, by rw [← hxe]; exact hi2, fun j y hj hy => ?_⟩)⟩
          have h5 := hi3 j hj
          rw [(List.getElem?_eq_some_iff.1 hy).2] at h5
          simpa using h5
      obtain ⟨fv, fp, fl, fo, FA, fc, rfl, hrf, B3, HFV⟩ := hfd
      clear hf3 HFD
      have hX3 := HX.out.below B3
      gi_wp2_with fail
      refine ⟨trivial, (callsIn_wide.2 (HAL.out _ ?b4)).mono ?_⟩
      case b4 => exact (((B3.alloc B3.size _).alloc (by have := B3.size; simp; omega) _).alloc (by have := B3.size; simp; omega) _).alloc (by have := B3.size; simp; omega) _
      rintro e w5 ⟨A5, c5, rfl, b5, hl5, hc5, hr5⟩
      have B35 : Below w3.heap.size w3 w5 := (((((Below.refl _ w3).alloc (Nat.le_refl _) _).alloc (by simp) _).alloc (by simp; omega) _).alloc (by simp; omega) _).trans (b5.mono (by simp; omega))
      have k0 := ((((Boxed.new w3 3 (.int .i64 fv)).alloc (.cells #[.string fp] 9)).alloc (.cells #[.slice FA fl.length fc] 37)).alloc (.cells #[.bool fo] 4)).kept (below_grown b5) (fun e => by cases e)
      have k1 := (((Boxed.new (w3.alloc (.cells #[.int .i64 fv] 3)) 9 (.string fp)).alloc (.cells #[.slice FA fl.length fc] 37)).alloc (.cells #[.bool fo] 4)).kept (below_grown b5) (fun e => by cases e)
      have k2 := ((Boxed.new ((w3.alloc (.cells #[.int .i64 fv] 3)).alloc (.cells #[.string fp] 9)) 37 (.slice FA fl.length fc)).alloc (.cells #[.bool fo] 4)).kept (below_grown b5) (fun e => by cases e)
      have k3 := (Boxed.new (((w3.alloc (.cells #[.int .i64 fv] 3)).alloc (.cells #[.string fp] 9)).alloc (.cells #[.slice FA fl.length fc] 37)) 4 (.bool fo)).kept (below_grown b5) (fun e => by cases e)
      have hX5 := hX3.below B35
      have hrf5 := hrf.below B35
      have hbF5 : Below w.heap.size w w5 := hwr.out.trans ((B3.trans (B35.mono B3.size)).mono hwr.out.size)
      have hz5 := B35.size
      simp only [World.size_alloc] at hc5 hr5 hl5 k1 k2 k3 ⊢
      clear b5 hX3 hrf B3 B35 HAL hwr
      have HK0 := Lib.hid (And.intro (And.intro k0 k1) (And.intro k2 k3))
      gi_wp2_with fail
      have hrS := hr5.mono (S' := fun b => w3.heap.size + 1 + 1 + 1 + 1 ≤ b ∧ b < w5.heap.size) (fun b h k => ⟨h, k⟩)
      clear hr5
      refine wpIn_rangeFunc_ownG rfl (by omega) (gf := 47) (lb := #[.pointer (some ⟨w3.heap.size + 1 + 1 + 1 + 1, 0, none⟩)]) rfl trivial (enters_of Try.func47 (by kernel_rfl) rfl)
        (all1_mem (fun b => w3.heap.size + 1 + 1 + 1 + 1 ≤ b ∧ b < w5.heap.size) (8 - 1) (by omega) (w3.heap.size + 1 + 1 + 1 + 1) A5 c5 es (by omega) w5 hl5 hc5 hrS (fun b h => h.2)) (fun h k => h.trans k) (hold_putObj (fun b h => h.2) (Nat.le_refl _)) (Below.refl _ _) (fun _ => rfl)
        (FlI es path w5)
        (FlX es w)
        ?own ?ownx ⟨Below.refl _ _, fun z hz => by cases hz⟩ ?_ ?assign ?body ?done ?stop
      case own => exact fun s W W' row hs hg hr => ⟨(ownFrom_below (β := List (KM es)) (Nat.le_refl _) (Nat.le_refl _)) s W W' row hs.1 hg hr, hs.2⟩
      case ownx =>
        rintro cc s W W' row ⟨⟨v, hb, hv⟩, hB, hc⟩ hg hr
        exact ⟨⟨v, (Own.from (boxed_at (β := Unit) (w.heap.size + 1) 4 (fun _ => .bool v)) w5.heap.size) () W W' row hb hg hr, hv⟩, (ownFrom_below (β := Unit) (Nat.le_refl _) hbF5.size) () W W' row hB hg hr, hc⟩
      case assign =>
        intro l x W K hK
        gi_wp2
        exact hK
      case body =>
        rintro l' pre ⟨⟨p, v⟩, hx⟩ W ⟨hB, hno⟩ hlt2
        have hpz2 : p.size ≤ 4194304 := by
          obtain ⟨y, hy, hyx⟩ := List.mem_map.1 (show (p, v) ∈ es.map fun x => (x.1, x.2.2.2) from hx)
          have h7 := sumE_mem hy
          rw [show p = y.1 from (Prod.mk.inj hyx).1.symm]
          omega
        have c0 := (k0.kept (below_grown hB) (fun e => by cases e)).cell
        have c1 := (k1.kept (below_grown hB) (fun e => by cases e)).cell
        have c2 := (k2.kept (below_grown hB) (fun e => by cases e)).cell
        have c3 := (k3.kept (below_grown hB) (fun e => by cases e)).cell
        have hXW := hX5.below hB
        have cp := hXW.1.cell
        have HFI := Lib.hid (Fits_any p path W hpz2 hpz (HG.out.beyond (hbF5.trans (hB.mono hbF5.size))))
        gi_wp2_with fail
        refine ⟨trivial, (CallsIn.inRound l' (callsIn_wide.2 HFI.out)).mono ?_⟩
        rintro e W1 ⟨KA, kc, rfl, ho, hb1⟩
        have hB1 := hB.trans (hb1.mono hB.size)
        have hX1 := hXW.below hb1
        have HFF := Lib.hid (fun (hf : (fitVal (fitsP p path)).2 = true) (hp : (pre ++ [(⟨(p, v), hx⟩ : KM es)]).map (·.1) <+: keptE es) => flat_first HFV.out hno hf hp)
        have HNO := Lib.hid (fun (hf : (fitVal (fitsP p path)).2 = false) (z : KM es) (hz : z ∈ pre ++ [(⟨(p, v), hx⟩ : KM es)]) => (show (fitVal (fitsP z.1.1 path)).2 = false by
          rcases List.mem_append.1 hz with h | h
          · exact hno z h
          · rw [List.mem_singleton.1 h]; exact hf))
        have hrk := own_row ho
        have hkz := refFits_len p path
        rw [ref_fits] at hkz
        have HQ := Lib.hid (And.intro HFF.out HNO.out)
        dsimp only at HQ
        clear HFI HFF HNO ho
        generalize fitVal (fitsP p path) = r at *
        obtain ⟨kl, kf⟩ := r
        dsimp only at hkz hrk HQ ⊢
        have hcR := hX1.2.cell
        have hfR := hX1.2.frozen
        have cc0 := (k0.kept (below_grown hB1) (fun e => by cases e)).cell
        have cc1 := (k1.kept (below_grown hB1) (fun e => by cases e)).cell
        have cc2 := (k2.kept (below_grown hB1) (fun e => by cases e)).cell
        have cc3 := (k3.kept (below_grown hB1) (fun e => by cases e)).cell
        clear c0 c1 c2 c3
        cases kf
        · have hno2 := HQ.out.2 rfl
          have hko : KeepsOthers W W1 := KeepsOthers.of_grownBy (below_grown hb1) (fun j o e => by cases e)
          have hho : Hold (fun b => w3.heap.size + 1 + 1 + 1 + 1 ≤ b ∧ b < w5.heap.size) W W1 := Hold.of_below hb1
          have HNO2 := Lib.hid hno2
          clear hno2 hno HQ
          gi_wp2
          exact ⟨hko.from _, hho, hB1, HNO2.out⟩
        · have HQ1 := Lib.hid (HQ.out.1 rfl)
          clear HQ
          have hwz := hbF5.size
          have hko : KeepsOthers W W1 := KeepsOthers.of_grownBy (below_grown hb1) (fun j o e => by cases e)
          have hBw := hbF5.trans (hB1.mono hbF5.size)
          have FAIL := Lib.hid (show ∀ (V : World) (u : Bool), W1.grownBy V none → ((pre ++ [(⟨(p, v), hx⟩ : KM es)]).map (·.1) <+: keptE es → u = true) → KeepsFrom w5.heap.size W (V.setCell ⟨w.heap.size + 1, 0, none⟩ (.bool u)) ∧ FlX es w .ret (pre ++ [(⟨(p, v), hx⟩ : KM es)]) (V.setCell ⟨w.heap.size + 1, 0, none⟩ (.bool u)) from fun V u hV hn =>
            ⟨((hko.trans (KeepsOthers.of_grownBy hV (fun j o e => by cases e))).trans (KeepsOthers.setCell V ⟨w.heap.size + 1, 0, none⟩ _)).from _, ⟨u, (hX1.2.kept hV (fun e => by cases e)).set _, hn⟩, (hBw.grown hV (Nat.le_trans hwz hB1.size) (fun k e => by cases e)).setCell (by show w.heap.size ≤ w.heap.size + 1; omega) _, rfl⟩)
          clear hno
          have GR := below_grown (Below.refl W1.heap.size W1)
          cases fo
          · have hn := Lib.hid (show ¬ (pre ++ [(⟨(p, v), hx⟩ : KM es)]).map (·.1) <+: keptE es from fun hp => by have := (HQ1.out hp).1; cases this)
            clear HQ1
            gi_wp2
            exact FAIL.out W1 false GR (fun h => absurd h hn.out)
          · by_cases hp : fp = p
            · subst hp
              by_cases hv : fv = v
              · subst hv
                by_cases hl : kl.length = fl.length
                · have e1 : (fp.toList != fp.toList) = false := by simp
                  have e2 : (fv != fv) = false := by simp
                  have e3 : ((kl.length : Int) != (fl.length : Int)) = false := by simp; omega
                  have e4 : (kl.length != fl.length) = false := by simp; omega
                  have HL := Lib.hid hl
                  clear hl
                  obtain ⟨xo, rfl⟩ : ∃ xo : World, xo = wr := ⟨_, rfl⟩
                  have hkz2 : kl.length ≤ 4194304 := by omega
                  have HRF := Lib.hid (fun q => (hrf5.below hB1).below (below_drewN (Below.refl W1.heap.size W1) q))
                  have HRK := Lib.hid (fun q => hrk.below (below_drewN (Below.refl W1.heap.size W1) q))
                  have CW := Lib.hid (fun (q : Nat) (a : Addr) => (show (W1.drewN q).cell? a = W1.cell? a from rfl))
                  clear hrk hrf5
                  gi_wp2
                  gi_loopw [19] (fun i wr => ∃ k q : Nat, k ≤ kl.length ∧ i = .int .i64 (k : Int) ∧ wr = W1.drewN q) (fun i _ => kl.length - (RowKit.intOf i).toNat)
                  case atStart => exact ⟨0, 0, by omega, rfl, rfl⟩
                  case round =>
                    obtain ⟨k, qn, hk3, rfl, rfl⟩ := hrel
                    by_cases hk4 : k < kl.length
                    · obtain ⟨⟨x0, x1, x2⟩, hx3⟩ := some_of_lt hk4
                      obtain ⟨⟨y0, y1, y2⟩, hy3⟩ := some_of_lt (show k < fl.length by rw [← HL.out]; exact hk4)
                      obtain ⟨b6, o6, rfl, hb6, u0, u1, u2⟩ := (HRK.out qn).trip hx3
                      obtain ⟨b7, o7, rfl, hb7, v0, v1, v2⟩ := (HRF.out qn).trip hy3
                      have hkI : (k : Int) < (kl.length : Int) := by omega
                      have hkJ : (k : Int) < (fl.length : Int) := by have := HL.out; omega
                      rw [CW.out] at u0 u1 u2 v0 v1 v2
                      have hb6' : b6 < W1.heap.size := hb6
                      have hb7' : b7 < W1.heap.size := hb7
                      have HXY := Lib.hid (fun (hp : (pre ++ [(⟨(fp, fv), hx⟩ : KM es)]).map (·.1) <+: keptE es) => (show (x0, x1, x2) = (y0, y1, y2) by
                        have h7 := (HQ1.out hp).2.2.2
                        rw [h7, hx3] at hy3
                        exact Option.some.inj hy3))
                      clear hx3 hy3
                      have hmix : Try.prog.follows .mixedOrders = true := by kernel_rfl
                      have hkM : k < 4194304 := by omega
                      by_cases hxy : (x0, x1, x2) = (y0, y1, y2)
                      · cases hxy
                        have heq := eq_prm_same (x0, x1, x2)
                        dsimp only at heq
                        gi_wp2_with fail
                        refine wpIn_region_quiet_round (by kernel_rfl) (by kernel_rfl) (by kernel_rfl) ?_
                        repeat (gi_big_quiet_step (fail))
                        refine wpQuietIn_nil ?_
                        rintro _ ⟨nq, rfl⟩
                        gi_wp2
                        go_roundw
                        case rel => exact ⟨k + 1, qn + nq, by omega, by go_num, by first | rfl | exact World.drewN_drewN _ _ _⟩
                        case measure => simp [RowKit.intOf]; omega
                      · have hn := Lib.hid (fun h => hxy (HXY.out h))
                        clear HXY
                        have heq := eq_prm_other hxy
                        dsimp only at heq
                        have GRq := fun nq => below_grown (below_drewN (Below.refl W1.heap.size W1) nq)
                        gi_wp2_with fail
                        refine wpIn_region_quiet_round (by kernel_rfl) (by kernel_rfl) (by kernel_rfl) ?_
                        repeat (gi_big_quiet_step (fail))
                        refine wpQuietIn_nil ?_
                        rintro _ ⟨nq, rfl⟩
                        gi_wp2
                        exact FAIL.out _ false (GRq _) (fun h => absurd h hn.out)
                    · obtain rfl : k = kl.length := by omega
                      have GRq := below_grown (below_drewN (Below.refl W1.heap.size W1) qn)
                      gi_wp2
                      exact FAIL.out _ true GRq (fun _ => rfl)
                · have hn := Lib.hid (show ¬ (pre ++ [(⟨(fp, fv), hx⟩ : KM es)]).map (·.1) <+: keptE es from fun hp => hl (by rw [(HQ1.out hp).2.2.2]))
                  have e1 : (fp.toList != fp.toList) = false := by simp
                  have e2 : (fv != fv) = false := by simp
                  have e3 : ((kl.length : Int) != (fl.length : Int)) = true := by simp; omega
                  have e4 : (kl.length != fl.length) = true := by simp; omega
                  clear HQ1
                  gi_wp2
                  exact FAIL.out W1 false GR (fun h => absurd h hn.out)
              · have hn := Lib.hid (show ¬ (pre ++ [(⟨(fp, v), hx⟩ : KM es)]).map (·.1) <+: keptE es from fun hp => hv (HQ1.out hp).2.2.1)
                have e1 : (fp.toList != fp.toList) = false := by simp
                have e2 : (fv != v) = true := by simpa using hv
                clear HQ1
                gi_wp2
                exact FAIL.out W1 false GR (fun h => absurd h hn.out)
            · have hn := Lib.hid (show ¬ (pre ++ [(⟨(p, v), hx⟩ : KM es)]).map (·.1) <+: keptE es from fun h => hp (HQ1.out h).2.1)
              have e0 : (fp.toList == p.toList) = false := by rw [eq_str, decide_eq_false hp]
              have e1 : (fp.toList != p.toList) = true := by rw [bne, e0]; rfl
              have e3 : ¬ fp.toList = p.toList := by simpa using e0
              clear HQ1
              gi_wp2
              exact FAIL.out W1 false GR (fun h => absurd h hn.out)
      case done =>
        rintro D ys W hD hys ⟨hB, hno⟩ hK
        obtain ⟨rfl, rfl, rfl, rfl⟩ := flat_none HFV.out hno hys
        have c0 := (k0.kept (below_grown hB) (fun e => by cases e)).cell
        have c1 := (k1.kept (below_grown hB) (fun e => by cases e)).cell
        have c2 := (k2.kept (below_grown hB) (fun e => by cases e)).cell
        have c3 := (k3.kept (below_grown hB) (fun e => by cases e)).cell
        have hXW := hX5.below hB
        have hcR := hXW.2.cell
        have hfR := hXW.2.frozen
        have hR2 := hXW.2.set (.bool true)
        have hK2 := (KeepsOthers.setCell W ⟨w.heap.size + 1, 0, none⟩ (.bool true)).same D _ hK rfl
        have hBw := (hbF5.trans (hB.mono hbF5.size)).setCell (p := ⟨w.heap.size + 1, 0, none⟩) (by show w.heap.size ≤ w.heap.size + 1; omega) (.bool true)
        have hc2 := hR2.cell
        have hwz := hbF5.size
        have hne : D ≠ w.heap.size + 1 := by have := k0.lt; have := hX5.2.lt; omega
        clear hys hno
        gi_wp2
        refine ⟨by simp, .inl ⟨_, _, rfl, run_takeDeferred hK2, ?_⟩⟩
        have hcf : ((W.setCell ⟨w.heap.size + 1, 0, none⟩ (.bool true)).putObj D (.deferred none)).cell? ⟨w.heap.size + 1, 0, none⟩ = some (.bool true) := by
          rw [← hc2]
          simp [World.cell?, World.putObj, hne]
        exact ⟨.bool true, by simp [results, Try.results5, go_sem, hcf], rfl, hBw.trans (belowK_b (w := w) (Nat.le_refl _) _ D _ _ (by omega) hK2 rfl rfl)⟩
      case stop =>
        rintro D c pre W hD hsp ⟨⟨v, hR, hv⟩, hB, rfl⟩ hK
        obtain rfl := hv hsp
        have hc2 := hR.cell
        have hwz := hbF5.size
        have hne : D ≠ w.heap.size + 1 := by have := hX5.2.lt; omega
        gi_wp2
        refine ⟨by simp, .inl ⟨_, _, rfl, run_takeDeferred hK, ?_⟩⟩
        have hcf : (W.putObj D (.deferred none)).cell? ⟨w.heap.size + 1, 0, none⟩ = some (.bool true) := by
          rw [← hc2]
          simp [World.cell?, World.putObj, hne]
        exact ⟨.bool true, by simp [results, Try.results5, go_sem, hcf], rfl, hB.trans (belowK_b (w := w) (Nat.le_refl _) _ D _ _ (by omega) hK rfl rfl)⟩
end Go.Proofs.Ytkhgnfofinpofaa
