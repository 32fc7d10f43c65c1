/-
  Lists whose names have their letters in another case: the walk of 'turned', and what stays.
-/
import Derived.Test.YtamagbdkcfmfmaaDoorToks
import Derived.Test.YtamagbdkcfmfmaaDoorOnw
namespace Go.Proofs.YtamagbdkcfmfmaaDoor
open Go.RowKit Go.Shelf Go.Lib

/-- The same names but for their letters' case, the same values. -/
def Turned : List Fl → List Fl → Prop
  | [], [] => True
  | p :: l, q :: m => lower p.1 = lower q.1 ∧ p.1.size = q.1.size ∧ p.2 = q.2 ∧ Turned l m
  | _, _ => False
theorem Turned.len : ∀ {l m : List Fl}, Turned l m → l.length = m.length
  | [], [], _ => rfl
  | _ :: _, _ :: _, h => by simp [Turned.len h.2.2.2]
  | [], _ :: _, h => h.elim
  | _ :: _, [], h => h.elim
theorem Turned.snoc : ∀ {l m : List Fl} {p q : Fl}, Turned l m → lower p.1 = lower q.1 → p.1.size = q.1.size → p.2 = q.2 → Turned (l ++ [p]) (m ++ [q])
  | [], [], _, _, _, h1, h2, h3 => ⟨h1, h2, h3, trivial⟩
  | _ :: _, _ :: _, _, _, h, h1, h2, h3 => ⟨h.1, h.2.1, h.2.2.1, Turned.snoc h.2.2.2 h1 h2 h3⟩
  | [], _ :: _, _, _, h, _, _, _ => h.elim
  | _ :: _, [], _, _, h, _, _, _ => h.elim
theorem Turned.all (name : ByteArray) : ∀ {l m : List Fl}, Turned l m → allV m name = allV l name
  | [], [], _ => rfl
  | p :: l, q :: m, h => by
    have ih := Turned.all name h.2.2.2
    have e : alike q.1 name = alike p.1 name := by unfold alike; rw [h.1]
    unfold allV at *
    cases ha : alike p.1 name
    · rw [List.filter_cons_of_neg (by rw [e, ha]; simp), List.filter_cons_of_neg (by rw [ha]; simp), ih]
    · rw [List.filter_cons_of_pos (by rw [e, ha]), List.map_cons, ih, ← h.2.2.1, List.filter_cons_of_pos (p := fun p : Fl => alike p.1 name) (show (fun p : Fl => alike p.1 name) p = true from ha), List.map_cons]
  | [], _ :: _, h => h.elim
  | _ :: _, [], h => h.elim
theorem Turned.bulk : ∀ {l m : List Fl}, Turned l m → bulkF m = bulkF l
  | [], [], _ => rfl
  | p :: l, q :: m, h => by
    have ih := Turned.bulk h.2.2.2
    have e : ∀ (p : Fl) (l : List Fl), bulkF (p :: l) = p.1.size + p.2.size + 3 + bulkF l := fun p l => by simp [bulkF]
    rw [e, e, ih, h.2.1, h.2.2.1]
  | [], _ :: _, h => h.elim
  | _ :: _, [], h => h.elim
theorem Turned.onw (toks : List ByteArray) : ∀ {l m : List Fl}, Turned l m → (onwR m toks).length = (onwR l toks).length
  | [], [], _ => rfl
  | p :: l, q :: m, h => by
    have ih := Turned.onw toks h.2.2.2
    unfold onwR at *
    cases ha : isIn (hopEnds ++ toks) (lower p.1)
    · rw [List.filter_cons_of_pos (by rw [← h.1, ha]; rfl), List.filter_cons_of_pos (by rw [ha]; rfl), List.length_cons, List.length_cons, ih]
    · rw [List.filter_cons_of_neg (by rw [← h.1, ha]; simp), List.filter_cons_of_neg (by rw [ha]; simp), ih]
  | [], _ :: _, h => h.elim
  | _ :: _, [], h => h.elim
theorem allV_self {l : List Fl} {k : Nat} {x y : ByteArray} (h : l[k]? = some (x, y)) : allV l x ≠ [] := by
  have hm : (x, y) ∈ l.filter fun p => alike p.1 x := List.mem_filter.2 ⟨List.mem_of_getElem? h, by simp [alike]⟩
  unfold allV
  intro e
  have := List.map_eq_nil_iff.1 e
  rw [this] at hm
  cases hm
def letter (c : Int) : Bool := (decide (97 ≤ c) && decide (c ≤ 122)) || (decide (65 ≤ c) && decide (c ≤ 90))
def flip32 (b : UInt8) : UInt8 := if b.toNat < 97 then UInt8.ofNat (b.toNat + 32) else UInt8.ofNat (b.toNat - 32)
theorem flip_low {b : UInt8} (h : letter (b.toNat : Int) = true) : lowB (flip32 b) = lowB b := by
  have key : ∀ n : Fin 256, letter (n.val : Int) = true → lowB (flip32 (UInt8.ofNat n.val)) = lowB (UInt8.ofNat n.val) := by decide +kernel
  have := key ⟨b.toNat, b.toNat_lt⟩
  simpa using this (by simpa using h)
theorem flip_xor {b : UInt8} (h : letter (b.toNat : Int) = true) : bits BinOp.xor IntKind.u8 (b.toNat : Int) 32 = ((flip32 b).toNat : Int) := by
  have key : ∀ n : Fin 256, letter (n.val : Int) = true → bits BinOp.xor IntKind.u8 (n.val : Int) 32 = ((flip32 (UInt8.ofNat n.val)).toNat : Int) := by decide +kernel
  have := key ⟨b.toNat, b.toNat_lt⟩
  simpa using this (by simpa using h)
theorem map_low_set {l : List UInt8} {k : Nat} {c : UInt8} (hk : k < l.length) (h : lowB c = lowB (l.getD k 0)) : (l.set k c).map lowB = l.map lowB := by
  apply List.ext_getElem?
  intro j
  rw [List.getElem?_map, List.getElem?_set, List.getElem?_map]
  by_cases e : k = j
  · subst e
    rw [if_pos rfl, if_pos hk, List.getElem?_eq_getElem hk]
    rw [List.getD_eq_getElem?_getD, List.getElem?_eq_getElem hk] at h
    simp only [Option.map_some, Option.getD_some] at h ⊢
    rw [h]
  · rw [if_neg e]
theorem lower_of_map {s : ByteArray} {bs : List UInt8} (h : bs.map lowB = s.data.toList.map lowB) : lower ⟨bs.toArray⟩ = lower s ∧ (⟨bs.toArray⟩ : ByteArray).size = s.size := by
  constructor
  · apply bytes_ext
    show bs.map lowB = s.data.toList.map lowB
    exact h
  · have := congrArg List.length h
    simp only [List.length_map] at this
    rw [← size_eq, ← size_eq]
    exact this

/-- What 'turned' hands back. -/
def GivesTurned (w : World) (l : List Fl) (e : Ending) (w' : World) : Prop := ∃ m, Turned l m ∧ GivesFl 24 w m e w'
set_option maxRecDepth 20000 in
set_option maxHeartbeats 4000000 in
theorem turned_any (A : Option Addr) (c : Nat) (l : List Fl) (n : Int) (w : World) (hr : Row w A (flat l)) (hk : bulkF l ≤ 1048576) :
    Calls Tryd.prog 69 #[.slice A l.length c, .int .i64 n] w (GivesTurned w l) := by
  obtain ⟨i0, hi0, hz0, hz1, hz2⟩ := info_parts info_field
  have hbl := bulk_len l
  go_enter Tryd.func69, Tryd.ntmps69
  go_wp2
  go_loopw [5, 13] (fun v i wr => ∃ (k : Nat) (m : List Fl), k ≤ l.length ∧ i = .int .i64 k ∧ wr.ownsRow w.heap.size 24 2 v m.length (flat m) ∧ Below w.heap.size w wr ∧ Turned (l.take k) m) (fun _ i _ => l.length - (RowKit.intOf i).toNat)
  case atStart => exact ⟨0, [], by omega, rfl, World.ownsRow_nil _ _ _ _, Below.refl _ _, trivial⟩
  case round =>
    obtain ⟨k, m, hkk, rfl, hown, hbw, hT⟩ := hrel
    obtain ⟨wo, rfl⟩ : ∃ wo : World, wo = wr := ⟨_, rfl⟩
    have hml : m.length ≤ k := by have := hT.len; rw [List.length_take] at this; omega
    by_cases hlt : k < l.length
    · obtain ⟨⟨x, y⟩, hxy⟩ := some_of_lt hlt
      obtain ⟨b, off, rfl, hb, h0, h1⟩ := (hr.below hbw).pair hxy
      have hwx := bulk_at hk hxy
      have HTK := Lib.hid (take_snoc hxy)
      have HT := Lib.hid hT
      clear hxy hT
      have hbo := hbw.alloc hbw.size (.cells #[.string x, .string y] 24)
      have hco0 : (wo.alloc (.cells #[.string x, .string y] 24)).cell? ⟨wo.heap.size, 1, none⟩ = some (.string y) := by simp
      have howno := hown.alloc (.cells #[.string x, .string y] 24)
      have hso : (wo.alloc (.cells #[.string x, .string y] 24)).heap.size = wo.heap.size + 1 := by simp
      have hcv := bytes_conv (wo.alloc (.cells #[.string x, .string y] 24)) x
      have hba := BytesAt.of_conv (wo.alloc (.cells #[.string x, .string y] 24)) 5 x
      have hbl2 := below_conv (wo.alloc (.cells #[.string x, .string y] 24)) 5 x
      have hbz := Lib.bytesWorld_size (wo.alloc (.cells #[.string x, .string y] 24)) 5 x
      generalize Lib.bytesWorld (wo.alloc (.cells #[.string x, .string y] 24)) 5 x = w1 at hcv hba hbl2 hbz
      generalize grownCap (wo.alloc (.cells #[.string x, .string y] 24)) x.size 0 5 = cap at hcv
      rw [hso] at hcv hba hbl2 hbz
      have hz1' : wo.heap.size + 1 < w1.heap.size := by omega
      clear hso hbz
      go_wp2
      go_loopw [22] (fun i wi => ∃ (j : Nat) (bs : List UInt8), j ≤ x.size ∧ i = .int .i64 j ∧ BytesAt wi (wo.heap.size + 1) bs ∧ bs.map lowB = x.data.toList.map lowB ∧ Below (wo.heap.size + 1) (wo.alloc (.cells #[.string x, .string y] 24)) wi ∧ wo.heap.size + 1 < wi.heap.size) (fun i _ => x.size - (RowKit.intOf i).toNat)
      case atStart => exact ⟨0, x.data.toList, by omega, rfl, hba, rfl, hbl2, hz1'⟩
      case round =>
        obtain ⟨j, bs, hj, rfl, hbs, hmap, hbi, hzi⟩ := hrel
        have hbl' : bs.length = x.size := by
          have := congrArg List.length hmap
          simp only [List.length_map] at this
          rw [this, size_eq]
        have HM := Lib.hid hmap
        have HBL := Lib.hid hbl'
        clear hmap
        by_cases hjt : j < x.size
        · have hjl : j < bs.length := by omega
          have hcell := hbs.cell j hjl
          have hfz := hbs.free j hjl
          have hset := @map_low_set bs j (flip32 (bs.getD j 0)) hjl
          generalize bs.getD j 0 = b0 at *
          clear hbl'
          cases hlet : letter (b0.toNat : Int)
          · have hcase : (b0.toNat : Int) < 65 ∨ (90 < (b0.toNat : Int) ∧ (b0.toNat : Int) < 97) ∨ 122 < (b0.toNat : Int) := by
              simp [letter] at hlet
              omega
            clear hlet hset
            rcases hcase with h | ⟨h, h'⟩ | h
            all_goals
              go_wp2
              go_roundw
              case rel => exact ⟨j + 1, bs, by omega, by go_num, hbs, HM.out, hbi, hzi⟩
              case measure => simp [RowKit.intOf]; omega
          · have HSET := Lib.hid (hset (flip_low hlet))
            have hxor := flip_xor hlet
            have hcase : (97 ≤ (b0.toNat : Int) ∧ (b0.toNat : Int) ≤ 122) ∨ (65 ≤ (b0.toNat : Int) ∧ (b0.toNat : Int) ≤ 90) := by
              simp [letter] at hlet
              omega
            clear hlet hset
            rcases hcase with ⟨h, h'⟩ | ⟨h, h'⟩
            · go_wp2
              · go_roundw
                case rel => exact ⟨j + 1, bs.set j (flip32 b0), by omega, by go_num, hbs.set hjl (flip32 b0) _ rfl, by rw [HSET.out, HM.out], hbi.setCell (by simp) _, by simpa using hzi⟩
                case measure => simp [RowKit.intOf]; omega
              · go_roundw
                case rel => exact ⟨j + 1, bs, by omega, by go_num, hbs, HM.out, hbi, hzi⟩
                case measure => simp [RowKit.intOf]; omega
            · go_wp2
              · go_roundw
                case rel => exact ⟨j + 1, bs.set j (flip32 b0), by omega, by go_num, hbs.set hjl (flip32 b0) _ rfl, by rw [HSET.out, HM.out], hbi.setCell (by simp) _, by simpa using hzi⟩
                case measure => simp [RowKit.intOf]; omega
              · go_roundw
                case rel => exact ⟨j + 1, bs, by omega, by go_num, hbs, HM.out, hbi, hzi⟩
                case measure => simp [RowKit.intOf]; omega
        · obtain rfl : j = x.size := by omega
          have hcv2 := hbs.conv Tryd.underlying95 Tryd.underlying5 Tryd.underlying9 cap
          rw [HBL.out] at hcv2
          obtain ⟨hl1, hl2⟩ := lower_of_map HM.out
          have hy := (hbi.cell (p := ⟨wo.heap.size, 1, none⟩) (by simp)).trans hco0
          have hownr := own_below howno (by simpa using hbi)
          have hbwr : Below w.heap.size w wr := hbo.trans (hbi.mono (by have := hbw.size; omega))
          generalize (⟨bs.toArray⟩ : ByteArray) = z at *
          have HL1 := Lib.hid hl1
          have HL2 := Lib.hid hl2
          clear hl1 hl2 hbs hbi howno hbo hown hbw hbl'
          go_wp2_with (at_builtin; refine wpList_append_own _ rfl _ _ 33 rfl w.heap.size 24 i0 (.agg #[.string ⟨#[]⟩, .string ⟨#[]⟩]) 2 32 Tryd.underlying33 hi0 hz0 hz1 hz2 rfl (by decide) _ _ _ rfl (hownr.alloc _) ⟨wr.heap.size, 0, none⟩ 1 1 [.string z, .string y] rfl rfl ?c0 ?c1 ?c2 ?c3 ?c4 ?c5)
          case c0 => exact cells_new2 _ z y _ rfl
          case c1 => exact flat_oneCell [(z, y)]
          case c2 => unfold maxLen; omega
          case c3 => omega
          case c4 => simp; have := hbwr.size; omega
          case c5 =>
            intro v' w5 hown5 hg5 _
            go_wp2
            go_roundw
            case rel => exact ⟨k + 1, m ++ [(z, y)], by omega, by go_num, by rw [flat_append, List.length_append]; exact hown5, (hbwr.alloc hbwr.size _).grown hg5 (by simp; have := hbwr.size; omega) (own_lt hownr), by rw [HTK.out]; exact HT.out.snoc HL1.out.symm HL2.out.symm rfl⟩
            case measure => simp [RowKit.intOf]; omega
    · obtain rfl : k = l.length := by omega
      rw [List.take_length] at hT
      obtain ⟨A', c', rfl⟩ := own_slice hown
      have HT := Lib.hid hT
      clear hT
      go_wp2
      go_ret
      exact ⟨m, HT.out, A', c', rfl, hown, hbw⟩
end Go.Proofs.YtamagbdkcfmfmaaDoor
