/-
  Lists of fields in the statements' own helpers: wide, plain, same, handed, whole.
-/
import Derived.Test.YtamagbdkcfmfmaaDoorAppend
import Derived.Test.YtamagbdkcfmfmaaDoorOct
import Derived.Deep.QuietTactic
import Derived.BigQuiet
import Derived.WalkSpells
namespace Go.Proofs.YtamagbdkcfmfmaaDoor
open Go.RowKit Go.Shelf Go.Lib

theorem info_field : (Tryd.prog.info? 24).map (fun i => (i.zero, i.size, i.bytes)) = some (some (.agg #[.string ⟨#[]⟩, .string ⟨#[]⟩]), 2, 32) := by kernel_rfl
theorem info_rfield : (Tryd.prog.info? 28).map (fun i => (i.zero, i.size, i.bytes)) = some (some (.agg #[.string ⟨#[]⟩, .string ⟨#[]⟩]), 2, 32) := by kernel_rfl

theorem own_none (w : World) : (w.alloc (.cells #[] 24)).ownsRow w.heap.size 24 2 (.slice (some ⟨w.heap.size, 0, none⟩) 0 0) 0 [] := World.ownsRow_lit w #[] 0 (Nat.le_refl _) (by unfold maxLen; omega) rfl
theorem cells_new2 (w : World) (x y : ByteArray) (t : TypeId) {n : Nat} (hn : n = w.heap.size) : ∀ j u, [Value.string x, Value.string y][j]? = some u → (w.alloc (.cells #[.string x, .string y] t)).cell? ((⟨n, 0, none⟩ : Addr).add j) = some u := by
  subst hn
  intro j u hu
  match j with
  | 0 => simp at hu; subst hu; simp [Addr.add]
  | 1 => simp at hu; subst hu; simp [Addr.add]
  | j + 2 => simp at hu

/-- What a call hands back that makes a list of fields (of the program's or the reference's type T). -/
def GivesFl (T : TypeId) (w : World) (fs : List Fl) (e : Ending) (w' : World) : Prop :=
  ∃ A c, e = .returned (.slice A fs.length c) ∧ w'.ownsRow w.heap.size T 2 (.slice A fs.length c) fs.length (flat fs) ∧ Below w.heap.size w w'

set_option maxRecDepth 20000 in
theorem wide_any (A : Option Addr) (c : Nat) (l : List Fl) (w : World) (hr : Row w A (flat l)) (hl : l.length ≤ 4398046511104) :
    Calls Tryd.prog 47 #[.slice A l.length c] w (GivesFl 24 w l) := by
  obtain ⟨i0, hi0, hz0, hz1, hz2⟩ := info_parts info_field
  go_enter Tryd.func47, Tryd.ntmps47
  go_wp2_with (at_builtin; refine wpList_append_any _ rfl (.tmp 3) (.tmp 4) 33 rfl w.heap.size 24 i0 (.agg #[.string ⟨#[]⟩, .string ⟨#[]⟩]) 2 32 Tryd.underlying33 hi0 hz0 hz1 hz2 rfl (by decide) _ 0 [] rfl (own_none w) _ A l.length c (flat l) rfl (reads_of_row (hr.alloc _) (flat_length l) (by decide)) ?c1 ?c2 ?c3 ?c4 ?c5)
  case c1 => exact flat_oneCell l
  case c2 => unfold maxLen; omega
  case c3 => omega
  case c4 => simp
  case c5 =>
    intro v' w' hown hg hat
    have hb : Below w.heap.size w w' := ((Below.refl _ w).alloc (Nat.le_refl _) _).grown hg (by simp) (fun k hk => by simp [Value.ownBlock] at hk; omega)
    clear hg hat
    obtain ⟨A', c', rfl⟩ := own_slice hown
    go_wp2
    go_ret
    exact ⟨A', c', rfl, hown, hb⟩

set_option maxRecDepth 20000 in
set_option maxHeartbeats 1000000 in
theorem plain_any (A : Option Addr) (c : Nat) (l : List Fl) (w : World) (hr : Row w A (flat l)) (hl : l.length ≤ 4398046511104) :
    Calls Tryd.prog 29 #[.slice A l.length c] w (GivesFl 28 w l) := by
  obtain ⟨i0, hi0, hz0, hz1, hz2⟩ := info_parts info_rfield
  go_enter Tryd.func29, Tryd.ntmps29
  go_wp2
  go_loopw [3, 8] (fun v i wr => ∃ k : Nat, k ≤ l.length ∧ i = .int .i64 k ∧ wr.ownsRow w.heap.size 28 2 v k (flat (l.take k)) ∧ Below w.heap.size w wr) (fun _ i _ => l.length - (RowKit.intOf i).toNat)
  case atStart => exact ⟨0, by omega, rfl, World.ownsRow_nil _ _ _ _, Below.refl _ _⟩
  case round =>
    obtain ⟨k, hk, rfl, hown, hbw⟩ := hrel
    by_cases hlt : k < l.length
    · obtain ⟨⟨x, y⟩, hxy⟩ := some_of_lt hlt
      obtain ⟨b, off, rfl, hb, h0, h1⟩ := (hr.below hbw).pair hxy
      have HS := Lib.hid (take_snoc hxy)
      clear hxy
      go_wp2_with (at_builtin; refine wpList_append_own _ rfl _ _ 40 rfl w.heap.size 28 i0 (.agg #[.string ⟨#[]⟩, .string ⟨#[]⟩]) 2 32 Tryd.underlying40 hi0 hz0 hz1 hz2 rfl (by decide) _ _ _ rfl ((hown.alloc _).alloc _) ⟨wr.heap.size + 1, 0, none⟩ 1 1 [.string x, .string y] rfl rfl ?c0 ?c1 ?c2 ?c3 ?c4 ?c5)
      case c0 => exact cells_new2 _ x y _ (by simp)
      case c1 => exact flat_oneCell [(x, y)]
      case c2 => unfold maxLen; omega
      case c3 => omega
      case c4 => simp; have := hbw.size; omega
      case c5 =>
        intro v' w2 hown2 hg2 _
        go_wp2
        go_roundw
        case rel => exact ⟨k + 1, by omega, by go_num, by rw [HS.out, flat_append]; exact hown2, ((hbw.alloc hbw.size _).alloc (by simp; have := hbw.size; omega) _).grown hg2 (by simp; have := hbw.size; omega) (own_lt hown)⟩
        case measure => simp [RowKit.intOf]; omega
    · obtain rfl : k = l.length := by omega
      rw [List.take_length] at hown
      obtain ⟨A', c', rfl⟩ := own_slice hown
      go_wp2
      go_ret
      exact ⟨A', c', rfl, hown, hbw⟩

set_option maxRecDepth 20000 in
set_option maxHeartbeats 1000000 in
theorem same_any (A B : Option Addr) (c d : Nat) (l m : List Fl) (w : World) (hr : Row w A (flat l)) (hs : Row w B (flat m)) (hl : l.length ≤ 4398046511104) (_hm : m.length ≤ 4398046511104) :
    Calls Tryd.prog 35 #[.slice A l.length c, .slice B m.length d] w fun e w' => e = .returned (.bool (decide (l = m))) ∧ Below w.heap.size w w' := by
  by_cases hlen : l.length = m.length
  · have hne : ((l.length : Int) != (m.length : Int)) = false := by simp; omega
    have hml : m.length ≤ l.length := by omega
    have HL := Lib.hid hlen
    clear hlen
    go_enter Tryd.func35, Tryd.ntmps35
    go_wp2
    go_loopw [13] (fun i wr => ∃ (k q : Nat), k ≤ l.length ∧ i = .int .i64 k ∧ wr = w.drewN q ∧ l.take k = m.take k) (fun i _ => l.length - (RowKit.intOf i).toNat)
    case atStart => exact ⟨0, 0, by omega, rfl, rfl, rfl⟩
    case round =>
      obtain ⟨k, q, hk, rfl, rfl, htk⟩ := hrel
      have HT := Lib.hid htk
      clear htk
      by_cases hlt : k < l.length
      · obtain ⟨⟨x, y⟩, hxy⟩ := some_of_lt hlt
        obtain ⟨⟨x', y'⟩, hxy'⟩ := some_of_lt (show k < m.length by have := HL.out; omega)
        obtain ⟨b, off, rfl, hb, h0, h1⟩ := hr.pair hxy
        obtain ⟨b', off', rfl, hb', h0', h1'⟩ := hs.pair hxy'
        have hkm : k < m.length := lt_of_some hxy'
        have HX := Lib.hid hxy
        have HX' := Lib.hid hxy'
        clear hxy hxy'
        have hki : (k : Int) < (l.length : Int) := by omega
        have hki' : (k : Int) < (m.length : Int) := by omega
        cases hx : (x.toList == x'.toList)
        · have hneq : ¬ l = m := fun e => by
            have h2 := HX.out
            rw [e, HX'.out] at h2
            injection h2 with h2
            injection h2 with h2 _
            rw [h2] at hx
            simp at hx
          have HN := Lib.hid hneq
          clear hneq
          go_wp2_with fail
          go_quiet (fail)
          go_wp2
          go_ret
          exact ⟨ret_bool (by rw [decide_eq_false HN.out]), below_drewN (below_drewN (Below.refl _ _) _) _⟩
        · cases hy : (y.toList == y'.toList)
          · have hneq : ¬ l = m := fun e => by
              have h2 := HX.out
              rw [e, HX'.out] at h2
              injection h2 with h2
              injection h2 with _ h2
              rw [h2] at hy
              simp at hy
            have HN := Lib.hid hneq
            clear hneq
            go_wp2_with fail
            go_quiet (fail)
            go_wp2
            go_ret
            exact ⟨ret_bool (by rw [decide_eq_false HN.out]), below_drewN (below_drewN (Below.refl _ _) _) _⟩
          · have HE := Lib.hid (show (x, y) = (x', y') by rw [of_decide_eq_true ((eq_str x x').symm.trans hx), of_decide_eq_true ((eq_str y y').symm.trans hy)])
            go_wp2_with fail
            go_quiet (fail)
            go_wp2
            go_roundw
            case rel => exact ⟨k + 1, _, by omega, by go_num, rfl, by rw [take_snoc HX.out, take_snoc HX'.out, HT.out, HE.out]⟩
            case measure => simp [RowKit.intOf]; omega
      · obtain rfl : k = l.length := by omega
        have he : l = m := by
          have := HT.out
          rw [List.take_length, HL.out, List.take_length] at this
          exact this
        have HE := Lib.hid he
        clear he
        go_wp2
        go_ret
        exact ⟨ret_bool (by rw [decide_eq_true HE.out]), (below_drewN (Below.refl _ _) _)⟩
  · have hne : ((l.length : Int) != (m.length : Int)) = true := by simp; omega
    have HN := Lib.hid (show ¬ l = m from fun e => hlen (by rw [e]))
    clear hlen
    go_enter Tryd.func35, Tryd.ntmps35
    go_wp2
    go_ret
    exact ⟨ret_bool (by rw [decide_eq_false HN.out]), Below.refl _ _⟩

/-- The two fields that lie in the spare room. -/
def spareRoom : List Fl := [(⟨#[115, 112, 97, 114, 101]⟩, ⟨#[]⟩), (⟨#[114, 111, 111, 109]⟩, ⟨#[]⟩)]
def GivesHanded (w : World) (l : List Fl) (e : Ending) (w' : World) : Prop :=
  ∃ g c, e = .returned (.tuple #[.slice (some ⟨g, 0, none⟩) l.length c, .slice (some ⟨g, 0, none⟩) (l.length + 2) c]) ∧ w'.ownsRow w.heap.size 24 2 (.slice (some ⟨g, 0, none⟩) (l.length + 2) c) (l.length + 2) (flat (l ++ spareRoom)) ∧ Below w.heap.size w w'
theorem cells_new4 (w : World) (a b c d : Value) (t : TypeId) {n : Nat} (hn : n = w.heap.size) : ∀ j u, [a, b, c, d][j]? = some u → (w.alloc (.cells #[a, b, c, d] t)).cell? ((⟨n, 0, none⟩ : Addr).add j) = some u := by
  subst hn
  intro j u hu
  match j with
  | 0 => simp at hu; subst hu; simp [Addr.add]
  | 1 => simp at hu; subst hu; simp [Addr.add]
  | 2 => simp at hu; subst hu; simp [Addr.add]
  | 3 => simp at hu; subst hu; simp [Addr.add]
  | j + 4 => simp at hu
set_option maxRecDepth 20000 in
set_option maxHeartbeats 1000000 in
theorem handed_any (A : Option Addr) (c : Nat) (l : List Fl) (w : World) (hr : Row w A (flat l)) (hl : l.length ≤ 4398046511102) :
    Calls Tryd.prog 26 #[.slice A l.length c] w (GivesHanded w l) := by
  obtain ⟨i0, hi0, hz0, hz1, hz2⟩ := info_parts info_field
  go_enter Tryd.func26, Tryd.ntmps26
  go_wp2_with fail
  refine (wide_any A c l w hr (by omega)).mono ?_
  rintro e w1 ⟨A1, c1, rfl, hown, hb⟩
  go_wp2_with (at_builtin; refine wpList_append_own _ rfl _ _ 33 rfl w.heap.size 24 i0 (.agg #[.string ⟨#[]⟩, .string ⟨#[]⟩]) 2 32 Tryd.underlying33 hi0 hz0 hz1 hz2 rfl (by decide) _ _ _ rfl (hown.alloc _) ⟨w1.heap.size, 0, none⟩ 2 2 (flat spareRoom) rfl rfl ?c0 ?c1 ?c2 ?c3 ?c4 ?c5)
  case c0 => exact cells_new4 _ _ _ _ _ _ rfl
  case c1 => exact flat_oneCell spareRoom
  case c2 => unfold maxLen; omega
  case c3 => omega
  case c4 => simp; have := hb.size; omega
  case c5 =>
    intro v' w2 hown2 hg2 _
    have hb2 : Below w.heap.size w w2 := (hb.alloc hb.size _).grown hg2 (by simp; have := hb.size; omega) (own_lt hown)
    rw [← flat_append] at hown2
    clear hg2 hown hb
    obtain ⟨g, cap, rfl, hcap, _⟩ := hown2.form (by omega)
    have hcc := own_cap hown2
    have hc0 : ¬ cap = 0 := by omega
    have hlc : l.length ≤ cap := by omega
    go_wp2
    go_ret2
    exact ⟨g, cap, rfl, hown2, hb2⟩

set_option maxRecDepth 20000 in
set_option maxHeartbeats 1000000 in
theorem whole_any (A B : Option Addr) (c d : Nat) (fs l : List Fl) (w : World) (hr : Row w A (flat fs)) (hs : Row w B (flat l)) (hl : fs.length ≤ 4398046511104) (hm : l.length ≤ 4398046511102) :
    Calls Tryd.prog 30 #[.slice A fs.length c, .slice B l.length d] w fun e w' => e = .returned (.bool (decide (fs = l ++ spareRoom))) ∧ Below w.heap.size w w' := by
  obtain ⟨i0, hi0, hz0, hz1, hz2⟩ := info_parts info_rfield
  go_enter Tryd.func30, Tryd.ntmps30
  go_wp2_with fail
  refine (plain_any B d l w hs (by omega)).mono ?_
  rintro e w1 ⟨A1, c1, rfl, hown, hb⟩
  go_wp2_with (at_builtin; refine wpList_append_own _ rfl _ _ 40 rfl w.heap.size 28 i0 (.agg #[.string ⟨#[]⟩, .string ⟨#[]⟩]) 2 32 Tryd.underlying40 hi0 hz0 hz1 hz2 rfl (by decide) _ _ _ rfl (hown.alloc _) ⟨w1.heap.size, 0, none⟩ 2 2 (flat spareRoom) rfl rfl ?c0 ?c1 ?c2 ?c3 ?c4 ?c5)
  case c0 => exact cells_new4 _ _ _ _ _ _ rfl
  case c1 => exact flat_oneCell spareRoom
  case c2 => unfold maxLen; omega
  case c3 => omega
  case c4 => simp; have := hb.size; omega
  case c5 =>
    intro v' w2 hown2 hg2 _
    have hb2 : Below w.heap.size w w2 := (hb.alloc hb.size _).grown hg2 (by simp; have := hb.size; omega) (own_lt hown)
    rw [← flat_append] at hown2
    clear hg2 hown hb
    obtain ⟨A2, c2, rfl⟩ := own_slice hown2
    have hlen : (l ++ spareRoom).length = l.length + 2 := by rw [List.length_append]; rfl
    have hS := same_any A A2 c c2 fs (l ++ spareRoom) w2 (hr.below hb2) (own_row hown2) hl (by omega)
    rw [hlen] at hS
    have HS := Lib.hid hS
    clear hS hlen
    go_wp2_with fail
    refine HS.out.mono ?_
    rintro e w3 ⟨rfl, hb3⟩
    go_wp2
    go_ret
    exact ⟨rfl, hb2.trans (hb3.mono hb2.size)⟩
end Go.Proofs.YtamagbdkcfmfmaaDoor
