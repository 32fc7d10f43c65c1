/-
  All, Find, of the program: the walks.
-/
import Derived.Test.YtamagbdkcfmfmaaDoorSli
import Derived.Test.YtamagbdkcfmfmaaDoorPline
namespace Go.Proofs.YtamagbdkcfmfmaaDoor
open Go.RowKit Go.Shelf Go.Lib

theorem info_string : (Tryd.prog.info? 9).map (fun i => (i.zero, i.size, i.bytes)) = some (some (.string ⟨#[]⟩), 1, 16) := by kernel_rfl

/-- The values of a name. -/
def allV (l : List Fl) (name : ByteArray) : List ByteArray := (l.filter fun p => alike p.1 name).map (·.2)
theorem allV_take {l : List Fl} {name : ByteArray} {k : Nat} {x y : ByteArray} (h : l[k]? = some (x, y)) :
    allV (l.take (k + 1)) name = if alike x name = true then allV (l.take k) name ++ [y] else allV (l.take k) name := by
  rw [take_snoc h]
  unfold allV
  rw [List.filter_append, List.map_append]
  cases e : alike x name <;> simp [e]
theorem allV_length (l : List Fl) (name : ByteArray) : (allV l name).length ≤ l.length := by
  unfold allV
  rw [List.length_map]
  exact List.length_filter_le _ _

/-- What a call hands back that makes a list of texts. -/
def GivesStrs (w : World) (ss : List ByteArray) (e : Ending) (w' : World) : Prop :=
  ∃ A c, e = .returned (.slice A ss.length c) ∧ w'.ownsRow w.heap.size 9 1 (.slice A ss.length c) ss.length (ss.map .string) ∧ Below w.heap.size w w'

set_option maxRecDepth 20000 in
set_option maxHeartbeats 1000000 in
theorem All_any (A : Option Addr) (c : Nat) (l : List Fl) (name : ByteArray) (w : World) (hr : Row w A (flat l)) (hl : l.length ≤ 4398046511104) (hw : Wide l) (hn : name.size ≤ maxLen) :
    Calls Tryd.prog 44 #[.slice A l.length c, .string name] w (GivesStrs w (allV l name)) := by
  obtain ⟨i0, hi0, hz0, hz1, hz2⟩ := info_parts info_string
  go_enter Tryd.func44, Tryd.ntmps44
  go_wp2
  go_loopw [5, 10] (fun v i wr => ∃ k : Nat, k ≤ l.length ∧ i = .int .i64 k ∧ wr.ownsRow w.heap.size 9 1 v (allV (l.take k) name).length ((allV (l.take k) name).map .string) ∧ Below w.heap.size w wr) (fun _ i _ => l.length - (RowKit.intOf i).toNat)
  case atStart => exact ⟨0, by omega, rfl, World.ownsRow_nil _ _ _ _, Below.refl _ _⟩
  case round =>
    obtain ⟨k, hk, rfl, hown, hbw⟩ := hrel
    by_cases hlt : k < l.length
    · obtain ⟨⟨x, y⟩, hxy⟩ := some_of_lt hlt
      obtain ⟨b, off, rfl, hb, h0, h1⟩ := (hr.below hbw).pair hxy
      have hwx := (hw.at_ hxy).1
      have HX := Lib.hid hxy
      clear hxy
      have hlen := allV_length (l.take k) name
      have hlk : (allV (l.take k) name).length ≤ k := Nat.le_trans hlen (List.length_take_le _ _)
      clear hlen
      go_wp2_with fail
      refine (Same_any x name _ hwx hn).mono ?_
      rintro e w1 ⟨rfl, hb1⟩
      have hb1' : Below (wr.heap.size + 1) (wr.alloc (.cells #[.string x, .string y] 24)) w1 := by simpa using hb1
      obtain ⟨⟨hc0, hc1⟩, _, hsz⟩ := box2 hb1'
      have hbw1 : Below w.heap.size w w1 := hbw.trans ((below_box hb1').mono hbw.size)
      have hown1 := own_below (hown.alloc _) hb1
      clear hb1 hb1' h0 h1 hown
      cases hal : alike x name
      · have HS := Lib.hid (allV_take (name := name) HX.out)
        go_wp2
        go_roundw
        case rel => exact ⟨k + 1, by omega, by go_num, by rw [HS.out, if_neg (by rw [hal]; simp)]; exact hown1, hbw1⟩
        case measure => simp [RowKit.intOf]; omega
      · have HS := Lib.hid (allV_take (name := name) HX.out)
        go_wp2_with (at_builtin; refine wpList_append_own _ rfl _ _ 60 rfl w.heap.size 9 i0 (.string ⟨#[]⟩) 1 16 Tryd.underlying60 hi0 hz0 hz1 hz2 rfl (by decide) _ _ _ rfl (hown1.alloc _) ⟨w1.heap.size, 0, none⟩ 1 1 [.string y] rfl rfl (cell_one_new _ _ _) ?c1 ?c2 ?c3 ?c4 ?c5)
        case c1 => exact strs_oneCell [y]
        case c2 => unfold maxLen; omega
        case c3 => omega
        case c4 => simp; have := hbw1.size; omega
        case c5 =>
          intro v' w2 hown2 hg2 _
          go_wp2
          go_roundw
          case rel => exact ⟨k + 1, by omega, by go_num, by rw [HS.out, if_pos hal, List.map_append, List.length_append]; exact hown2, (hbw1.alloc hbw1.size _).grown hg2 (by simp; have := hbw1.size; omega) (own_lt hown1)⟩
          case measure => simp [RowKit.intOf]; omega
    · obtain rfl : k = l.length := by omega
      rw [List.take_length] at hown
      obtain ⟨A', c', rfl⟩ := own_slice hown
      go_wp2
      go_ret
      exact ⟨A', c', rfl, hown, hbw⟩

/-- Find: the first value of a name. -/
def findV (l : List Fl) (name : ByteArray) : ByteArray × Bool := match allV l name with
  | [] => (⟨#[]⟩, false)
  | v :: _ => (v, true)
set_option maxRecDepth 20000 in
theorem Find_any (A : Option Addr) (c : Nat) (l : List Fl) (name : ByteArray) (w : World) (hr : Row w A (flat l)) (hl : l.length ≤ 4398046511104) (hw : Wide l) (hn : name.size ≤ maxLen) :
    Calls Tryd.prog 56 #[.slice A l.length c, .string name] w fun e w' => e = .returned (.tuple #[.string (findV l name).1, .bool (findV l name).2]) ∧ Below w.heap.size w w' := by
  have hlen := Nat.le_trans (allV_length l name) hl
  have hA := All_any A c l name w hr hl hw hn
  cases hV : allV l name with
  | nil =>
    have HF := Lib.hid (show findV l name = (⟨#[]⟩, false) by unfold findV; rw [hV])
    rw [hV] at hA
    clear hV hlen
    go_enter Tryd.func56, Tryd.ntmps56
    go_wp2_with fail
    refine hA.mono ?_
    rintro e w1 ⟨A', c', rfl, _, hb⟩
    go_wp2
    go_ret2
    exact ⟨by rw [HF.out]; rfl, hb⟩
  | cons v vs =>
    have HF := Lib.hid (show findV l name = (v, true) by unfold findV; rw [hV])
    rw [hV] at hA hlen
    simp only [List.length_cons] at hlen
    clear hV
    go_enter Tryd.func56, Tryd.ntmps56
    go_wp2_with fail
    refine hA.mono ?_
    rintro e w1 ⟨A', c', rfl, hown, hb⟩
    obtain ⟨b, off, rfl, _, hc⟩ := (own_row hown).str (k := 0) (x := v) rfl
    clear hown
    have hpos : ((vs.length : Int) + 1 == 0) = false := by simp; omega
    rw [List.length_cons]
    rw [Nat.add_zero] at hc
    go_wp2
    go_ret2
    exact ⟨by rw [HF.out]; rfl, hb⟩

theorem row_new2 (w : World) (x y : ByteArray) (t : TypeId) {n : Nat} (hn : n = w.heap.size) : Row (w.alloc (.cells #[.string x, .string y] t)) (some ⟨n, 0, none⟩) (flat [(x, y)]) := fun _ => by
  subst hn
  refine ⟨_, 0, rfl, by simp, fun j v hv => ?_⟩
  rw [Nat.zero_add, World.cell?_alloc_new]
  simpa [flat] using hv
/-- What the statements' own first look asks. -/
theorem awake_line : parseLine ⟨#[104, 79, 83, 84, 58, 32, 97, 32]⟩ = (⟨#[104, 79, 83, 84]⟩, ⟨#[97]⟩, 0, 0) := by decide +kernel
theorem awake_find : findV [(⟨#[104, 79, 83, 84]⟩, ⟨#[97]⟩)] ⟨#[72, 111, 115, 116]⟩ = (⟨#[97]⟩, true) := by decide +kernel
set_option maxRecDepth 20000 in
theorem awake_any (w : World) (hg : Glob w) :
    Calls Tryd.prog 17 #[] w fun e w' => e = .returned (.bool true) ∧ Below w.heap.size w w' := by
  have hL := ParseLine_any ⟨#[104, 79, 83, 84, 58, 32, 97, 32]⟩ w (by decide) hg
  rw [awake_line] at hL
  go_enter Tryd.func17, Tryd.ntmps17
  go_wp2_with fail
  refine hL.mono ?_
  rintro e w1 ⟨rfl, hb⟩
  unfold plVal
  go_wp2_with fail
  have hf := Find_any (some ⟨w1.heap.size + 1, 0, none⟩) 1 [(⟨#[104, 79, 83, 84]⟩, ⟨#[97]⟩)] ⟨#[72, 111, 115, 116]⟩ _ (row_new2 (w1.alloc (.cells #[.string ⟨#[104, 79, 83, 84]⟩, .string ⟨#[97]⟩] 24)) ⟨#[104, 79, 83, 84]⟩ ⟨#[97]⟩ 24 (by simp)) (by decide) (by
    intro p hp
    simp at hp
    subst hp
    exact ⟨by decide, by decide⟩) (by decide)
  rw [awake_find] at hf
  refine hf.mono ?_
  rintro e w2 ⟨rfl, hb2⟩
  go_wp2
  go_ret
  exact ⟨rfl, hb.trans ((((Below.refl _ _).alloc (Nat.le_refl _) _).alloc (by simp) _).trans (hb2.mono (by simp; omega)) |>.mono hb.size)⟩
end Go.Proofs.YtamagbdkcfmfmaaDoor
