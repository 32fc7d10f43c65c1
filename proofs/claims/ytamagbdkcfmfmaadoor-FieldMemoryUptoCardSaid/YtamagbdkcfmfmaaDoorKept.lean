/-
  kept, Remove, wrong, Clone, Add: the walks.
-/
import Derived.Test.YtamagbdkcfmfmaaDoorFl
import Derived.Test.YtamagbdkcfmfmaaDoorCanonW
import Derived.Test.YtamagbdkcfmfmaaDoorAll
namespace Go.Proofs.YtamagbdkcfmfmaaDoor
open Go.RowKit Go.Shelf Go.Lib

theorem filter_take {l : List Fl} {k : Nat} {p : Fl} (P : Fl → Bool) (h : l[k]? = some p) : (l.take (k + 1)).filter P = if P p = true then (l.take k).filter P ++ [p] else (l.take k).filter P := by
  rw [take_snoc h, List.filter_append]
  cases e : P p <;> simp [e]

set_option maxRecDepth 20000 in
set_option maxHeartbeats 1000000 in
/-- kept by a closure that changes nothing. -/
theorem kept_any (A : Option Addr) (c : Nat) (l : List Fl) (F : FuncId) (cap : Value) (P : Fl → Bool) (w : World) (hr : Row w A (flat l)) (hl : l.length ≤ 4398046511104)
    (hcf : ∀ args w, (callFunc F args).run Tryd.prog w = .ok (.enter F args) w)
    (hF : ∀ W, Below w.heap.size w W → ∀ x y, (x, y) ∈ l → Calls Tryd.prog F #[.agg #[.string x, .string y], cap] W fun e W' => e = .returned (.bool (P (x, y))) ∧ Below W.heap.size W W') :
    Calls Tryd.prog 87 #[.slice A l.length c, .func (.func F) #[] #[cap]] w (GivesFl 24 w (l.filter P)) := by
  obtain ⟨i0, hi0, hz0, hz1, hz2⟩ := info_parts info_field
  have HF := Lib.hid hF
  clear hF
  go_enter Tryd.func87, Tryd.ntmps87
  go_wp2
  go_loopw [5, 10] (fun v i wr => ∃ k : Nat, k ≤ l.length ∧ i = .int .i64 k ∧ wr.ownsRow w.heap.size 24 2 v ((l.take k).filter P).length (flat ((l.take k).filter P)) ∧ Below w.heap.size w wr) (fun _ i _ => l.length - (RowKit.intOf i).toNat)
  case atStart => exact ⟨0, by omega, rfl, World.ownsRow_nil _ _ _ _, Below.refl _ _⟩
  case round =>
    obtain ⟨k, hk, rfl, hown, hbw⟩ := hrel
    by_cases hlt : k < l.length
    · obtain ⟨⟨x, y⟩, hxy⟩ := some_of_lt hlt
      obtain ⟨b, off, rfl, hb, h0, h1⟩ := (hr.below hbw).pair hxy
      have HC := Lib.hid (HF.out (wr.alloc (.cells #[.string x, .string y] 24)) (hbw.alloc hbw.size _) x y (List.mem_of_getElem? hxy))
      have HS := Lib.hid (filter_take P hxy)
      have hlen : ((l.take k).filter P).length ≤ k := Nat.le_trans (List.length_filter_le _ _) (List.length_take_le _ _)
      clear hxy
      go_wp2_with fail
      refine HC.out.mono ?_
      rintro e w1 ⟨rfl, hb1⟩
      have hb1' : Below (wr.heap.size + 1) (wr.alloc (.cells #[.string x, .string y] 24)) w1 := by simpa using hb1
      obtain ⟨⟨hc0, hc1⟩, _, hsz⟩ := box2 hb1'
      have hbw1 : Below w.heap.size w w1 := hbw.trans ((below_box hb1').mono hbw.size)
      have hown1 := own_below (hown.alloc _) hb1
      clear hb1 hb1' h0 h1 hown HC
      cases hp : P (x, y)
      · go_wp2
        go_roundw
        case rel => exact ⟨k + 1, by omega, by go_num, by rw [HS.out, if_neg (by rw [hp]; simp)]; exact hown1, hbw1⟩
        case measure => simp [RowKit.intOf]; omega
      · go_wp2_with (at_builtin; refine wpList_append_own _ rfl _ _ 33 rfl w.heap.size 24 i0 (.agg #[.string ⟨#[]⟩, .string ⟨#[]⟩]) 2 32 Tryd.underlying33 hi0 hz0 hz1 hz2 rfl (by decide) _ _ _ rfl (hown1.alloc _) ⟨w1.heap.size, 0, none⟩ 1 1 [.string x, .string y] rfl rfl ?c0 ?c1 ?c2 ?c3 ?c4 ?c5)
        case c0 => exact cells_new2 _ x y _ rfl
        case c1 => exact flat_oneCell [(x, y)]
        case c2 => unfold maxLen; omega
        case c3 => omega
        case c4 => simp; have := hbw1.size; omega
        case c5 =>
          intro v' w2 hown2 hg2 _
          go_wp2
          go_roundw
          case rel => exact ⟨k + 1, by omega, by go_num, by rw [HS.out, if_pos hp, flat_append, List.length_append]; exact hown2, (hbw1.alloc hbw1.size _).grown hg2 (by simp; have := hbw1.size; omega) (own_lt hown1)⟩
          case measure => simp [RowKit.intOf]; omega
    · obtain rfl : k = l.length := by omega
      rw [List.take_length] at hown
      obtain ⟨A', c', rfl⟩ := own_slice hown
      go_wp2
      go_ret
      exact ⟨A', c', rfl, hown, hbw⟩

def removeL (l : List Fl) (name : ByteArray) : List Fl := l.filter fun p => !alike p.1 name
set_option maxRecDepth 20000 in
theorem Remove1_any (x y name : ByteArray) (nb : Nat) (w : World) (hx : x.size ≤ maxLen) (hn : name.size ≤ maxLen) (hc : w.cell? ⟨nb, 0, none⟩ = some (.string name)) (hlt : nb < w.heap.size) :
    Calls Tryd.prog 90 #[.agg #[.string x, .string y], .pointer (some ⟨nb, 0, none⟩)] w fun e w' => e = .returned (.bool (!alike x name)) ∧ Below w.heap.size w w' := by
  go_enter Tryd.func90, Tryd.ntmps90
  go_wp2_with fail
  refine (Same_any x name _ hx hn).mono ?_
  rintro e w1 ⟨rfl, hb⟩
  have hbw := below_box (by simpa using hb)
  go_wp2
  go_ret
  exact ⟨rfl, hbw⟩
set_option maxRecDepth 20000 in
theorem Remove_any (A : Option Addr) (c : Nat) (l : List Fl) (name : ByteArray) (w : World) (hr : Row w A (flat l)) (hl : l.length ≤ 4398046511104) (hw : Wide l) (hn : name.size ≤ maxLen) :
    Calls Tryd.prog 38 #[.slice A l.length c, .string name] w (GivesFl 24 w (removeL l name)) := by
  have hmf : ∀ (fn : Fn) (first cap : Array Value) (w : World), (Instr.makeFunc fn first cap).run Tryd.prog w = .ok (.func fn first cap) w := fun _ _ _ _ => rfl
  have hK := kept_any A c l 90 (.pointer (some ⟨w.heap.size, 0, none⟩)) (fun p => !alike p.1 name) (w.alloc (.cells #[.string name] 9)) (hr.alloc _) hl (fun args w => Tryd.call90 args w) (fun W hW x y hxy => Remove1_any x y name w.heap.size W ((hw _ hxy).1) hn (by
    rw [hW.cell (p := ⟨w.heap.size, 0, none⟩) (by simp)]
    simp) (by have := hW.size; simp at this; omega))
  have HK := Lib.hid hK
  clear hK
  go_enter Tryd.func38, Tryd.ntmps38
  go_wp2_with fail
  refine HK.out.mono ?_
  rintro e w1 ⟨A1, c1, rfl, hown, hb⟩
  have hbw := below_box (by simpa using hb)
  go_wp2
  go_ret
  exact ⟨A1, c1, rfl, hown.mono (by simp), hbw⟩

/-! wrong, Clone, Add -/
def wrongC (name value : ByteArray) (many : Int) : Int := if isName name = false then 60 else if isValue value = false then 61 else if 100 < many then 65 else 0
set_option maxRecDepth 20000 in
theorem wrong_any (name value : ByteArray) (many : Int) (w : World) (hn : name.size ≤ maxLen) (hv : value.size ≤ maxLen) (hg : Glob w) :
    Calls Tryd.prog 85 #[.string name, .string value, .int .i64 many] w fun e w' => e = .returned (.int .i64 (wrongC name value many)) ∧ Below w.heap.size w w' := by
  have HN := Lib.hid (IsName_any name w hn hg)
  have HV := Lib.hid (IsValue_any value w hv)
  cases h : isName name
  · have HC := Lib.hid (show wrongC name value many = 60 by unfold wrongC; rw [if_pos h])
    go_enter Tryd.func85, Tryd.ntmps85
    go_wp2_with fail
    refine HN.out.mono ?_
    rw [h]
    rintro e w' ⟨rfl, rfl⟩
    go_wp2
    go_ret
    exact ⟨ret_int HC.out.symm, Below.refl _ _⟩
  · cases h1 : isValue value
    · have HC := Lib.hid (show wrongC name value many = 61 by unfold wrongC; rw [if_neg (by rw [h]; simp), if_pos h1])
      go_enter Tryd.func85, Tryd.ntmps85
      go_wp2_with fail
      refine HN.out.mono ?_
      rw [h]
      rintro e w' ⟨rfl, rfl⟩
      go_wp2_with fail
      refine HV.out.mono ?_
      rw [h1]
      rintro e w1 ⟨rfl, hb⟩
      go_wp2
      go_ret
      exact ⟨ret_int HC.out.symm, hb⟩
    · rcases Int.lt_or_le 100 many with h2 | h2
      · have HC := Lib.hid (show wrongC name value many = 65 by unfold wrongC; rw [if_neg (by rw [h]; simp), if_neg (by rw [h1]; simp), if_pos h2])
        go_enter Tryd.func85, Tryd.ntmps85
        go_wp2_with fail
        refine HN.out.mono ?_
        rw [h]
        rintro e w' ⟨rfl, rfl⟩
        go_wp2_with fail
        refine HV.out.mono ?_
        rw [h1]
        rintro e w1 ⟨rfl, hb⟩
        go_wp2
        go_ret
        exact ⟨ret_int HC.out.symm, hb⟩
      · have HC := Lib.hid (show wrongC name value many = 0 by unfold wrongC; rw [if_neg (by rw [h]; simp), if_neg (by rw [h1]; simp), if_neg (by omega)])
        go_enter Tryd.func85, Tryd.ntmps85
        go_wp2_with fail
        refine HN.out.mono ?_
        rw [h]
        rintro e w' ⟨rfl, rfl⟩
        go_wp2_with fail
        refine HV.out.mono ?_
        rw [h1]
        rintro e w1 ⟨rfl, hb⟩
        go_wp2
        go_ret
        exact ⟨ret_int HC.out.symm, hb⟩

set_option maxRecDepth 20000 in
theorem Clone_any (A : Option Addr) (c : Nat) (l : List Fl) (w : World) (hr : Row w A (flat l)) (hl : l.length ≤ 4398046511104) :
    Calls Tryd.prog 86 #[.slice A l.length c] w (GivesFl 24 w l) := by
  obtain ⟨i0, hi0, hz0, hz1, hz2⟩ := info_parts info_field
  have heq := fun w => Lib.run_eql_slice_nil (P := Tryd.prog) w 33 24 A l.length c 0 0 Tryd.underlying33
  cases A with
  | none =>
    have hnil : l = [] := by
      cases l with
      | nil => rfl
      | cons p l =>
        obtain ⟨b, off, h, _⟩ := hr (by rw [flat_length]; simp)
        cases h
    subst hnil
    simp only [List.length_nil] at heq
    go_enter Tryd.func86, Tryd.ntmps86
    go_wp2
    go_ret
    exact ⟨none, 0, rfl, World.ownsRow_nil _ _ _ _, Below.refl _ _⟩
  | some a =>
    go_enter Tryd.func86, Tryd.ntmps86
    go_wp2_with (at_builtin; refine wpList_append_any _ rfl (.tmp 5) (.tmp 6) 33 rfl w.heap.size 24 i0 (.agg #[.string ⟨#[]⟩, .string ⟨#[]⟩]) 2 32 Tryd.underlying33 hi0 hz0 hz1 hz2 rfl (by decide) _ 0 [] rfl (own_none w) _ (some a) l.length c (flat l) rfl (reads_of_row (hr.alloc _) (flat_length l) (by decide)) ?c1 ?c2 ?c3 ?c4 ?c5)
    case c1 => exact flat_oneCell l
    case c2 => unfold maxLen; omega
    case c3 => omega
    case c4 => simp
    case c5 =>
      intro v' w' hown hg hat
      have hb : Below w.heap.size w w' := ((Below.refl _ w).alloc (Nat.le_refl _) _).grown hg (by simp) (fun k hk => by simp [Value.ownBlock] at hk; omega)
      have hown' : w'.ownsRow w.heap.size 24 2 v' l.length (flat l) := by simpa using hown
      clear hg hat hown
      obtain ⟨A', c', rfl⟩ := own_slice hown'
      go_wp2
      go_ret
      exact ⟨A', c', rfl, hown', hb⟩

/-- What Add and Set hand back: fields and an error. -/
def GivesFlE (T : TypeId) (w : World) (r : List Fl × Int) (e : Ending) (w' : World) : Prop :=
  ∃ A c, e = .returned (.tuple #[.slice A r.1.length c, .int .i64 r.2]) ∧ w'.ownsRow w.heap.size T 2 (.slice A r.1.length c) r.1.length (flat r.1) ∧ Below w.heap.size w w'
theorem givesE_none {T : TypeId} {w w' : World} {r : List Fl × Int} {e : Int} (h : r = ([], e)) (hb : Below w.heap.size w w') : GivesFlE T w r (.returned (.tuple #[.slice none 0 0, .int .i64 e])) w' := by
  subst h
  exact ⟨none, 0, rfl, World.ownsRow_nil _ _ _ _, hb⟩
def addL (l : List Fl) (name value : ByteArray) : List Fl × Int := if wrongC name value (l.length + 1) = 0 then (l ++ [(name, value)], 0) else ([], wrongC name value (l.length + 1))
set_option maxRecDepth 20000 in
set_option maxHeartbeats 1000000 in
theorem Add_any (A : Option Addr) (c : Nat) (l : List Fl) (name value : ByteArray) (w : World) (hr : Row w A (flat l)) (hl : l.length < 4398046511104) (hn : name.size ≤ maxLen) (hv : value.size ≤ maxLen) (hg : Glob w) :
    Calls Tryd.prog 33 #[.slice A l.length c, .string name, .string value] w (GivesFlE 24 w (addL l name value)) := by
  obtain ⟨i0, hi0, hz0, hz1, hz2⟩ := info_parts info_field
  have HW := Lib.hid (wrong_any name value ((l.length : Int) + 1) w hn hv hg)
  have hA : addL l name value = if wrongC name value ((l.length : Int) + 1) = 0 then (l ++ [(name, value)], 0) else ([], wrongC name value ((l.length : Int) + 1)) := rfl
  generalize wrongC name value ((l.length : Int) + 1) = ec at HW hA
  by_cases hec : ec = 0
  · subst hec
    rw [if_pos rfl] at hA
    have HA := Lib.hid hA
    clear hA
    go_enter Tryd.func33, Tryd.ntmps33
    go_wp2_with fail
    refine HW.out.mono ?_
    rintro e w1 ⟨rfl, hb1⟩
    go_wp2_with fail
    refine (Clone_any A c l w1 (hr.below hb1) (by omega)).mono ?_
    rintro e w2 ⟨A2, c2, rfl, hown, hb2⟩
    have hbw := hb1.trans (hb2.mono hb1.size)
    have hown' := hown.mono hb1.size
    clear hb2 hown
    go_wp2_with (at_builtin; refine wpList_append_own _ rfl _ _ 33 rfl w.heap.size 24 i0 (.agg #[.string ⟨#[]⟩, .string ⟨#[]⟩]) 2 32 Tryd.underlying33 hi0 hz0 hz1 hz2 rfl (by decide) _ _ _ rfl (hown'.alloc _) ⟨w2.heap.size, 0, none⟩ 1 1 [.string name, .string value] rfl rfl ?c0 ?c1 ?c2 ?c3 ?c4 ?c5)
    case c0 => exact cells_new2 _ name value _ rfl
    case c1 => exact flat_oneCell [(name, value)]
    case c2 => unfold maxLen; omega
    case c3 => omega
    case c4 => simp; have := hbw.size; omega
    case c5 =>
      intro v' w3 hown3 hg3 _
      have hb3 : Below w.heap.size w w3 := (hbw.alloc hbw.size _).grown hg3 (by simp; have := hbw.size; omega) (own_lt hown')
      clear hg3 hown'
      obtain ⟨A3, c3, rfl⟩ := own_slice hown3
      have e : flat l ++ [Value.string name, Value.string value] = flat (l ++ [(name, value)]) := (flat_append l [(name, value)]).symm
      rw [e] at hown3
      go_wp2
      go_ret2
      refine ⟨A3, c3, ?_, ?_, hb3⟩
      · rw [HA.out]; simp only [List.length_append, List.length_cons, List.length_nil]; rfl
      · rw [HA.out]; simp only [List.length_append, List.length_cons, List.length_nil]; exact hown3
  · rw [if_neg hec] at hA
    have HA := Lib.hid hA
    have hne : (ec != 0) = true := by simpa using hec
    clear hA hec
    go_enter Tryd.func33, Tryd.ntmps33
    go_wp2_with fail
    refine HW.out.mono ?_
    rintro e w1 ⟨rfl, hb1⟩
    go_wp2
    go_ret2
    exact givesE_none HA.out hb1
end Go.Proofs.YtamagbdkcfmfmaaDoor
