/-
  Groups of hexadecimal digits: the walks of the reference and of the program.
-/
import Derived.Test.YtjlnbjlhlglneaaGreatDoorTgQd
namespace Go.Proofs.YtjlnbjlhlglneaaGreatDoor
open Go.RowKit Go.Shelf Go.Lib

theorem numV_bound16 (l : List UInt8) : l.all (digOk 16) = true → 0 ≤ numV 16 l ∧ numV 16 l < 16 ^ l.length := by
  refine snoc_ind (P := fun l => l.all (digOk 16) = true → 0 ≤ numV 16 l ∧ numV 16 l < 16 ^ l.length) (fun _ => ⟨Int.le_refl _, by decide⟩) (fun l c ih h => ?_) l
  rw [List.all_append] at h
  simp only [List.all_cons, List.all_nil, Bool.and_true, Bool.and_eq_true] at h
  obtain ⟨h1, h2⟩ := ih h.1
  obtain ⟨h3, h4⟩ := digOk_iff.1 h.2
  rw [numV_snoc, List.length_append, List.length_cons, List.length_nil, Nat.zero_add, Int.pow_succ]
  omega
theorem hex_all (g : ByteArray) : allB isHexB g = g.data.toList.all (digOk 16) := by
  unfold allB
  congr 1
  funext b
  rw [Bool.eq_iff_iff, digOk_iff]
  exact hex_iff
theorem hexGroup_num (g : ByteArray) : hexGroup g = (decide ((numR g 65535 16).2 = 0) && decide (g.size ≤ 4)) := by
  unfold hexGroup
  rw [hex_all]
  rw [Bool.eq_iff_iff]
  simp only [Bool.and_eq_true, decide_eq_true_eq]
  constructor
  · rintro ⟨h0, h4, ha⟩
    refine ⟨?_, h4⟩
    obtain ⟨b1, b2⟩ := numV_bound16 _ ha
    have hp : (16 : Int) ^ g.data.toList.length ≤ 65536 := by
      rw [size_eq]
      have key : ∀ n : Nat, n ≤ 4 → (16 : Int) ^ n ≤ 65536 := by
        intro n hn
        have : n = 0 ∨ n = 1 ∨ n = 2 ∨ n = 3 ∨ n = 4 := by omega
        rcases this with rfl | rfl | rfl | rfl | rfl <;> decide
      exact key _ h4
    unfold numR
    rw [if_neg, if_neg (by omega)]
    rintro (h | h)
    · omega
    · rw [ha] at h; cases h
  · rintro ⟨h, h4⟩
    unfold numR at h
    split at h
    · cases h
    · rename_i h1
      refine ⟨?_, h4, ?_⟩
      · rcases Nat.eq_zero_or_pos g.size with h2 | h2
        · exact absurd (.inl h2) h1
        · exact h2
      · cases e : g.data.toList.all (digOk 16)
        · exact absurd (.inr e) h1
        · rfl
/-- How the reading of groups stands: k read. -/
def GrRel (last : Bool) (l : List ByteArray) (k : Nat) (n : Int) : Prop := (GroupsAt l k ∧ n = k) ∨ (k = l.length ∧ n = groupsL last l)
theorem GrRel.start (last : Bool) (l : List ByteArray) : GrRel last l 0 0 := .inl ⟨GroupsAt.zero l, rfl⟩
section
variable {last : Bool} {l : List ByteArray} {k : Nat} {n : Int} {g : ByteArray}
theorem GrRel.at_ (h : GrRel last l k n) (hk : k < l.length) : GroupsAt l k ∧ n = k := by
  rcases h with h | ⟨h, _⟩
  · exact h
  · omega
theorem GrRel.end_ (h : GrRel last l l.length n) : n = groupsL last l := by
  rcases h with ⟨h1, h2⟩ | ⟨_, h⟩
  · rw [h2, h1.all]
  · exact h
theorem GrRel.on (h : GroupsAt l k) (hk : l[k]? = some g) (hg : hexGroup g = true) : GrRel last l (k + 1) ((k : Int) + 1) := .inl ⟨h.succ hk hg, by omega⟩
theorem GrRel.last_ (h : GroupsAt l k) (hk : l[k]? = some g) (hl : k + 1 = l.length) (hg : hexGroup g = false) (hq : quad g = true) : GrRel true l (k + 1) ((k : Int) + 2) := .inr ⟨hl, (GroupsAt.quad h hk hl hg hq).symm⟩
end
theorem groupsR_zero {s : ByteArray} {last : Bool} (h : s.size = 0) : groupsR s last = 0 := by unfold groupsR; rw [if_pos h]
theorem groupsR_row {s : ByteArray} {last : Bool} (h : ¬ s.size = 0) : groupsR s last = groupsL last (splitC s 58) := by unfold groupsR; rw [if_neg h]
set_option maxRecDepth 20000 in
set_option maxHeartbeats 4000000 in
theorem rgroups_any (s : ByteArray) (last : Bool) (w : World) (hs : s.size ≤ 4194304) :
    Calls Tryz.prog 117 #[.string s, .bool last] w fun e w' => e = .returned (.int .i64 (groupsR s last)) ∧ Below w.heap.size w w' := by
  by_cases hz : s.size = 0
  · have he : s.toList.isEmpty = true := by rw [empty_eq]; exact decide_eq_true hz
    have HR := Lib.hid (groupsR_zero (last := last) hz)
    clear hz
    go_enter Tryz.func117, Tryz.ntmps117
    go_wp2
    go_ret
    exact ⟨ret_int HR.out.symm, Below.refl _ _⟩
  · have he : s.toList.isEmpty = false := by rw [empty_eq]; exact decide_eq_false hz
    have HR := Lib.hid (groupsR_row (last := last) hz)
    have HS := Lib.hid (fun w => rsplit_any s 58 w hs)
    have hsz := Lib.hid (fun x (hx : x ∈ splitC s 58) => splitC_size hx)
    have hln := splitC_len s 58
    generalize splitC s 58 = l at *
    clear hz
    go_enter Tryz.func117, Tryz.ntmps117
    go_wp2_with fail
    refine (HS.out _).mono ?_
    rintro e w1 ⟨A, c, rfl, hown, hb1⟩
    have hrow := own_row hown
    clear hown
    go_wp2
    go_loopw [6, 7] (fun v i wr => ∃ (k : Nat) (n : Int), k ≤ l.length ∧ i = .int .i64 k ∧ v = .int .i64 n ∧ 0 ≤ n ∧ n ≤ 4194310 ∧ GrRel last l k n ∧ Below w1.heap.size w1 wr) (fun _ i _ => l.length - (RowKit.intOf i).toNat)
    case atStart => exact ⟨0, 0, by omega, rfl, rfl, by omega, by omega, GrRel.start last l, Below.refl _ _⟩
    case round =>
      obtain ⟨k, n, hk, rfl, rfl, hn0, hn1, hrel, hbr⟩ := hrel
      by_cases hlt : k < l.length
      · obtain ⟨hG, rfl⟩ := hrel.at_ hlt
        obtain ⟨g, hx⟩ := some_of_lt hlt
        obtain ⟨b, off, rfl, hb, h0⟩ := (hrow.below hbr).str hx
        have hgs := Nat.le_trans (hsz.out g (List.mem_of_getElem? hx)) hs
        have HX := Lib.hid (fun w => rHexN_any g 65535 w (by omega) (by omega) (by omega))
        have hnum := hexGroup_num g
        have hq := Lib.hid (fun w => rquad_any g w hgs)
        generalize numR g 65535 16 = r at *
        obtain ⟨v, er⟩ := r
        dsimp only at HX hnum
        cases hh : hexGroup g
        · rw [hh] at hnum
          have hcase : (¬ er = 0) ∨ (er = 0 ∧ ¬ g.size ≤ 4) := by
            by_cases h1 : er = 0
            · right
              refine ⟨h1, fun h2 => ?_⟩
              rw [decide_eq_true h1, decide_eq_true h2] at hnum
              cases hnum
            · exact .inl h1
          clear hnum
          by_cases hql : last = true ∧ k + 1 = l.length ∧ quad g = true
          · obtain ⟨rfl, hl, hqt⟩ := hql
            have HN := Lib.hid (GrRel.last_ hG hx hl hh hqt)
            rw [hqt] at hq
            have hil : ((k : Int) == (l.length : Int) - 1) = true := beq_iff_eq.2 (by omega)
            clear hG hx hh hqt hrel
            rcases hcase with h1 | ⟨h1, h2⟩
            all_goals
              first
              | have hee : (er == 0) = false := by simpa using h1
                clear h1
                go_wp2_with fail
                refine (HX.out _).mono ?_
                rintro e w2 ⟨rfl, rfl⟩
                go_wp2_with fail
                refine (hq.out _).mono ?_
                rintro e w3 ⟨rfl, b3⟩
                go_wp2
                go_roundw
                case rel => exact ⟨k + 1, _, by omega, by go_num, rfl, by omega, by omega, HN.out, hbr.trans (b3.mono hbr.size)⟩
                case measure => simp [RowKit.intOf]; omega
              | have hee : (er == 0) = true := by simpa using h1
                clear h1
                go_wp2_with fail
                refine (HX.out _).mono ?_
                rintro e w2 ⟨rfl, rfl⟩
                go_wp2_with fail
                refine (hq.out _).mono ?_
                rintro e w3 ⟨rfl, b3⟩
                go_wp2
                go_roundw
                case rel => exact ⟨k + 1, _, by omega, by go_num, rfl, by omega, by omega, HN.out, hbr.trans (b3.mono hbr.size)⟩
                case measure => simp [RowKit.intOf]; omega
          · have HB := Lib.hid (HR.out.trans (hG.bad hx hh (by
              cases hl : last
              · exact .inl rfl
              · by_cases h1 : k + 1 < l.length
                · exact .inr (.inl h1)
                · right; right
                  cases hqq : quad g
                  · rfl
                  · exact absurd ⟨hl, by omega, hqq⟩ hql)))
            have hc3 : last = false ∨ (last = true ∧ k + 1 < l.length) ∨ (last = true ∧ k + 1 = l.length ∧ quad g = false) := by
              cases hl : last
              · exact .inl rfl
              · by_cases h1 : k + 1 < l.length
                · exact .inr (.inl ⟨rfl, h1⟩)
                · right; right
                  refine ⟨rfl, by omega, ?_⟩
                  cases hqq : quad g
                  · rfl
                  · exact absurd ⟨hl, by omega, hqq⟩ hql
            clear hql hG hx hh hrel
            rcases hc3 with rfl | ⟨rfl, hl⟩ | ⟨rfl, hl, hqf⟩
            · clear hq
              rcases hcase with h1 | ⟨h1, h2⟩
              all_goals
                first
                | have hee : (er == 0) = false := by simpa using h1
                  clear h1
                  go_wp2_with fail
                  refine (HX.out _).mono ?_
                  rintro e w2 ⟨rfl, rfl⟩
                  go_wp2
                  go_ret
                  exact ⟨ret_int HB.out.symm, hb1.trans (hbr.mono hb1.size)⟩
                | have hee : (er == 0) = true := by simpa using h1
                  clear h1
                  go_wp2_with fail
                  refine (HX.out _).mono ?_
                  rintro e w2 ⟨rfl, rfl⟩
                  go_wp2
                  go_ret
                  exact ⟨ret_int HB.out.symm, hb1.trans (hbr.mono hb1.size)⟩

            · have hil : ((k : Int) == (l.length : Int) - 1) = false := beq_eq_false_iff_ne.2 (by omega)
              clear hq
              rcases hcase with h1 | ⟨h1, h2⟩
              all_goals
                first
                | have hee : (er == 0) = false := by simpa using h1
                  clear h1
                  go_wp2_with fail
                  refine (HX.out _).mono ?_
                  rintro e w2 ⟨rfl, rfl⟩
                  go_wp2
                  go_ret
                  exact ⟨ret_int HB.out.symm, hb1.trans (hbr.mono hb1.size)⟩
                | have hee : (er == 0) = true := by simpa using h1
                  clear h1
                  go_wp2_with fail
                  refine (HX.out _).mono ?_
                  rintro e w2 ⟨rfl, rfl⟩
                  go_wp2
                  go_ret
                  exact ⟨ret_int HB.out.symm, hb1.trans (hbr.mono hb1.size)⟩

            · have hil : ((k : Int) == (l.length : Int) - 1) = true := beq_iff_eq.2 (by omega)
              rw [hqf] at hq
              clear hqf
              rcases hcase with h1 | ⟨h1, h2⟩
              all_goals
                first
                | have hee : (er == 0) = false := by simpa using h1
                  clear h1
                  go_wp2_with fail
                  refine (HX.out _).mono ?_
                  rintro e w2 ⟨rfl, rfl⟩
                  go_wp2_with fail
                  refine (hq.out _).mono ?_
                  rintro e w3 ⟨rfl, b3⟩
                  go_wp2
                  go_ret
                  exact ⟨ret_int HB.out.symm, hb1.trans ((hbr.trans (b3.mono hbr.size)).mono hb1.size)⟩
                | have hee : (er == 0) = true := by simpa using h1
                  clear h1
                  go_wp2_with fail
                  refine (HX.out _).mono ?_
                  rintro e w2 ⟨rfl, rfl⟩
                  go_wp2_with fail
                  refine (hq.out _).mono ?_
                  rintro e w3 ⟨rfl, b3⟩
                  go_wp2
                  go_ret
                  exact ⟨ret_int HB.out.symm, hb1.trans ((hbr.trans (b3.mono hbr.size)).mono hb1.size)⟩
        · rw [hh] at hnum
          simp only [Bool.true_eq, Bool.and_eq_true, decide_eq_true_eq] at hnum
          obtain ⟨he0, hz4⟩ := hnum
          have hee : (er == 0) = true := by simpa using he0
          have HN := Lib.hid (GrRel.on (last := last) hG hx hh)
          clear hG hx hh he0 hrel hq
          go_wp2_with fail
          refine (HX.out _).mono ?_
          rintro e w2 ⟨rfl, rfl⟩
          go_wp2
          go_roundw
          case rel => exact ⟨k + 1, _, by omega, by go_num, rfl, by omega, by omega, HN.out, hbr⟩
          case measure => simp [RowKit.intOf]; omega
      · obtain rfl : k = l.length := by omega
        have HB := Lib.hid (HR.out.trans hrel.end_.symm)
        clear hrel
        go_wp2
        go_ret
        exact ⟨ret_int HB.out.symm, hb1.trans (hbr.mono hb1.size)⟩
end Go.Proofs.YtjlnbjlhlglneaaGreatDoor
