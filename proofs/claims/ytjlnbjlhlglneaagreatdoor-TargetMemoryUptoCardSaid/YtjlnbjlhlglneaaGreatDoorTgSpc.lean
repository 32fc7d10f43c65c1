/-
  Plus signs read as spaces: plain words.
-/
import Derived.Test.YtjlnbjlhlglneaaGreatDoorTgN
import Derived.Lib.ReplaceLaws
namespace Go.Proofs.YtjlnbjlhlglneaaGreatDoor

theorem spaceB_43 : spaceB 43 = 32 := rfl
theorem spaceB_no {b : UInt8} (h : (b.toNat : Int) ≠ 43) : spaceB b = b := if_neg h
theorem spaces_none {s : ByteArray} (h : ∀ j, j < s.size → bt s j ≠ 43) : s.data.toList.map spaceB = s.data.toList := by
  refine (List.map_congr_left fun b hb => ?_).trans (List.map_id _)
  obtain ⟨j, hj, rfl⟩ := List.getElem_of_mem hb
  have h1 := h j (by rw [← size_eq]; exact hj)
  unfold bt at h1
  rw [List.getD_eq_getElem?_getD, List.getElem?_eq_getElem hj] at h1
  exact spaceB_no h1
theorem rep_plus : ∀ (n : Nat) (s : ByteArray), s.size ≤ n → Lib.replaceK [43] [32] (Lib.countB s ⟨#[43]⟩) s.data.toList = s.data.toList.map spaceB
  | n, s, hn => by
    have hx := indexB_one s 43
    rcases findB_cases s ((43 : UInt8).toNat : Int) with ⟨h1, _, hno⟩ | ⟨k, hk, h1, _, hb, hno⟩
    · rw [h1] at hx
      rw [Lib.countB_miss s _ hx, spaces_none hno]
      rfl
    · rw [h1] at hx
      match n, hn with
      | 0, hn => omega
      | n + 1, hn =>
        have hz := ext_size s (a := k + 1) (b := s.size) (by omega) (Nat.le_refl _)
        have ih := rep_plus n (s.extract (k + 1) s.size) (by omega)
        have hc : Lib.countB s ⟨#[43]⟩ = Lib.countB (s.extract (k + 1) s.size) ⟨#[43]⟩ + 1 := by rw [Lib.countB_hit s ⟨#[43]⟩ k (by show 1 ≤ 1; omega) hx, Nat.add_comm]; rfl
        rw [hc, Lib.replaceK_hit [43] [32] _ _ k hx]
        show s.data.toList.take k ++ [32] ++ Lib.replaceK [43] [32] _ (s.data.toList.drop (k + 1)) = _
        rw [ext_all] at ih
        rw [ih]
        have hkl : k < s.data.toList.length := by rw [size_eq]; exact hk
        have e : s.data.toList = s.data.toList.take k ++ (s.data.toList[k] :: s.data.toList.drop (k + 1)) := by
          rw [← List.drop_eq_getElem_cons hkl, List.take_append_drop]
        conv => rhs; rw [e]
        rw [List.map_append, List.map_cons]
        have h43 : s.data.toList[k] = 43 := by
          apply UInt8.toNat_inj.1
          unfold bt at hb
          rw [List.getD_eq_getElem?_getD, List.getElem?_eq_getElem hkl] at hb
          exact Int.ofNat.inj hb
        rw [h43, spaceB_43]
        have ht : (s.data.toList.take k).map spaceB = s.data.toList.take k := by
          have h2 := ext_size s (a := 0) (b := k) (by omega) (by omega)
          have := spaces_none (s := s.extract 0 k) (fun j hj => by
            have := ext_bt s (a := 0) (b := k) (j := j) (by omega)
            rw [Nat.zero_add] at this
            rw [this]
            exact hno j (by omega))
          rw [Lib.extract_data, List.drop_zero, Nat.sub_zero] at this
          exact this
        rw [ht]
        simp
/-- A text with each plus sign as a space. -/
def spaceT (s : ByteArray) : ByteArray := ⟨(s.data.toList.map spaceB).toArray⟩
theorem spaceT_size (s : ByteArray) : (spaceT s).size = s.size := by
  rw [← size_eq, ← size_eq]
  show (s.data.toList.map spaceB).length = _
  rw [List.length_map]
theorem spacedT_eq (s : ByteArray) : spacedT s = (decR (spaceT s)).1 := rfl
theorem replace_plus (s : ByteArray) : (⟨(Lib.replaceAll s.data.toList [43] [32]).toArray⟩ : ByteArray) = spaceT s := by
  unfold spaceT
  rw [← rep_plus s.size s (Nat.le_refl _)]
  unfold Lib.replaceAll Lib.replace Lib.replaceNum
  rw [if_neg (by decide), if_pos (.inl (by decide))]
theorem count_plus (s : ByteArray) : Lib.countB s ⟨#[43]⟩ ≤ s.size := Lib.countB_le ⟨#[43]⟩ (by show 1 ≤ 1; omega) s.size s (Nat.le_refl _)
end Go.Proofs.YtjlnbjlhlglneaaGreatDoor
