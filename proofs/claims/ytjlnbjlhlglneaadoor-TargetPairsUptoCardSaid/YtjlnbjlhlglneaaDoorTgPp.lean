/-
  Plain laws: the path of segments, and its segments again.
-/
import Derived.Test.YtjlnbjlhlglneaaDoorTgPl
namespace Go.Proofs.YtjlnbjlhlglneaaDoor

theorem enc_free (s : ByteArray) : Free (enc s) := fun j hj e => by
  have h := allB_at (enc_signs s) j hj
  rw [e] at h
  exact absurd h (by decide +kernel)
theorem enc_PL (s : ByteArray) : PL (enc s).data.toList := by
  show PL (encL s.data.toList)
  induction s.data.toList with
  | nil => exact .nil
  | cons b l ih => exact (encB_PL b).append ih
theorem enc_sum (l : List ByteArray) : sumS (l.map enc) ≤ 3 * sumS l := by
  induction l with
  | nil => exact Nat.zero_le _
  | cons x l ih =>
    rw [List.map_cons, sumS_cons, sumS_cons]
    have := enc_size x
    omega
theorem pathR_size (l : List ByteArray) : (pathR l).size ≤ 3 * sumS l + l.length + 1 := by
  unfold pathR pathOf
  split
  · show 1 ≤ _
    omega
  · rw [← size_eq]
    show (slashAll (l.map enc)).length ≤ _
    rw [slashAll_len, List.length_map]
    have := enc_sum l
    omega
theorem seg_path (l : List ByteArray) : segR (pathR l) = (if l = [] then [⟨#[]⟩] else l, 0) := by
  by_cases h : l = []
  · rw [if_pos h, h]
    have hn : ∀ x ∈ [(⟨#[]⟩ : ByteArray)], x = ⟨#[]⟩ := fun x hx => List.mem_singleton.1 hx
    obtain ⟨h1, h2, _⟩ := norm_slash (t := pathR []) (l := [⟨#[]⟩]) (by simp) (fun x hx => by rw [hn x hx]; exact .nil) (fun x hx => by rw [hn x hx]; exact right_nil.free) rfl
    unfold segR
    rw [if_pos h1, h2]
    rfl
  · rw [if_neg h]
    have hm : l.map enc ≠ [] := by simpa using h
    obtain ⟨h1, h2, _⟩ := norm_slash (t := pathR l) (l := l.map enc) hm (fun x hx => by
      obtain ⟨y, _, rfl⟩ := List.mem_map.1 hx
      exact enc_PL y) (fun x hx => by
      obtain ⟨y, _, rfl⟩ := List.mem_map.1 hx
      exact enc_free y) (by unfold pathR; exact pathOf_data hm)
    unfold segR
    rw [if_pos h1, h2, List.map_map]
    have e : (fun x => (decR x).1) ∘ enc = id := by
      funext x
      show (decR (enc x)).1 = x
      rw [decR_enc]
    rw [e, List.map_id]
theorem map_snoc {l : List ByteArray} {k : Nat} {x : ByteArray} (h : l[k]? = some x) : (l.take (k + 1)).map enc = (l.take k).map enc ++ [enc x] := by rw [show l.take (k + 1) = l.take k ++ [x] by obtain ⟨hk, rfl⟩ := List.getElem?_eq_some_iff.1 h; exact List.take_succ_eq_append_getElem hk]; simp
theorem slash_enc {l : List ByteArray} {k : Nat} {x : ByteArray} (h : l[k]? = some x) : slashAll ((l.take (k + 1)).map enc) = slashAll ((l.take k).map enc) ++ (47 :: (enc x).data.toList) := by rw [map_snoc h]; simp [slashAll]
end Go.Proofs.YtjlnbjlhlglneaaDoor
