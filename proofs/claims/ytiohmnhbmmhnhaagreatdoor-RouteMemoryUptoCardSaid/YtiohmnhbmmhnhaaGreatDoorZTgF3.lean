/-
 TgF3, without what this claim does not reach.
-/
import Derived.Test.YtiohmnhbmmhnhaaGreatDoorZTgN
import Derived.Test.YtiohmnhbmmhnhaaGreatDoorZTgSp
import Derived.Deep.QuietTactic
import Derived.BigQuiet
import Derived.WalkSpells
namespace Go.Proofs.YtiohmnhbmmhnhaaGreatDoor
open Go.RowKit Go.Shelf Go.Lib
def flat3 (l : List Pr) : List Value := l.flatMap fun p => [.string p.1, .string p.2.1, .bool p.2.2]
theorem flat3_length (l : List Pr) : (flat3 l).length = l.length * 3 := by
 induction l with
 | nil => rfl
 | cons p l ih =>
  show (flat3 l).length + 3 = _
  rw [ih, List.length_cons]
  omega
theorem flat3_append (l m : List Pr) : flat3 (l ++ m) = flat3 l ++ flat3 m := by simp [flat3]
theorem flat3_get {l : List Pr} {k : Nat} {x y : ByteArray} {b : Bool} (h : l[k]? = some (x, y, b)) : (flat3 l)[k * 3]? = some (.string x) ∧ (flat3 l)[k * 3 + 1]? = some (.string y) ∧ (flat3 l)[k * 3 + 2]? = some (.bool b) := by
 induction l generalizing k with
 | nil => simp at h
 | cons p l ih =>
  cases k with
  | zero =>
   simp at h
   subst h
   exact ⟨rfl, rfl, rfl⟩
  | succ k =>
   have := ih (k := k) (by simpa using h)
   have e : flat3 (p :: l) = .string p.1 :: .string p.2.1 :: .bool p.2.2 :: flat3 l := rfl
   rw [e, show (k + 1) * 3 = k * 3 + 1 + 1 + 1 from by omega, show k * 3 + 1 + 1 + 1 + 1 = (k * 3 + 1) + 1 + 1 + 1 from rfl, show k * 3 + 1 + 1 + 1 + 2 = (k * 3 + 2) + 1 + 1 + 1 from rfl]
   simpa using this
theorem flat3_oneCell (l : List Pr) : ∀ u ∈ flat3 l, u.oneCell' = true := by
 intro u hu
 simp only [flat3, List.mem_flatMap] at hu
 obtain ⟨p, _, hp⟩ := hu
 simp at hp
 rcases hp with rfl | rfl | rfl <;> rfl
theorem Row.trip {w : World} {A : Option Addr} {l : List Pr} {k : Nat} {x y : ByteArray} {c : Bool} (h : Row w A (flat3 l)) (hk : l[k]? = some (x, y, c)) :
  ∃ b off, A = some ⟨b, off, none⟩ ∧ b < w.heap.size ∧ w.cell? ⟨b, off + k * 3, none⟩ = some (.string x) ∧ w.cell? ⟨b, off + k * 3 + 1, none⟩ = some (.string y) ∧ w.cell? ⟨b, off + k * 3 + 2, none⟩ = some (.bool c) := by
 obtain ⟨h0, h1, h2⟩ := flat3_get hk
 obtain ⟨b, off, e, hb, hc⟩ := h.at_ h0
 exact ⟨b, off, e, hb, hc _ _ h0, by rw [Nat.add_assoc]; exact hc _ _ h1, by rw [Nat.add_assoc]; exact hc _ _ h2⟩
def Apart (v u : Value) : Prop := ∀ k, v.ownBlock = some k → u.ownBlock ≠ some k
theorem Apart.symm {v u : Value} (h : Apart v u) : Apart u v := fun k hk e => h k e hk
theorem Apart.grow {v v' u : Value} {n : Nat} (ha : Apart v u) (hat : v'.ownBlock = v.ownBlock ∨ v'.ownBlock = some n) (hu : ∀ k, u.ownBlock = some k → k < n) : Apart v' u := fun k hk e => by
 rcases hat with h | h
 ·rw [h] at hk
  exact ha k hk e
 ·rw [h] at hk
  injection hk with hk
  have := hu k e
  omega
section
variable {w w' : World} {base : Nat} {e : TypeId} {size n : Nat} {v u : Value} {xs : List Value}
theorem own_other (h : w.ownsRow base e size v n xs) (hg : w.grownBy w' u.ownBlock) (ha : Apart u v) : w'.ownsRow base e size v n xs := h.kept hg (by
 cases hv : v.ownBlock with
 | none => exact .inl rfl
 | some k => exact .inr (fun e => ha k e.symm hv))
theorem apart_types {b1 b2 : Nat} {e1 e2 : TypeId} {s1 s2 n1 n2 : Nat} {xs1 xs2 : List Value} (h1 : w.ownsRow b1 e1 s1 v n1 xs1) (h2 : w.ownsRow b2 e2 s2 u n2 xs2) (he : e1 ≠ e2) : Apart v u := fun k hk hu => by
 rcases h1.2 with ⟨rfl, _⟩ | ⟨g, cap, cur, rfl, _, hg, _⟩
 ·simp [Value.ownBlock] at hk
 ·rcases h2.2 with ⟨rfl, _⟩ | ⟨g', cap', cur', rfl, _, hg', _⟩
  ·simp [Value.ownBlock] at hu
  ·simp only [Value.ownBlock, Option.some.injEq] at hk hu
   subst hk
   subst hu
   rw [hg] at hg'
   injection hg' with hg'
   injection hg' with _ hg'
   exact he hg'
theorem own_blt (h : w.ownsRow base e size v n xs) : ∀ k, v.ownBlock = some k → k < w.heap.size := fun k hk => (h.lt k hk).2
end
theorem info_param : (Tryz.prog.info? 68).map (fun i => (i.zero, i.size, i.bytes)) = some (some (.agg #[.string ⟨#[]⟩, .string ⟨#[]⟩, .bool false]), 3, 40) := by kernel_rfl
theorem info_rparam : (Tryz.prog.info? 71).map (fun i => (i.zero, i.size, i.bytes)) = some (some (.agg #[.string ⟨#[]⟩, .string ⟨#[]⟩, .bool false]), 3, 40) := by kernel_rfl
end Go.Proofs.YtiohmnhbmmhnhaaGreatDoor
