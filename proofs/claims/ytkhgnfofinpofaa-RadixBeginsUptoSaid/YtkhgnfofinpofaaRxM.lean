/-
  Rows of pieces; the walk that looks for a name among the pieces that are read.
-/
import Derived.Test.YtkhgnfofinpofaaRxS
import Derived.Test.YtkhgnfofinpofaaTgF3
import Derived.Test.YtkhgnfofinpofaaTgApp
namespace Go.Proofs.Ytkhgnfofinpofaa
open Go.RowKit Go.Shelf Go.Lib

def flatP (l : List Pc) : List Value := l.flatMap fun p => [.int .i64 p.1, .string p.2]
theorem flatP_length (l : List Pc) : (flatP l).length = l.length * 2 := by
  induction l with
  | nil => rfl
  | cons p l ih =>
    show (flatP l).length + 2 = _
    rw [ih, List.length_cons]
    omega
theorem flatP_append (l m : List Pc) : flatP (l ++ m) = flatP l ++ flatP m := by simp [flatP]
theorem flatP_get {l : List Pc} {k : Nat} {x : Int} {y : ByteArray} (h : l[k]? = some (x, y)) : (flatP l)[k * 2]? = some (.int .i64 x) ∧ (flatP l)[k * 2 + 1]? = some (.string y) := by
  induction l generalizing k with
  | nil => simp at h
  | cons p l ih =>
    cases k with
    | zero =>
      simp at h
      subst h
      exact ⟨rfl, rfl⟩
    | succ k =>
      obtain ⟨h0, h1⟩ := ih (k := k) (by simpa using h)
      have e : flatP (p :: l) = .int .i64 p.1 :: .string p.2 :: flatP l := rfl
      rw [e, show (k + 1) * 2 = k * 2 + 1 + 1 by omega, show k * 2 + 1 + 1 + 1 = (k * 2 + 1) + 1 + 1 from rfl]
      simp only [List.getElem?_cons_succ]
      exact ⟨h0, h1⟩
theorem flatP_oneCell (l : List Pc) : ∀ u ∈ flatP l, u.oneCell' = true := by
  intro u hu
  simp only [flatP, List.mem_flatMap] at hu
  obtain ⟨p, _, hp⟩ := hu
  simp at hp
  rcases hp with rfl | rfl <;> rfl
/-- A slice of pieces, in a round: its two cells. -/
theorem Row.pc {w : World} {A : Option Addr} {l : List Pc} {k : Nat} {x : Int} {y : ByteArray} (h : Row w A (flatP l)) (hk : l[k]? = some (x, y)) :
    ∃ b off, A = some ⟨b, off, none⟩ ∧ b < w.heap.size ∧ w.cell? ⟨b, off + k * 2, none⟩ = some (.int .i64 x) ∧ w.cell? ⟨b, off + k * 2 + 1, none⟩ = some (.string y) := by
  obtain ⟨h0, h1⟩ := flatP_get hk
  obtain ⟨b, off, e, hb, hc⟩ := h.at_ h0
  exact ⟨b, off, e, hb, hc _ _ h0, by rw [Nat.add_assoc]; exact hc _ _ h1⟩
theorem cells_newP (w : World) (x : Int) (y : ByteArray) (t : TypeId) {n : Nat} (hn : n = w.heap.size) : ∀ j u, [Value.int .i64 x, Value.string y][j]? = some u → (w.alloc (.cells #[.int .i64 x, .string y] t)).cell? ((⟨n, 0, none⟩ : Addr).add j) = some u := by
  subst hn
  intro j u hu
  match j with
  | 0 => simp at hu; subst hu; simp [Addr.add]
  | 1 => simp at hu; subst hu; simp [Addr.add]
  | j + 2 => simp at hu
theorem info_piece : (Try.prog.info? 99).map (fun i => (i.zero, i.size, i.bytes)) = some (some (.agg #[.int .i64 0, .string ⟨#[]⟩]), 2, 24) := by kernel_rfl
theorem below_new {w w1 : World} {o : Obj} (h : Below (w.heap.size + 1) (w.alloc o) w1) : Below w.heap.size w w1 :=
  ((Below.refl w.heap.size w).alloc (Nat.le_refl _) o).trans (h.mono (by omega))

set_option maxRecDepth 20000 in
set_option maxHeartbeats 1000000 in
/-- The closure that looks for a name: what it says of a piece. -/
theorem read1_any (p x : Pc) (nb : Nat) (w : World) (hc1 : w.cell? ⟨nb, 1, none⟩ = some (.string p.2)) (hlt : nb < w.heap.size) :
    Calls Try.prog 87 #[.agg #[.int .i64 x.1, .string x.2], .pointer (some ⟨nb, 0, none⟩)] w fun e w' => e = .returned (.bool (sameName p x)) ∧ Below w.heap.size w w' := by
  obtain ⟨x1, x2⟩ := x
  unfold sameName
  by_cases h : x1 = 0
  · have h1 : (x1 != 0) = false := by rw [h]; rfl
    rw [show decide ((x1, x2).1 = 0) = true from decide_eq_true h]
    clear h
    dsimp only
    go_enter Try.func87, Try.ntmps87
    go_wp2
    go_ret
    exact ⟨rfl, below_new (Below.refl _ _)⟩
  · have h1 : (x1 != 0) = true := by simpa using h
    rw [show decide ((x1, x2).1 = 0) = false from decide_eq_false h]
    clear h
    dsimp only
    go_enter Try.func87, Try.ntmps87
    go_wp2
    go_ret
    refine ⟨ret_bool ?_, below_new (Below.refl _ _)⟩
    rw [Bool.not_false, Bool.true_and]
    exact eq_str x2 p.2
set_option maxRecDepth 20000 in
set_option maxHeartbeats 1000000 in
theorem IndexFunc_pc (A : Option Addr) (c : Nat) (l : List Pc) (p : Pc) (nb : Nat) (w : World) (hr : Row w A (flatP l)) (hl : l.length ≤ 4398046511104) (hc1 : w.cell? ⟨nb, 1, none⟩ = some (.string p.2)) (hlt : nb < w.heap.size) :
    Calls Try.prog 114 #[.slice A l.length c, .func (.func 87) #[] #[.pointer (some ⟨nb, 0, none⟩)]] w fun e w' => ∃ i : Int, e = .returned (.int .i64 i) ∧ decide (0 ≤ i) = l.any (sameName p) ∧ Below w.heap.size w w' := by
  have hcf : ∀ args w, (callFunc 87 args).run Try.prog w = .ok (.enter 87 args) w := fun args w => Try.call87 args w
  have HF := Lib.hid (fun (W : World) (h : Below w.heap.size w W) (x : Pc) => read1_any p x nb W ((h.cell (p := ⟨nb, 1, none⟩) hlt).trans hc1) (Nat.lt_of_lt_of_le hlt h.size))
  clear hc1 hlt
  generalize Value.pointer (some ⟨nb, 0, none⟩) = cap at *
  go_enter Try.func114, Try.ntmps114
  go_wp2
  go_loopw [8] (fun i wr => ∃ k : Nat, k ≤ l.length ∧ i = .int .i64 k ∧ Hid ((l.take k).any (sameName p) = false) ∧ Below w.heap.size w wr) (fun i _ => l.length - (RowKit.intOf i).toNat)
  case atStart => exact ⟨0, by omega, rfl, Lib.hid rfl, Below.refl _ _⟩
  case round =>
    obtain ⟨k, hk, rfl, HK, hbw⟩ := hrel
    by_cases hlt : k < l.length
    · obtain ⟨⟨x, y⟩, hxy⟩ := some_of_lt hlt
      obtain ⟨b, off, rfl, hb, h0, h1⟩ := (hr.below hbw).pc hxy
      have HC := Lib.hid (HF.out wr hbw (x, y))
      dsimp only at HC
      have HS := Lib.hid (show (l.take (k + 1)).any (sameName p) = sameName p (x, y) by rw [take_snoc hxy, List.any_append, HK.out]; simp)
      have HY := Lib.hid (fun (e : sameName p (x, y) = true) => (List.any_eq_true.2 ⟨_, List.mem_of_getElem? hxy, e⟩ : l.any (sameName p) = true))
      clear hxy
      go_wp2_with fail
      refine HC.out.mono ?_
      rintro e w1 ⟨rfl, hb1⟩
      have hbw1 := hbw.trans (hb1.mono hbw.size)
      clear hb1 h0 h1
      cases hp : sameName p (x, y)
      · rw [hp] at HS
        clear HY HC
        go_wp2
        go_roundw
        case rel => exact ⟨k + 1, by omega, by go_num, Lib.hid HS.out, hbw1⟩
        case measure => simp [RowKit.intOf]; omega
      · have HZ := Lib.hid (HY.out hp)
        clear HY HC
        go_wp2
        go_ret
        exact ⟨k, rfl, by rw [HZ.out]; simp, hbw1⟩
    · obtain rfl : k = l.length := by omega
      have HZ := HK.out
      rw [List.take_length] at HZ
      have HZ := Lib.hid HZ
      go_wp2
      go_ret
      exact ⟨-1, rfl, by rw [HZ.out]; rfl, hbw⟩
set_option maxRecDepth 20000 in
set_option maxHeartbeats 1000000 in
theorem ContainsFunc_pc (A : Option Addr) (c : Nat) (l : List Pc) (p : Pc) (nb : Nat) (w : World) (hr : Row w A (flatP l)) (hl : l.length ≤ 4398046511104) (hc1 : w.cell? ⟨nb, 1, none⟩ = some (.string p.2)) (hlt : nb < w.heap.size) :
    Calls Try.prog 86 #[.slice A l.length c, .func (.func 87) #[] #[.pointer (some ⟨nb, 0, none⟩)]] w fun e w' => e = .returned (.bool (l.any (sameName p))) ∧ Below w.heap.size w w' := by
  have HI := Lib.hid (IndexFunc_pc A c l p nb w hr hl hc1 hlt)
  clear hc1 hlt
  go_enter Try.func86, Try.ntmps86
  go_wp2_with fail
  refine HI.out.mono ?_
  rintro e w1 ⟨i, rfl, hi, hb⟩
  have HH := Lib.hid hi
  clear hi
  go_wp2
  go_ret
  exact ⟨ret_bool HH.out, hb⟩
end Go.Proofs.Ytkhgnfofinpofaa
