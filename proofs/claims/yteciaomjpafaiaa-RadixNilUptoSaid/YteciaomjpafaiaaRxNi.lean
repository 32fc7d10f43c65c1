/-
  A nil tree.
-/
import Derived.Test.YteciaomjpafaiaaRxFd
namespace Go.Proofs.Yteciaomjpafaiaa
open Go.RowKit Go.Shelf Go.Lib

set_option maxRecDepth 20000 in
theorem place_nil (s : ByteArray) (w : World) :
    Calls Try.prog 34 #[.pointer none, .string s] w fun e w' => e = .returned (.int .i64 (-1)) ∧ Below w.heap.size w w' := by
  go_enter Try.func34, Try.ntmps34
  go_wp2
  go_ret
  exact ⟨rfl, (Below.refl _ _).alloc (Nat.le_refl _) _⟩
set_option maxRecDepth 20000 in
theorem Get_nil (s : ByteArray) (w : World) :
    Calls Try.prog 18 #[.pointer none, .string s] w fun e w' => e = .returned (.tuple #[.int .i64 0, .bool false]) ∧ Below w.heap.size w w' := by
  go_enter Try.func18, Try.ntmps18
  go_wp2_with fail
  refine (place_nil s _).mono ?_
  rintro e w1 ⟨rfl, hb⟩
  go_wp2
  go_ret2
  exact ⟨rfl, hb⟩
set_option maxRecDepth 20000 in
theorem Remove_nil (s : ByteArray) (w : World) :
    Calls Try.prog 17 #[.pointer none, .string s] w fun e w' => e = .returned (.tuple #[.int .i64 0, .bool false]) ∧ Below w.heap.size w w' := by
  go_enter Try.func17, Try.ntmps17
  go_wp2_with fail
  refine (Get_nil s _).mono ?_
  rintro e w1 ⟨rfl, hb⟩
  go_wp2
  go_ret2
  exact ⟨rfl, hb⟩
set_option maxRecDepth 20000 in
theorem Find_nil (s : ByteArray) (w : World) :
    Calls Try.prog 19 #[.pointer none, .string s] w fun e w' => e = .returned (.tuple #[.int .i64 0, .string ⟨#[]⟩, .slice none 0 0, .bool false]) ∧ Below w.heap.size w w' := by
  go_enter Try.func19, Try.ntmps19
  go_wp2
  refine bodyPost_ret (results_tmp4 rfl _ _ _) rfl ?_
  exact ⟨rfl, Below.refl _ _⟩
set_option maxRecDepth 20000 in
theorem Len_nil (w : World) :
    Calls Try.prog 22 #[.pointer none] w fun e w' => e = .returned (.int .i64 0) ∧ Below w.heap.size w w' := by
  go_enter Try.func22, Try.ntmps22
  go_wp2
  go_ret
  exact ⟨rfl, Below.refl _ _⟩
set_option maxRecDepth 20000 in
theorem Nodes_nil (w : World) :
    Calls Try.prog 23 #[.pointer none] w fun e w' => e = .returned (.int .i64 0) ∧ Below w.heap.size w w' := by
  go_enter Try.func23, Try.ntmps23
  go_wp2
  go_ret
  exact ⟨rfl, Below.refl _ _⟩
set_option maxRecDepth 20000 in
theorem All_nil (w : World) :
    Calls Try.prog 20 #[.pointer none] w fun e w' => e = .returned (.func (.func 39) #[] #[.pointer (some ⟨w.heap.size, 0, none⟩)]) ∧ Below w.heap.size w w' ∧ w'.cell? ⟨w.heap.size, 0, none⟩ = some (.slice none 0 0) ∧ w.heap.size < w'.heap.size := by
  have hmf : ∀ (fn : Fn) (first cap : Array Value) (w : World), (Instr.makeFunc fn first cap).run Try.prog w = .ok (.func fn first cap) w := fun _ _ _ _ => rfl
  go_enter Try.func20, Try.ntmps20
  go_wp2
  go_ret
  exact ⟨rfl, (Below.refl _ _).alloc (Nat.le_refl _) _, by simp, by simp⟩
/-- What Insert answers at a nil tree. -/
def nilIns (s : ByteArray) : Int := if (splitP s).2.2 = true then 131 else 130
set_option maxRecDepth 20000 in
set_option maxHeartbeats 4000000 in
theorem Insert_nil (s : ByteArray) (v : Int) (w : World) (hs : s.size ≤ 4194304) :
    Calls Try.prog 21 #[.pointer none, .string s, .int .i64 v] w fun e w' => e = .returned (.int .i64 (nilIns s)) ∧ Below w.heap.size w w' := by
  have HSP := Lib.hid (fun W => split_any s W hs)
  unfold nilIns
  generalize splitP s = r at *
  obtain ⟨pl, pa, pg⟩ := r
  dsimp only
  cases pg
  all_goals
    go_enter_defers Try.func21, Try.ntmps21
    go_wp2_with fail
    refine (HSP.out _).mono ?_
    rintro e w1 ⟨A, c, rfl, ho, hb⟩
    dsimp only
    have hb2 : Below w.heap.size w w1 := below_new (by simpa using hb)
    have hcell : w1.cell? ⟨w.heap.size, 0, none⟩ = some (.int .i64 0) := by
      rw [hb.cell (p := ⟨w.heap.size, 0, none⟩) (by simp), World.cell?_alloc_new]
      rfl
    have hfro : w1.frozen? ⟨w.heap.size, 0, none⟩ = false := by
      rw [hb.frozen (p := ⟨w.heap.size, 0, none⟩) (by simp)]
      simp
    have hlt1 : w.heap.size < w1.heap.size := by have := hb.size; simp at this; omega
    have HB := Lib.hid (fun x => Below.setCell hb2 (p := ⟨w.heap.size, 0, none⟩) (Nat.le_refl w.heap.size) (.int .i64 x))
    have HRS := Lib.hid (fun x : Int => World.cell?_setCell_same w1 (⟨w.heap.size, 0, none⟩ : Addr) (.int .i64 x) hcell)
    clear ho hb hb2
    go_wp2
    have hres1 := HRS.out 130
    have hres2 := HRS.out 131
    simp [bodyPostD, Leaves, results, Try.results21, go_sem, hres1, hres2]
    exact HB.out _
attribute [local go_sem] Oper.semAt_some
set_option maxRecDepth 20000 in
set_option maxHeartbeats 4000000 in
theorem all1_nil (n : Nat) (_hn : 1 ≤ n) (Bn n₀ : Nat) (w : World) (hB : Bn < w.heap.size) (hc : w.cell? ⟨Bn, 0, none⟩ = some (.slice none 0 0)) :
    SeqStopsK Fence.wide n Try.prog 39 #[.pointer (some ⟨Bn, 0, none⟩)] (fun x : ByteArray × Int => #[Value.string x.1, .int .i64 x.2]) (Below n₀) (fun ys => ys = []) (fun _ => True) 0 w := fun l J Jx W hW hJ _ hY h0 => by
  have hcW := (hW.cell (p := ⟨Bn, 0, none⟩) hB).trans hc
  clear hY hJ hc hW hB
  refine callsIn_of_wp Try.func39 rfl trivial ?_ rfl
  simp only [Try.ntmps39, List.size_toArray, List.length_cons, List.length_nil, Nat.reduceAdd, Nat.reduceSub, Array.replicate_succ, Array.replicate_zero, List.push_toArray, List.append_toArray, List.nil_append, List.cons_append]
  gi_wp2
  gi_loopw [7] (fun i wr => i = .int .i64 0 ∧ wr = W) (fun _ _ => 0)
  case atStart => exact ⟨rfl, rfl⟩
  case round =>
    obtain ⟨rfl, rfl⟩ := hrel
    gi_wp2
    go_end0
    exact ⟨⟨_, rfl⟩, .inl ⟨[], rfl, h0⟩⟩
end Go.Proofs.Yteciaomjpafaiaa
