/-
  ChainPlain: the walk.
-/
import Derived.Test.YtdipogmlpmkgcaaGreatDoorChC
import Derived.Test.YtdipogmlpmkgcaaGreatDoorChN
namespace Go.Proofs.YtdipogmlpmkgcaaGreatDoor
open Go.RowKit Go.Shelf Go.Lib

theorem body404 : bodyP 404 = ⟨#[78, 111, 116, 32, 70, 111, 117, 110, 100, 10]⟩ := by
  have h : reasonP 404 = ⟨#[78, 111, 116, 32, 70, 111, 117, 110, 100]⟩ := by decide +kernel
  unfold bodyP wordP
  rw [h]
  decide +kernel
theorem run_fieldR (a b c d : Value) (w : World) : (Instr.field 28 (.agg #[a, b, c, d]) 3).run Tryz.prog w = .ok d w := by
  simp [Instr.field, go_sem]
  rfl
set_option maxRecDepth 20000 in
set_option maxHeartbeats 4000000 in
theorem awake_any (w : World) (hg : GlobC w) :
    Calls Tryz.prog 5 #[] w fun e w' => e = .returned (.bool true) ∧ Below w.heap.size w w' := by
  have heq : ∀ w : World, (binOp .eql 36 (.agg #[.string ⟨#[88]⟩, .string ⟨#[49]⟩]) (.agg #[.string ⟨#[88]⟩, .string ⟨#[49]⟩])).run Tryz.prog w = .ok (.bool true) w := fun _ => by kernel_rfl
  have HP := Lib.hid (fun (w1 : World) (hb : Below w.heap.size w w1) => Plain_any 404 none 0 [] w1 (Row.nil _ _) (by decide) (by decide) (by decide) (hg.beyond hb))
  rw [body404] at HP
  have HR := Lib.hid Run_one
  have hg' := hg.g
  have hfd := run_fieldR
  go_enter Tryz.func5, Tryz.ntmps5
  go_wp2_with fail
  have b0 : Below w.heap.size w (w.alloc (.cells #[.int .i64 1, .string ⟨#[88]⟩, .string ⟨#[49]⟩, .slice none 0 0, .int .i64 0] 41)) := (Below.refl _ w).alloc (Nat.le_refl _) _
  refine (HR.out _ w.heap.size (hg'.beyond b0) (by simp) (by simp) (by simp) (by simp) (by simp) (by simp)).mono ?_
  rintro e w1 ⟨A1, c1, rfl, ow, b1⟩
  have hb1 : Below w.heap.size w w1 := b0.trans (b1.mono (by simp))
  obtain ⟨b, off, rfl, hbl, k0, k1⟩ := (own_row ow).pair (k := 0) rfl
  simp only [Nat.zero_mul, Nat.add_zero] at k0 k1
  have hc1 := own_cap ow
  have hl1 : ([(⟨#[88]⟩, ⟨#[49]⟩)] : List Fl).length = 1 := rfl
  simp only [hl1] at hc1
  clear b0 b1 ow hl1
  go_wp2_with fail
  have hb2 := hb1.alloc hb1.size (.cells #[.int .i64 200, .string ⟨#[]⟩, .slice (some ⟨b, off, none⟩) 1 c1, .string ⟨#[]⟩] 28)
  refine (HP.out _ hb2).mono ?_
  rintro e w2 ⟨A2, c2, rfl, _, b2⟩
  have hb3 := hb2.trans (b2.mono hb2.size)
  clear b2 hb2
  go_wp2
  go_ret
  exact ⟨rfl, hb3⟩
set_option maxRecDepth 20000 in
set_option maxHeartbeats 4000000 in
theorem ChainPlain_walk (n : Int) (A : Option Addr) (c : Nat) (l : List Fl) (w : World) (hn : -9223372036854775808 ≤ n ∧ n ≤ 9223372036854775807) (hr : Row w A (flat l)) (hl : l.length ≤ 4398046511100) (_hw : Wide l) (hg : GlobC w) :
    Calls Tryz.prog 3 #[.int .i64 n, .slice A l.length c] w fun e w' => e = .returned (.bool true) ∧ Below w.heap.size w w' := by
  obtain ⟨h0, h1⟩ := hn
  have HF := Lib.hid (fields_any A c l w hr (by omega))
  have HA := Lib.hid awake_any
  have HP := Lib.hid (fun (w1 : World) (hb : Below w.heap.size w w1) => Plain_any n A c l w1 (hr.below hb) (by omega) h0 h1 (hg.beyond hb))
  have HQ := Lib.hid (fun B d (w1 : World) (hs : Row w1 B (flat l)) => rPlain_any n B d l w1 hs (by omega) h0 h1 (tab_same n))
  have HS := Lib.hid (fun A' B' c' d' (w1 : World) (hx : Row w1 A' (flat (ctF :: l))) (hy : Row w1 B' (flat (ctF :: l))) => sameResp_any n A' B' c' d' (ctF :: l) (bodyP n) w1 hx hy (by rw [List.length_cons]; omega))
  have HE := Lib.hid (fun B' d' (w1 : World) (hb : Below w.heap.size w w1) (hy : Row w1 B' (flat l)) => sameFields_any A B' c d' l l w1 (hr.below hb) hy (by omega) (by omega))
  rw [decide_eq_true (rfl : l = l)] at HE
  generalize bodyP n = bd at *
  go_enter Tryz.func3, Tryz.ntmps3
  go_wp2_with fail
  refine HF.out.mono ?_
  rintro e w1 ⟨B, d, rfl, ho, b1⟩
  have hs1 := own_row ho
  clear ho
  go_wp2_with fail
  refine (HA.out w1 (hg.beyond b1)).mono ?_
  rintro e w2 ⟨rfl, b2⟩
  have hb2 := b1.trans (b2.mono b1.size)
  have hs2 := hs1.below b2
  clear b2
  go_wp2_with fail
  refine (HP.out w2 hb2).mono ?_
  rintro e w3 ⟨A3, c3, rfl, o3, b3⟩
  have hb3 := hb2.trans (b3.mono hb2.size)
  have hs3 := hs2.below b3
  have hx3 := own_row o3
  clear b3 o3
  go_wp2_with fail
  refine (HQ.out B d w3 hs3).mono ?_
  rintro e w4 ⟨A4, c4, rfl, o4, b4⟩
  have hb4 := hb3.trans (b4.mono hb3.size)
  have hs4 := hs3.below b4
  have hx4 := hx3.below b4
  have hy4 := own_row o4
  clear b4 o4
  go_wp2_with fail
  refine (HS.out A3 A4 c3 c4 w4 hx4 hy4).mono ?_
  rintro e w5 ⟨rfl, b5⟩
  have hb5 := hb4.trans (b5.mono hb4.size)
  have hs5 := hs4.below b5
  clear b5
  go_wp2_with fail
  refine (HE.out B d w5 hb5 hs5).mono ?_
  rintro e w6 ⟨rfl, b6⟩
  have hb6 := hb5.trans (b6.mono hb5.size)
  clear b6
  go_wp2
  go_ret
  exact ⟨rfl, hb6⟩
end Go.Proofs.YtdipogmlpmkgcaaGreatDoor
