/-
  An argument that is a target, opened to its parts.
-/
import Derived.Test.YtjlnbjlhlglneaaGreatDoorTgFrame
import Derived.Test.YtjlnbjlhlglneaaGreatDoorTgBh
namespace Go.Proofs.YtjlnbjlhlglneaaGreatDoor
open Go.ChangeShapes Go.WideShapes Go.ChangeAt Go.RowKit Go.Deep
open Go.ChangeMaps (open_string shut_string)

theorem tg_laidOut : laidOutB Tryz.prog = true := by kernel_rfl
/-- An argument reads behind the call as it read before. -/
theorem tg_stays {H : Type} {enc : TypeId × Value → H} {t : TypeId} (hr : Tryz.prog.readableRec t = true) (hrow : decide (t < Tryz.prog.types.size) = true) {W W' : World} {v : Value} {d : DataW H} {ps : List MemPlace}
    (h : DataW.Trod enc Tryz.prog W 0 (fun _ => true) true t v d ps) (hb : Below W.heap.size W W') (hlt : ∀ x ∈ ps, x.block < W.heap.size) {sp : Nat → Bool} (hsp : ∀ x ∈ ps, sp x.block = true) :
    DataW.Trod enc Tryz.prog W' 0 sp true t v d ps :=
  WideElems.Trod_stays tg_laidOut hr (of_decide_eq_true hrow) h (fun x hx => hb.same (hlt x hx)) hsp
def Tg.okW (t : Tg) : Prop := (-9223372036854775808 ≤ t.form ∧ t.form ≤ 9223372036854775807) ∧ (-9223372036854775808 ≤ t.port ∧ t.port ≤ 9223372036854775807)
def Tg.dat {H : Type} (t : Tg) : DataW H := .agg [.lit (.int .i64 t.form), .lit (.string t.host.data.toList), .lit (.int .i64 t.port), .lit (.string t.path.data.toList), .lit (.string t.query.data.toList), .lit (.bool t.hasq)]
set_option maxRecDepth 100000 in
theorem open_target {H : Type} {enc : TypeId × Value → H} {W : World} {base : Nat} {v : Value} {d : DataW H} {p : List MemPlace} (hv : Value.okWide Tryz.prog W .any base 23 v) (h : DataW.Trod enc Tryz.prog W 0 (fun _ => true) true 23 v d p) :
    ∃ t : Tg, v = t.val ∧ d = t.dat ∧ t.okW := by
  obtain ⟨cs, rfl, hcs⟩ := okWide_struct Tryz.underlying23 hv
  have h6 : Tryz.prog.cellsOf 23 = 6 := by kernel_rfl
  rw [h6] at hcs
  obtain ⟨fuel, hf⟩ := h
  obtain ⟨ys, n', hn', hy, hlen, hyl, hfs⟩ := DataW.trod_struct Tryz.underlying23 hf
  have hone : oneCellFields Tryz.prog (Tryz.prog.fieldsOf 23) = true := by kernel_rfl
  simp only [Program.fieldsOf, Tryz.underlying23] at hone
  obtain ⟨l, rfl⟩ : ∃ l : List Value, cs = l.toArray := ⟨cs.toList, by simp⟩
  have hl : l.length = 6 := by simpa using hcs
  match l, hl with
  | [x0, x1, x2, x3, x4, x5], _ =>
  have hy6 : ys.length = 6 := hyl
  match ys, hy6 with
  | [y0, y1, y2, y3, y4, y5], _ =>
  have g0 := hfs 0 _ rfl
  have g1 := hfs 1 _ rfl
  have g2 := hfs 2 _ rfl
  have g3 := hfs 3 _ rfl
  have g4 := hfs 4 _ rfl
  have g5 := hfs 5 _ rfl
  rw [(hone_of hone 0 _ rfl).1, (hone_of hone 0 _ rfl).2] at g0
  rw [(hone_of hone 1 _ rfl).1, (hone_of hone 1 _ rfl).2] at g1
  rw [(hone_of hone 2 _ rfl).1, (hone_of hone 2 _ rfl).2] at g2
  rw [(hone_of hone 3 _ rfl).1, (hone_of hone 3 _ rfl).2] at g3
  rw [(hone_of hone 4 _ rfl).1, (hone_of hone 4 _ rfl).2] at g4
  rw [(hone_of hone 5 _ rfl).1, (hone_of hone 5 _ rfl).2] at g5
  obtain ⟨n0, e0, r0, w0⟩ := DataW.trod_int Tryz.underlying3 g0
  obtain ⟨n1, e1, r1, w1⟩ := DataW.trod_string Tryz.underlying9 g1
  obtain ⟨n2, e2, r2, w2⟩ := DataW.trod_int Tryz.underlying3 g2
  obtain ⟨n3, e3, r3, w3⟩ := DataW.trod_string Tryz.underlying9 g3
  obtain ⟨n4, e4, r4, w4⟩ := DataW.trod_string Tryz.underlying9 g4
  obtain ⟨n5, e5, r5⟩ := DataW.trod_bool Tryz.underlying4 g5
  simp [Value.cells] at e0 e1 e2 e3 e4 e5
  subst e0 e1 e2 e3 e4 e5 r0 r1 r2 r3 r4 r5
  refine ⟨⟨n0, n1, n2, n3, n4, n5⟩, rfl, congrArg Prod.fst hy, ⟨bounds_i64 w0, bounds_i64 w2⟩⟩
end Go.Proofs.YtjlnbjlhlglneaaGreatDoor
