/-
  What the frames of all statements of this seat share: the variables that the rows list, a world for the witness, the last step.
-/
import Derived.Test.YtamagbdkcfmfmaaDoorOct
import Derived.Test.YtamagbdkcfmfmaaDoorCards
import Derived.Test.YtamagbdkcfmfmaaDoorTie
import Derived.ProofKit
import Derived.OpenShut
import Derived.Deep.DeepHandedRow
import Derived.Lib.LaidTab
import Derived.Stop.LaidErr
import Derived.ChangeSame
import Derived.Deep.Slices
namespace Go.Proofs.YtamagbdkcfmfmaaDoor
open Go.ChangeShapes Go.WideShapes Go.ChangeAt Go.RowKit
open Go.ChangeMaps (open_string shut_string)

theorem ownKnobNone : ownKnob Tryd.prog.godebug = none := by kernel_rfl
theorem gSigns : Tryd.prog.globalNamed "turnpike/octet.signs" = some 0 := by kernel_rfl
theorem gSignsType : (Tryd.prog.globals[0]?).map (·.type) = some 138 := by kernel_rfl
theorem cellsSigns : Tryd.prog.cellsOf 138 = 4 := by kernel_rfl
theorem cellsU32 : Tryd.prog.cellsOf 137 = 1 := by kernel_rfl

def theLaid : List (String × DataW Unit) := [("unicode/utf8.acceptRanges", Rows.laid_unicode_utf8_acceptRanges), ("turnpike/octet.signs", Rows.laid_turnpike_octet_signs), ("unicode/utf8.first", Rows.laid_unicode_utf8_first)]
theorem no_handles : theLaid.filter (fun x => x.2.handleName?.isSome) = [] := by kernel_rfl
theorem laid_met_of {W : World} (h : laidMetH Tryd.prog theLaid W) : laidMet Tryd.prog theLaid W := by
  unfold laidMetH at h
  rw [no_handles] at h
  exact h
/-- WHAT THE ROW's LIST GIVES: the table's cells. -/
theorem glob_of {W : World} (h : laidMetH Tryd.prog theLaid W) (hs : W.ShapedOpen Tryd.prog) : Glob W := by
  have h1 := (laid_met_of h).tail
  have ht : Lib.TabIs Tryd.prog W "turnpike/octet.signs" .u32 signTab := Lib.tabIs_of_head (zs := signTab) (rest := [("unicode/utf8.first", Rows.laid_unicode_utf8_first)]) gSigns gSignsType Tryd.underlying138 Tryd.underlying137 cellsU32 cellsSigns h1
  have hm := cell_of_shapedOpen_int (g := 1) (zero := #[.int .i64 0]) (t := 3) hs (of_decide_eq_true (by kernel_rfl)) (by kernel_rfl) rfl (by kernel_rfl) (by kernel_rfl) Tryd.underlying3
  have hc : ∀ k : Nat, k < 4 → W.cell? ⟨0, k, none⟩ = some (.int .u32 (signTab.getD k 0)) := fun k hk => ht.cell gSigns k hk
  have lt_of : ∀ (b k : Nat) (v : Value), W.cell? ⟨b, k, none⟩ = some v → b < W.heap.size := fun b k v h => by
    rcases Nat.lt_or_ge b W.heap.size with h1 | h1
    · exact h1
    · simp [World.cell?, Array.getElem?_eq_none h1] at h
  refine ⟨?_, hc, hm⟩
  have h0 := lt_of _ _ _ (hc 0 (by omega))
  obtain ⟨m, hm⟩ := hm
  have h1 := lt_of _ _ _ hm
  omega

/-- A world for the witness: the settled one, the listed variables holding what their initialisers lay. -/
def putCells (cs : Array Value) : Obj → Obj
  | .cells _ t frozen => .cells cs t frozen
  | o => o
noncomputable def laidWorld (os : Os) : World :=
  { World.holding Tryd.prog os ⟨#[], #[], []⟩ with heap := (((World.holding Tryd.prog os ⟨#[], #[], []⟩).heap.modify 0 (putCells #[.int .u32 0, .int .u32 67071226, .int .u32 3355443198, .int .u32 1476395007])).modify 2 (putCells (Go.Pinned.utf8FirstZ.map fun (n : Nat) => Value.int .u8 n).toArray)).modify 3 (putCells (([128, 191, 160, 191, 128, 159, 144, 191, 128, 143] ++ List.replicate 22 0).map fun (n : Nat) => Value.int .u8 n).toArray) }
theorem laid_met (os : Os) (args : Array Value) : laidMet Tryd.prog theLaid ((laidWorld os).forCall (fun _ _ => 0) ⟨#[], args, []⟩).memory :=
  laidMet_of_run' 8 (by kernel_rfl) (by kernel_rfl)

section
variable {H : Type} {enc : TypeId × Value → H} {P : Program}
/-- The last step of a row whose call leaves 'Below' behind. -/
theorem post_of_below {f : Func} {s : ChangeSpec} {apart fresh handsOn again : Bool} {W W' : World} {args : Array Value} {v : Value} {ds gs : List (DataW H)} {before pa pv : List MemPlace}
    (hW : DataW.Whole enc P f.params.toList s.vars apart W args.toList ds gs before)
    (hres : ∀ (b : Nat) (sp : Nat → Bool) (hd : Bool), DataW.TrodAll enc P W' b sp hd f.resultTypes.toList (v.resultList f.resultTypes.size) (s.fn H (ds ++ gs)).results [])
    (hargs : ∀ sp : Nat → Bool, (∀ p ∈ before, sp p.block = true) → DataW.TrodAll enc P W' 0 sp true f.params.toList args.toList (s.fn H (ds ++ gs)).args pa)
    (hvars : ∀ sp : Nat → Bool, (∀ p ∈ before, sp p.block = true) → DataW.TrodVars enc P W' sp s.vars (s.fn H (ds ++ gs)).vars pv)
    (hps : before = pa ++ pv) (hb : Below W.heap.size W W')
    (hok : ∀ (j : Nat) (t : TypeId) (r : Value), f.resultTypes[j]? = some t → (v.resultList f.resultTypes.size)[j]? = some r → Value.okWide P W' .any 0 t r) :
    s.post enc P f apart fresh handsOn again W args v W' := by
  have hlt : ∀ p ∈ before, p.block < W.heap.size := fun p hp => hW.lt p hp
  have hold : ∀ p ∈ before, (fun b => decide (b < W.heap.size)) p.block = true := fun p hp => by simpa using hlt p hp
  refine ⟨ds, gs, before, [], pa, pv, hW, hres _ _ _, hargs _ hold, hvars _ hold, World.keptBut_mono (fun p hp => ⟨hp, ?_⟩) (hb.frame (· ∈ before)), fun _ => ?_⟩
  · rw [hps, List.mem_append] at hp
    exact Or.inr hp
  · obtain ⟨_, _, _, _, _, hz, hn⟩ := hW
    refine ⟨hok, _, _, ([] ++ pa) ++ pv, ⟨[] ++ pa, pv, trodAll_append (hargs _ (fun _ _ => rfl)) (hres _ _ _), hvars _ (fun _ _ => rfl), rfl, ?_, ?_⟩, ?_⟩
    · intro b off hp
      have hin : MemPlace.cell b off ∈ before := by rw [hps]; simpa using hp
      rw [hb.frozen (hlt _ hin)]
      exact hz b off hin
    · intro ha
      have := hn ha
      rw [hps] at this
      simpa using this
    · intro p hp _
      rw [hps]
      simpa using hp
end
end Go.Proofs.YtamagbdkcfmfmaaDoor
