/-
  PrintLine, Print: the walks, of the program and of the reference.
-/
import Derived.Test.YtamagbdkcfmfmaaDoorCanonW
import Derived.Test.YtamagbdkcfmfmaaDoorBuild
import Derived.Test.YtamagbdkcfmfmaaDoorAll
namespace Go.Proofs.YtamagbdkcfmfmaaDoor
open Go.RowKit Go.Shelf Go.Lib

def printLine (p : Fl) : ByteArray × Int :=
  if isName p.1 = false then ((⟨#[]⟩ : ByteArray), 60) else if isValue p.2 = false then ((⟨#[]⟩ : ByteArray), 61) else if p.2.size = 0 then (p.1 ++ ⟨#[58]⟩, 0) else (p.1 ++ ⟨#[58, 32]⟩ ++ p.2, 0)
section
variable {x y : ByteArray}
theorem printLine_name (h : isName x = false) : printLine (x, y) = ((⟨#[]⟩ : ByteArray), 60) := by unfold printLine; rw [if_pos h]
theorem printLine_value (h : isName x = true) (h1 : isValue y = false) : printLine (x, y) = ((⟨#[]⟩ : ByteArray), 61) := by unfold printLine; rw [if_neg (by rw [h]; simp), if_pos h1]
theorem printLine_short (h : isName x = true) (h1 : isValue y = true) (h2 : y.size = 0) : printLine (x, y) = (x ++ ⟨#[58]⟩, (0 : Int)) := by unfold printLine; rw [if_neg (by rw [h]; simp), if_neg (by rw [h1]; simp), if_pos h2]
theorem printLine_long (h : isName x = true) (h1 : isValue y = true) (h2 : ¬ y.size = 0) : printLine (x, y) = (x ++ ⟨#[58, 32]⟩ ++ y, (0 : Int)) := by unfold printLine; rw [if_neg (by rw [h]; simp), if_neg (by rw [h1]; simp), if_neg h2]
end
theorem isName_size {s : ByteArray} (h : isName s = true) : s.size ≤ 128 := by
  unfold isName at h
  simp at h
  exact h.1
theorem isValue_size {s : ByteArray} (h : isValue s = true) : s.size ≤ 8192 := by
  unfold isValue at h
  simp at h
  exact h.1
theorem printLine_size (p : Fl) : (printLine p).1.size ≤ 8322 := by
  obtain ⟨x, y⟩ := p
  cases h : isName x
  · rw [printLine_name h]; decide
  · cases h1 : isValue y
    · rw [printLine_value h h1]; decide
    · have g1 := isName_size h
      have g2 := isValue_size h1
      by_cases h2 : y.size = 0
      · rw [printLine_short h h1 h2]
        simp only [ByteArray.size_append]
        have : (⟨#[58]⟩ : ByteArray).size = 1 := rfl
        omega
      · rw [printLine_long h h1 h2]
        simp only [ByteArray.size_append]
        have : (⟨#[58, 32]⟩ : ByteArray).size = 2 := rfl
        omega

set_option maxRecDepth 20000 in
theorem PrintLine_any (x y : ByteArray) (w : World) (hx : x.size ≤ maxLen) (hy : y.size ≤ maxLen) (hg : Glob w) :
    Calls Tryd.prog 31 #[.agg #[.string x, .string y]] w fun e w' => e = .returned (.tuple #[.string (printLine (x, y)).1, .int .i64 (printLine (x, y)).2]) ∧ Below w.heap.size w w' := by
  have HN := Lib.hid (fun w hg => IsName_any x w hx hg)
  have HV := Lib.hid (fun w => IsValue_any y w hy)
  have hg1 := hg.alloc (.cells #[.string x, .string y] 24)
  cases h : isName x
  · have HP := Lib.hid (printLine_name (y := y) h)
    go_enter Tryd.func31, Tryd.ntmps31
    go_wp2_with fail
    refine (HN.out _ hg1).mono ?_
    rw [h]
    rintro e w' ⟨rfl, rfl⟩
    go_wp2
    go_ret2
    exact ⟨by rw [HP.out]; rfl, (Below.refl _ _).alloc (Nat.le_refl _) _⟩
  · cases h1 : isValue y
    · have HP := Lib.hid (printLine_value h h1)
      go_enter Tryd.func31, Tryd.ntmps31
      go_wp2_with fail
      refine (HN.out _ hg1).mono ?_
      rw [h]
      rintro e w' ⟨rfl, rfl⟩
      go_wp2_with fail
      refine (HV.out _).mono ?_
      rw [h1]
      rintro e w1 ⟨rfl, hb⟩
      have hbw := below_box (by simpa using hb)
      go_wp2
      go_ret2
      exact ⟨by rw [HP.out]; rfl, hbw⟩
    · have g1 := isName_size h
      have g2 := isValue_size h1
      have hsz : ∃ b : Bool, y.toList.isEmpty = b := ⟨_, rfl⟩
      obtain ⟨b, hb0⟩ := hsz
      have hb0' := hb0
      rw [empty_eq] at hb0'
      cases b
      · have HP := Lib.hid (printLine_long h h1 (by simpa using hb0'))
        clear hb0'
        go_enter Tryd.func31, Tryd.ntmps31
        go_wp2_with fail
        refine (HN.out _ hg1).mono ?_
        rw [h]
        rintro e w' ⟨rfl, rfl⟩
        go_wp2_with fail
        refine (HV.out _).mono ?_
        rw [h1]
        rintro e w1 ⟨rfl, hb⟩
        obtain ⟨⟨hc0, hc1⟩, _, _⟩ := box2 (by simpa using hb)
        have hbw := below_box (by simpa using hb)
        clear hb
        go_wp2
        go_ret2
        exact ⟨by rw [HP.out]; rfl, hbw⟩
      · have HP := Lib.hid (printLine_short h h1 (by simpa using hb0'))
        clear hb0'
        go_enter Tryd.func31, Tryd.ntmps31
        go_wp2_with fail
        refine (HN.out _ hg1).mono ?_
        rw [h]
        rintro e w' ⟨rfl, rfl⟩
        go_wp2_with fail
        refine (HV.out _).mono ?_
        rw [h1]
        rintro e w1 ⟨rfl, hb⟩
        obtain ⟨⟨hc0, hc1⟩, _, _⟩ := box2 (by simpa using hb)
        have hbw := below_box (by simpa using hb)
        clear hb
        go_wp2
        go_ret2
        exact ⟨by rw [HP.out]; rfl, hbw⟩

set_option maxRecDepth 20000 in
theorem rPrintLine_any (x y : ByteArray) (w : World) (hx : x.size ≤ maxLen) (hy : y.size ≤ maxLen) :
    Calls Tryd.prog 32 #[.agg #[.string x, .string y]] w fun e w' => e = .returned (.tuple #[.string (printLine (x, y)).1, .int .i64 (printLine (x, y)).2]) ∧ Below w.heap.size w w' := by
  have HN := Lib.hid (fun w => rIsName_any x w hx)
  have HV := Lib.hid (fun w => rIsValue_any y w hy)
  have hbw := (Below.refl w.heap.size w).alloc (Nat.le_refl _) (.cells #[.string x, .string y] 28)
  cases h : isName x
  · have HP := Lib.hid (printLine_name (y := y) h)
    go_enter Tryd.func32, Tryd.ntmps32
    go_wp2_with fail
    refine (HN.out _).mono ?_
    rw [h]
    rintro e w' ⟨rfl, rfl⟩
    go_wp2
    go_ret2
    exact ⟨by rw [HP.out]; rfl, hbw⟩
  · cases h1 : isValue y
    · have HP := Lib.hid (printLine_value h h1)
      go_enter Tryd.func32, Tryd.ntmps32
      go_wp2_with fail
      refine (HN.out _).mono ?_
      rw [h]
      rintro e w' ⟨rfl, rfl⟩
      go_wp2_with fail
      refine (HV.out _).mono ?_
      rw [h1]
      rintro e w1 ⟨rfl, rfl⟩
      go_wp2
      go_ret2
      exact ⟨by rw [HP.out]; rfl, hbw⟩
    · have g1 := isName_size h
      have g2 := isValue_size h1
      have hsz : ∃ b : Bool, y.toList.isEmpty = b := ⟨_, rfl⟩
      obtain ⟨b, hb0⟩ := hsz
      have hb0' := hb0
      rw [empty_eq] at hb0'
      cases b
      · have HP := Lib.hid (printLine_long h h1 (by simpa using hb0'))
        clear hb0'
        go_enter Tryd.func32, Tryd.ntmps32
        go_wp2_with fail
        refine (HN.out _).mono ?_
        rw [h]
        rintro e w' ⟨rfl, rfl⟩
        go_wp2_with fail
        refine (HV.out _).mono ?_
        rw [h1]
        rintro e w1 ⟨rfl, rfl⟩
        go_wp2
        go_ret2
        exact ⟨by rw [HP.out]; rfl, hbw⟩
      · have HP := Lib.hid (printLine_short h h1 (by simpa using hb0'))
        clear hb0'
        go_enter Tryd.func32, Tryd.ntmps32
        go_wp2_with fail
        refine (HN.out _).mono ?_
        rw [h]
        rintro e w' ⟨rfl, rfl⟩
        go_wp2_with fail
        refine (HV.out _).mono ?_
        rw [h1]
        rintro e w1 ⟨rfl, rfl⟩
        go_wp2
        go_ret2
        exact ⟨by rw [HP.out]; rfl, hbw⟩

/-- Print, from a text already made on. -/
def printGo : List Fl → List UInt8 → List UInt8 × Int
  | [], acc => (acc, 0)
  | p :: l, acc => if (printLine p).2 = 0 then printGo l (acc ++ (printLine p).1.data.toList ++ [13, 10]) else ([], (printLine p).2)
def printAll (l : List Fl) : ByteArray × Int := if 100 < l.length then ((⟨#[]⟩ : ByteArray), 65) else (⟨(printGo l []).1.toArray⟩, (printGo l []).2)
theorem printGo_step {l : List Fl} {k : Nat} {p : Fl} (h : l[k]? = some p) (acc : List UInt8) : printGo (l.drop k) acc = if (printLine p).2 = 0 then printGo (l.drop (k + 1)) (acc ++ (printLine p).1.data.toList ++ [13, 10]) else ([], (printLine p).2) := by
  obtain ⟨hk, rfl⟩ := List.getElem?_eq_some_iff.1 h
  rw [List.drop_eq_getElem_cons hk]
  rfl

theorem builder_below {T e : TypeId} {B b : Nat} {bs : List Value} {w w' : World} (h : Lib.IsBuilderF T e B b bs w) (hb : Below w.heap.size w w') : Lib.IsBuilderF T e B b bs w' := by
  have one : ∀ p, Lib.BuilderAtF T e B b p bs w → Lib.BuilderAtF T e B b p bs w' := fun p hp => by
    have hlt := hp.lt
    obtain ⟨hB, v, hv, hown, hne⟩ := hp
    exact ⟨hB, v, (hb.block b hlt).trans hv, hown.kept (row := none) ⟨hb.os, hb.tape, hb.output, hb.size, fun k hk _ => hb.block k hk⟩ (by cases hv : v.ownBlock <;> simp), hne⟩
  exact h.elim (fun x => .inl (one _ x)) (fun x => .inr (one _ x))
theorem printGo_len : ∀ (l : List Fl) (acc : List UInt8), (printGo l acc).1.length ≤ acc.length + l.length * 8324
  | [], acc => by simp [printGo]
  | p :: l, acc => by
    unfold printGo
    by_cases h : (printLine p).2 = 0
    · rw [if_pos h]
      have h1 := printGo_len l (acc ++ (printLine p).1.data.toList ++ [13, 10])
      have h2 := printLine_size p
      rw [← size_eq] at h2
      simp only [List.length_append, List.length_cons, List.length_nil] at *
      omega
    · rw [if_neg h]
      simp

set_option maxRecDepth 20000 in
set_option maxHeartbeats 1000000 in
theorem Print_any (A : Option Addr) (c : Nat) (l : List Fl) (w : World) (hr : Row w A (flat l)) (hl : l.length ≤ 4398046511104) (hw : Wide l) (hg : Glob w) :
    Calls Tryd.prog 27 #[.slice A l.length c] w fun e w' => e = .returned (.tuple #[.string (printAll l).1, .int .i64 (printAll l).2]) ∧ Below w.heap.size w w' := by
  rcases Nat.lt_or_ge 100 l.length with hlong | hlong
  · have HP := Lib.hid (show printAll l = ((⟨#[]⟩ : ByteArray), 65) by unfold printAll; rw [if_pos hlong])
    go_enter Tryd.func27, Tryd.ntmps27
    go_wp2
    go_ret2
    exact ⟨by rw [HP.out]; rfl, Below.refl _ _⟩
  · have HP := Lib.hid (show printAll l = (⟨(printGo l []).1.toArray⟩, (printGo l []).2) by unfold printAll; rw [if_neg (by omega)])
    have hd : decide ((100 : Int) < (l.length : Int)) = false := by simp; omega
    go_enter Tryd.func27, Tryd.ntmps27
    go_wp2
    go_loopw [14] (fun i wr => ∃ (k : Nat) (acc : List UInt8), k ≤ l.length ∧ i = .int .i64 k ∧ Lib.IsBuilderF 104 5 w.heap.size w.heap.size (Lib.byteCells acc) wr ∧ Below w.heap.size w wr ∧ w.heap.size < wr.heap.size ∧ printGo (l.drop k) acc = printGo l [] ∧ acc.length ≤ k * 8324) (fun i _ => l.length - (RowKit.intOf i).toNat)
    case atStart => exact ⟨0, [], by omega, rfl, Lib.IsBuilderF.of (Lib.fresh_isBuilder 104 5 w), (Below.refl _ w).alloc (Nat.le_refl _) _, by simp, rfl, by simp⟩
    case round =>
      obtain ⟨k, acc, hk, rfl, hI, hbw, hsz, hacc, hlen⟩ := hrel
      by_cases hlt : k < l.length
      · obtain ⟨⟨x, y⟩, hxy⟩ := some_of_lt hlt
        obtain ⟨b, off, rfl, hb, h0, h1⟩ := (hr.below hbw).pair hxy
        obtain ⟨hwx, hwy⟩ := hw.at_ hxy
        rw [printGo_step hxy] at hacc
        have hps := printLine_size (x, y)
        have HL := Lib.hid (fun w hg => PrintLine_any x y w hwx hwy hg)
        have hg1 := ((hg.beyond hbw).alloc (.cells #[.string x, .string y] 24))
        generalize printLine (x, y) = r at hacc HL hps
        obtain ⟨s, ec⟩ := r
        have HA := Lib.hid hacc
        clear hacc hxy
        go_wp2_with fail
        refine (HL.out _ hg1).mono ?_
        rintro e w1 ⟨rfl, hb1⟩
        have hI1 := builder_below (hI.alloc (.cells #[.string x, .string y] 24)) hb1
        have hb1' : Below (wr.heap.size + 1) (wr.alloc (.cells #[.string x, .string y] 24)) w1 := by simpa using hb1
        have hbw1 : Below w.heap.size w w1 := hbw.trans ((below_box hb1').mono hbw.size)
        have hz1 : w.heap.size < w1.heap.size := by have := hb1'.size; simp at this; omega
        clear hb1 hb1' h0 h1 hI hg1
        by_cases he : ec = 0
        · subst he
          have hA := HA.out
          simp only [if_true] at hA
          have HA2 := Lib.hid hA
          clear hA HA
          have hsz : s.size ≤ 8322 := hps
          go_wp2_with fail
          refine (WriteString_k w.heap.size w.heap.size _ _ _ hI1 (by rw [Lib.byteCells_length, ByteArray.size_append]; have : (⟨#[13, 10]⟩ : ByteArray).size = 2 := rfl; omega) (by omega)).mono ?_
          rintro e w2 ⟨rfl, h2, hb2, _⟩
          have hbw2 : Below w.heap.size w w2 := hbw1.trans hb2
          have hz2 : w.heap.size < w2.heap.size := Nat.lt_of_lt_of_le hz1 hb2.size
          have h2' : Lib.IsBuilderF 104 5 w.heap.size w.heap.size (Lib.byteCells (acc ++ s.data.toList ++ [13, 10])) w2 := .inr (by
            have e : Lib.byteCells acc ++ Lib.strCells (s ++ ⟨#[13, 10]⟩) = Lib.byteCells (acc ++ s.data.toList ++ [13, 10]) := by
              rw [Lib.byteCells_append, Lib.byteCells_append, List.append_assoc]
              congr 1
              simp [Lib.strCells, Lib.byteCells]
            rw [← e]
            exact h2)
          clear h2 hb2 hI1
          go_wp2
          go_roundw
          case rel => exact ⟨k + 1, _, by omega, by go_num, h2', hbw2, hz2, HA2.out, by
            rw [← size_eq] at hsz
            simp only [List.length_append, List.length_cons, List.length_nil]
            omega⟩
          case measure => simp [RowKit.intOf]; omega
        · have hne : (ec != 0) = true := by simpa using he
          have hA := HA.out
          rw [if_neg he] at hA
          have HA2 := Lib.hid hA
          clear hA HA he
          go_wp2
          go_ret2
          exact ⟨by rw [HP.out, ← HA2.out]; rfl, hbw1⟩
      · obtain rfl : k = l.length := by omega
        rw [List.drop_length] at hacc
        have HA2 := Lib.hid (show printGo l [] = (acc, 0) from hacc.symm)
        clear hacc
        go_wp2_with fail
        refine (Tryd.Builder_String_any_k w.heap.size w.heap.size acc _ hI (by omega)).mono ?_
        rintro e w1 ⟨rfl, _, b1, _⟩
        go_wp2
        go_ret2
        exact ⟨by rw [HP.out, HA2.out]; rfl, hbw.trans b1⟩

set_option maxRecDepth 20000 in
set_option maxHeartbeats 1000000 in
theorem rPrint_any (A : Option Addr) (c : Nat) (l : List Fl) (w : World) (hr : Row w A (flat l)) (hl : l.length ≤ 4398046511104) (hw : Wide l) :
    Calls Tryd.prog 28 #[.slice A l.length c] w fun e w' => e = .returned (.tuple #[.string (printAll l).1, .int .i64 (printAll l).2]) ∧ Below w.heap.size w w' := by
  rcases Nat.lt_or_ge 100 l.length with hlong | hlong
  · have HP := Lib.hid (show printAll l = ((⟨#[]⟩ : ByteArray), 65) by unfold printAll; rw [if_pos hlong])
    go_enter Tryd.func28, Tryd.ntmps28
    go_wp2
    go_ret2
    exact ⟨by rw [HP.out]; rfl, Below.refl _ _⟩
  · have HP := Lib.hid (show printAll l = (⟨(printGo l []).1.toArray⟩, (printGo l []).2) by unfold printAll; rw [if_neg (by omega)])
    have hd : decide ((100 : Int) < (l.length : Int)) = false := by simp; omega
    go_enter Tryd.func28, Tryd.ntmps28
    go_wp2
    go_loopw [4, 14] (fun v i wr => ∃ (k : Nat) (acc : ByteArray), k ≤ l.length ∧ v = .string acc ∧ i = .int .i64 k ∧ Below w.heap.size w wr ∧ printGo (l.drop k) acc.data.toList = printGo l [] ∧ acc.size ≤ k * 8324) (fun _ i _ => l.length - (RowKit.intOf i).toNat)
    case atStart => exact ⟨0, ⟨#[]⟩, by omega, rfl, rfl, Below.refl _ w, rfl, by decide⟩
    case round =>
      obtain ⟨k, acc, hk, rfl, rfl, hbw, hacc, hlen⟩ := hrel
      by_cases hlt : k < l.length
      · obtain ⟨⟨x, y⟩, hxy⟩ := some_of_lt hlt
        obtain ⟨b, off, rfl, hb, h0, h1⟩ := (hr.below hbw).pair hxy
        obtain ⟨hwx, hwy⟩ := hw.at_ hxy
        rw [printGo_step hxy] at hacc
        have hps := printLine_size (x, y)
        have HL := Lib.hid (fun w => rPrintLine_any x y w hwx hwy)
        generalize printLine (x, y) = r at hacc HL hps
        obtain ⟨s, ec⟩ := r
        have HA := Lib.hid hacc
        clear hacc hxy
        go_wp2_with fail
        refine (HL.out _).mono ?_
        rintro e w1 ⟨rfl, hb1⟩
        have hb1' : Below (wr.heap.size + 1) (wr.alloc (.cells #[.string x, .string y] 28)) w1 := by simpa using hb1
        have hbw1 : Below w.heap.size w w1 := hbw.trans ((below_box hb1').mono hbw.size)
        clear hb1 hb1' h0 h1
        by_cases he : ec = 0
        · subst he
          have hA := HA.out
          simp only [if_true] at hA
          have HA2 := Lib.hid hA
          clear hA HA
          have hsz : s.size ≤ 8322 := hps
          go_wp2
          go_roundw
          case rel => exact ⟨k + 1, _, by omega, rfl, by go_num, hbw1, by
            rw [← HA2.out]; congr 1; simp, by
            have : (⟨#[13, 10]⟩ : ByteArray).size = 2 := rfl
            simp only [ByteArray.size_append]
            omega⟩
          case measure => simp [RowKit.intOf]; omega
        · have hne : (ec != 0) = true := by simpa using he
          have hA := HA.out
          rw [if_neg he] at hA
          have HA2 := Lib.hid hA
          clear hA HA he
          go_wp2
          go_ret2
          exact ⟨by rw [HP.out, ← HA2.out]; rfl, hbw1⟩
      · obtain rfl : k = l.length := by omega
        rw [List.drop_length] at hacc
        have HA2 := Lib.hid (show printGo l [] = (acc.data.toList, 0) from hacc.symm)
        clear hacc
        go_wp2
        go_ret2
        exact ⟨by rw [HP.out, HA2.out]; rfl, hbw⟩
end Go.Proofs.YtamagbdkcfmfmaaDoor
