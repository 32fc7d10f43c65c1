/-
 TgO, without what this claim does not reach.
-/
import Derived.Test.YtbnafbdhomdcoaaGreatDoorZm0
import Derived.Test.YtbnafbdhomdcoaaGreatDoorZShelf
import Derived.WalkLawsBesides
import Derived.WalkSpells
import Derived.Outline
import Derived.Lib.Hide
import Derived.Lib.ItoaNum
import Derived.Lib.LaidTab
namespace Go.Proofs.YtbnafbdhomdcoaaGreatDoor.T5
open Go.RowKit Go.Shelf Go.Lib
theorem zuI:Tryz.prog.globalNamed "internal/strconv.uint64pow10" =some 2:=by kernel_rfl
theorem ziY {P:Program} {w w':World} {name:String} {k:IntKind} {zs:List Int} {g B:Nat} (h:Lib.TabIs P w name k zs) (hg:P.globalNamed name=some g) (hb:Below B w w') (hB:g<B):Lib.TabIs P w' name k zs:=by
 unfold Lib.TabIs World.var? at *;rw[hg] at h ⊢;simp only[Option.bind_some] at h ⊢;rw[hb.block g hB];exact h
structure Glob (w:World):Prop where
 size:3≤w.heap.size
 maxl:∃m,w.cell? ⟨1,0,none⟩=some (.int .i64 m)
 pow:Lib.TabIs Tryz.prog w "internal/strconv.uint64pow10" .u64 Lib.pow10Tab
theorem Glob.below {B:Nat} {w w':World} (h:Glob w) (hb:Below B w w') (hB:3≤B):Glob w':=
 ⟨Nat.le_trans h.size hb.size,by rw[hb.cell (p:=⟨1,0,none⟩) (show 1<B by omega)];exact h.maxl,ziY h.pow zuI hb (show 2<B by omega)⟩
theorem Glob.beyond {w w':World} (h:Glob w) (hb:Below w.heap.size w w'):Glob w':=h.below hb h.size
theorem Glob.alloc {w:World} (h:Glob w) (o:Obj):Glob (w.alloc o):=h.beyond ((Below.refl w.heap.size w).alloc (Nat.le_refl _) o)
theorem ze {B:Nat} {w w':World} (h:Below B w w') (n:Nat):Below B w (w'.drewN n):=⟨h.os,h.tape,h.output,h.size,h.block⟩
theorem Glob.drewN {w:World} (h:Glob w) (n:Nat):Glob (w.drewN n):=h.beyond (ze (Below.refl _ _) n)
theorem zd {a b:Bool} (h:a=b):Ending.returned (.bool a)= .returned (.bool b):=by rw[h]
theorem zp {k:IntKind} {a b:Int} (h:a=b):Ending.returned (.int k a)= .returned (.int k b):=by rw[h]
theorem zbz {a b:ByteArray} (h:a=b):Ending.returned (.string a)= .returned (.string b):=by rw[h]
theorem zdW (w:World) (s:ByteArray):(convert 9 80 (.string s)).run Tryz.prog w= .ok (.slice (some ⟨w.heap.size,0,none⟩) s.size (grownCap w s.size 0 5)) (Lib.bytesWorld w 5 s):=
 Lib.run_convert_string_bytes w _ _ _ s Tryz.underlying9 Tryz.underlying80 Tryz.underlying5
set_option maxRecDepth 20000 in
theorem zdA (s:ByteArray) (w:World) (hs:s.size≤maxLen):
  Calls Tryz.prog 157 #[.string s] w fun e w'=>e= .returned (.string (zaP s))∧Below w.heap.size w w':=by
 unfold maxLen at hs;have hcv:=zdW w s;have hbw:=Lib.bytesWorld_size w 5 s;have hba:=zbM.of_conv w 5 s;have hbl:=zeW w 5 s;generalize Lib.bytesWorld w 5 s=w1 at hcv hbw hba hbl;generalize grownCap w s.size 0 5=cap at hcv;have HW:=hid hbw;clear hbw
 go_enter Tryz.func157,Tryz.ntmps157
 go_wp2
 go_loopw [10] (fun i wr=>∃k:Nat,k≤s.size∧i= .int .i64 k∧zbM wr w.heap.size (zdP zdO s.data.toList k)∧Below w.heap.size w wr∧w.heap.size<wr.heap.size) (fun i _=>s.size - (RowKit.intOf i).toNat)
 case atStart=>exact ⟨0,by omega,rfl,by rw[zeP];exact hba,hbl,by have:=HW.out;omega⟩
 case round=>
  obtain ⟨k,hk,rfl,hb,hbl',hlt'⟩:=hrel
  by_cases hlt:k<s.size
  ·have hkl:k<s.data.toList.length:=by rw[size_eq];exact hlt
   have hc:=hb.cell k (by rw[zU];exact hkl);have hf:=hb.free k (by rw[zU];exact hkl);rw[zeA zdO _ _ hkl] at hc;change wr.cell? _=some (.int .u8 (bt s k)) at hc
   by_cases hu:65≤bt s k∧bt s k≤90
   ·obtain ⟨hu1,hu2⟩:=hu
    have h1:=zdQ s k
    go_wp2
    go_roundw
    case rel=>exact ⟨k+1,by omega,by go_num,by rw[zeN zdO _ _ hkl];exact hb.set (by rw[zU];exact hkl) _ _ (by unfold bt;rw[ziB ⟨hu1,hu2⟩];omega),hbl'.setCell (Nat.le_refl _) _,by simpa using hlt'⟩
    case measure=>simp[RowKit.intOf];omega
   ·have hsame:=zeS zdO _ _ hkl (zgO hu)
    have HS:=hid hsame;clear hsame;have hu':bt s k<65∨90<bt s k:=by omega
    clear hu
    rcases hu' with hu|hu
    all_goals
     go_wp2
     go_roundw
     case rel=>exact ⟨k+1,by omega,by go_num,by rw[HS.out];exact hb,hbl',hlt'⟩
     case measure=>simp[RowKit.intOf];omega
  ·obtain rfl:k=s.size:=by omega
   have hcv:=hb.conv Tryz.underlying80 Tryz.underlying5 Tryz.underlying9 cap;rw[zU,size_eq,←size_eq s,zfC,size_eq] at hcv
   go_wp2
   go_ret
   exact ⟨rfl,hbl'⟩
theorem za2 (s:ByteArray) (c:Int) (w:World) (h0:0≤c) (h1:c<256):
  Calls Tryz.prog 101 #[.string s,.int .u8 c] w fun e w'=>e= .returned (.int .i64 (za7 s c))∧w=w':=
 (Tryz.strings_IndexByte s c w).mono fun _ _ ⟨he,hw⟩=>⟨by rw[he,zda s c h0 h1],hw.symm⟩
theorem zfz (a b:ByteArray) (w:World) (ha:a.size≤maxLen) (hb:b.size≤maxLen):
  Calls Tryz.prog 105 #[.string a,.string b] w fun e w'=>e= .returned (.bool (zbu a b))∧Below w.heap.size w w':=by
 go_enter Tryz.func105,Tryz.ntmps105
 go_wp2_with fail
 refine (zdA a _ ha).mono ?_;rintro e w1 ⟨rfl,hb1⟩
 go_wp2_with fail
 refine (zdA b _ hb).mono ?_;rintro e w2 ⟨rfl,hb2⟩
 go_wp2
 go_ret
 exact ⟨zd (by rw[zbu,←zaj]),hb1.trans (hb2.mono hb1.size)⟩
end Go.Proofs.YtbnafbdhomdcoaaGreatDoor.T5
