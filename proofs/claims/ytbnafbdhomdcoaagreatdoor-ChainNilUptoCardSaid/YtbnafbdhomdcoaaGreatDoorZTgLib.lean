/-
 TgLib, without what this claim does not reach.
-/
import Derived.Test.YtbnafbdhomdcoaaGreatDoorZTgEn
import Derived.Test.YtbnafbdhomdcoaaGreatDoorZm1
import Derived.Lib.AppendIntMem
namespace Go.Proofs.YtbnafbdhomdcoaaGreatDoor.T5
open Go.RowKit Go.Shelf Go.Lib
def zfn (r:ByteArray×ByteArray×Bool):Value:=.tuple #[.string r.1,.string r.2.1,.bool r.2.2]
theorem zjY (s:ByteArray) (c:UInt8) (w:World) (hs:s.size≤4194304) (hg:Glob w):
  Calls Tryz.prog 165 #[.string s,.string ⟨#[c]⟩] w fun e w'=>e= .returned (zfn (zbI s c.toNat))∧∃q:Nat,w'=w.drewN q:=by
 obtain ⟨m,hm⟩:=hg.maxl;refine (Tryz.strings_Cut s ⟨#[c]⟩ m w (by omega) hm).mono fun e w' ⟨he,hw⟩=>⟨?_,hw⟩
 obtain ⟨h1,h2,h3⟩:=zww s c;rw[he];unfold zfn;rw[←h1,←h2,←h3]
def ziJ (s:ByteArray):Value:=if gap s<s.size then .tuple #[.string (s.extract 0 (gap s)),.string (s.extract (gap s+2) s.size),.bool true] else .tuple #[.string s,.string ⟨#[]⟩,.bool false]
theorem zqw (s:ByteArray) (w:World) (hs:s.size≤4194304) (hg:Glob w):
  Calls Tryz.prog 165 #[.string s,.string ⟨#[58,58]⟩] w fun e w'=>e= .returned (ziJ s)∧∃q:Nat,w'=w.drewN q:=by
 obtain ⟨m,hm⟩:=hg.maxl;refine (Tryz.strings_Cut s ⟨#[58,58]⟩ m w (by omega) hm).mono fun e w' ⟨he,hw⟩=>⟨?_,hw⟩
 rw[he];unfold ziJ
 rcases zu6 s with ⟨h1,h2⟩|⟨k,h1,h2,h3⟩
 ·obtain ⟨g1,g2,g3⟩:=Lib.cutB_miss s ⟨#[58,58]⟩ h2
  rw[if_neg (by omega),g1,g2,g3]
  rfl
 ·obtain ⟨g1,g2,g3⟩:=Lib.cutB_hit s ⟨#[58,58]⟩ k h3
  rw[h1,if_pos (by omega),g1,g2,g3]
  rfl
theorem zmT (s:ByteArray) (c:UInt8) (w:World) (hs:s.size≤4194304) (hg:Glob w):
  Calls Tryz.prog 233 #[.string s,.string ⟨#[c]⟩] w fun e w'=>e= .returned (.slice (some ⟨w.heap.size,0,none⟩) (zG s c.toNat).length (zG s c.toNat).length)∧w'=w.alloc (.cells ((zG s c.toNat).map Value.string).toArray 9):=by
 obtain ⟨m,hm⟩:=hg.maxl;obtain ⟨h1,h2⟩:=zl0 c s.size s (Nat.le_refl _);refine (Tryz.strings_Split s ⟨#[c]⟩ m w (by omega) hm (by show 1≤1;omega)).mono fun e w' ⟨he,hw⟩=>⟨?_,?_⟩
 ·rw[he,h2]
 ·rw[hw,h1]
theorem zvJ (s:ByteArray) (c:UInt8) (w:World):
  Calls Tryz.prog 234 #[.string s,.string ⟨#[c]⟩] w fun e w'=>e= .returned (.bool (inB s c.toNat))∧w=w':=by
 refine (Tryz.strings_Contains_one s c w).mono fun e w' ⟨he,hw⟩=>⟨?_,hw.symm⟩
 rw[he];have h:=zda s (c.toNat:Int) (by omega) (by have:=c.toNat_lt;omega);rw[show ((c.toNat:Int)).toNat.toUInt8=c by simp] at h;rw[h];have:=zkv s c.toNat
 cases e:inB s c.toNat
 ·rw[this.2 e];rfl
 ·have:=this.1 e
  exact zd (decide_eq_true this)
def heads (s:ByteArray) (c:Int):Bool:=decide (0<s.size)&&decide (bt s 0=c)
def ends (s:ByteArray) (c:Int):Bool:=decide (0<s.size)&&decide (bt s (s.size - 1)=c)
theorem zs6 {s:ByteArray} (h:0<s.size):∃(x:UInt8) (r:List UInt8),s.data.toList=x::r∧bt s 0=(x.toNat:Int):=by
 rcases e:s.data.toList with _|⟨x,r⟩
 ·rw[←size_eq,e] at h;simp at h
 ·exact ⟨x,r,rfl,by unfold bt;rw[e];rfl⟩
theorem zok (c x:UInt8):(c==x)=decide ((x.toNat:Int)=(c.toNat:Int)):=by
 rw[Bool.eq_iff_iff];simp only[beq_iff_eq,decide_eq_true_eq]
 constructor
 ·rintro rfl;rfl
 ·intro h
  apply UInt8.toNat_inj.1
  omega
theorem zhF (s:ByteArray) (c:UInt8):Lib.hasPrefix s.data.toList [c]=heads s c.toNat:=by
 unfold Lib.hasPrefix heads
 by_cases h:0<s.size
 ·obtain ⟨x,r,e,hb⟩:=zs6 h
  rw[e,hb,decide_eq_true h,Bool.true_and];simp only[List.isPrefixOf,Bool.and_true];exact zok c x
 ·have:s.data.toList=[]:=List.eq_nil_of_length_eq_zero (by rw[size_eq];omega)
  rw[this,decide_eq_false h]
  rfl
theorem zqN (s:ByteArray) (c:UInt8):Lib.hasSuffix s.data.toList [c]=ends s c.toNat:=by
 unfold Lib.hasSuffix ends
 by_cases h:0<s.size
 ·have hne:s.data.toList≠[]:=by
   intro e;rw[←size_eq,e] at h;simp at h
  have e:=List.dropLast_concat_getLast hne;have hb:bt s (s.size - 1)=((s.data.toList.getLast hne).toNat:Int):=by
   unfold bt;rw[List.getLast_eq_getElem,←size_eq,List.getD_eq_getElem?_getD,List.getElem?_eq_getElem]
   rfl
  rw[decide_eq_true h,Bool.true_and,hb];generalize s.data.toList.getLast hne=x at *;generalize s.data.toList.dropLast=l at *;rw[←e];unfold List.isSuffixOf;rw[List.reverse_append];simp only[List.reverse_cons,List.reverse_nil,List.nil_append,List.cons_append,List.isPrefixOf,Bool.and_true];exact zok c x
 ·have:s.data.toList=[]:=List.eq_nil_of_length_eq_zero (by rw[size_eq];omega)
  rw[this,decide_eq_false h]
  rfl
theorem zhW (s:ByteArray) (c:UInt8) (w:World):
  Calls Tryz.prog 163 #[.string s,.string ⟨#[c]⟩] w fun e w'=>e= .returned (.bool (heads s c.toNat))∧w=w':=
 (Tryz.strings_HasPrefix s ⟨#[c]⟩ w).mono fun _ _ ⟨he,hw⟩=>⟨by rw[he,←zhF],hw.symm⟩
theorem Suffix_any (s:ByteArray) (c:UInt8) (w:World) (hs:s.size≤4194304):
  Calls Tryz.prog 98 #[.string s,.string ⟨#[c]⟩] w fun e w'=>e= .returned (.bool (ends s c.toNat))∧w=w':=
 (Tryz.strings_HasSuffix s ⟨#[c]⟩ w (by omega)).mono fun _ _ ⟨he,hw⟩=>⟨by rw[he,←zqN],hw.symm⟩
theorem zgS (s:ByteArray) (c:UInt8) (w:World):
  Calls Tryz.prog 164 #[.string s,.string ⟨#[c]⟩] w fun e w'=>e= .returned (.string (if heads s c.toNat=true then s.extract 1 s.size else s))∧w=w':=by
 refine (Tryz.strings_TrimPrefix s ⟨#[c]⟩ w).mono fun e w' ⟨he,hw⟩=>⟨?_,hw.symm⟩
 rw[he];have h:=zhF s c;show Ending.returned (.string ⟨(if Lib.hasPrefix s.data.toList [c]=true then s.data.toList.drop 1 else s.data.toList).toArray⟩)=_;rw[h]
 cases heads s c.toNat
 ·exact zbz (zV rfl)
 ·refine zbz (zV ?_)
  rw[if_pos rfl,if_pos rfl,zev]
theorem zfV (n:Int) (w:World) (h0:-9223372036854775808≤n) (h1:n≤9223372036854775807) (hg:Glob w):
  Calls Tryz.prog 39 #[.int .i64 n] w fun e w'=>e= .returned (.string (za3 n))∧Below w.heap.size w w':=by
 have HI:Calls Tryz.prog 79 #[.int .i64 n] w fun e w'=>e= .returned (.string (za3 n))∧Below w.heap.size w w':=(Tryz.strconv_Itoa n h0 h1 w hg.pow).mono fun e w' ⟨he,k,os,hw⟩=>⟨he,by rw[hw];exact Lib.below_grow _ _ (Nat.le_refl _) k os⟩
 have HI:=hid HI
 go_enter Tryz.func39,Tryz.ntmps39
 go_wp2_with fail
 refine HI.out.mono ?_;rintro e w' ⟨rfl,hb⟩
 go_wp2
 go_ret
 exact ⟨rfl,hb⟩
set_option maxRecDepth 20000 in
set_option maxHeartbeats 1000000 in
theorem zii (s:ByteArray) (c:Int) (w:World) (hs:s.size≤1099511627776):
  Calls Tryz.prog 131 #[.string s,.int .u8 c] w fun e w'=>e= .returned (zfn (zbI s c))∧∃q:Nat,w'=w.drewN q:=by
 unfold zfn
 go_enter Tryz.func131,Tryz.ntmps131
 go_wp2
 go_loop [7] (fun i=>∃k:Nat,k≤s.size∧i= .int .i64 k∧zgr (fun j=>!decide (bt s j=c)) 0 k) (fun i=>s.size - (RowKit.intOf i).toNat)
 case atStart=>exact ⟨0,by omega,rfl,zgr.zero _ _⟩
 case round=>
  obtain ⟨k,hk,rfl,hgood⟩:=hrel
  by_cases hlt:k<s.size
  ·have hb:=@zE s k hlt
   have hk0:(0:Int)≤(k:Int):=by omega
   have hk1:(k:Int)<(s.size:Int):=by omega
   have hk2:(k:Int)≤(s.size:Int):=by omega
   have hk3:(k:Int)+1≤(s.size:Int):=by omega
   have hk4:((k:Int)+1).toNat=k+1:=by omega
   by_cases hc:bt s k=c
   ·have hcc:(bt s k==c)=true:=by simpa using hc
    have HC:=hid (zcY hlt (place_at hlt hc (fun j hj=>by have:=hgood j (by omega) hj;simpa using this)));clear hc hgood
    go_wp2_with fail
    go_quiet (fail)
    go_wp2
    go_ret3
    exact ⟨by rw[HC.out];rfl,_,rfl⟩
   ·have hcc:(bt s k==c)=false:=by simpa using hc
    have HG:=hid (hgood.succ (by simpa using hc));clear hc hgood
    go_wp2
    go_round
    case rel=>exact ⟨k+1,by omega,by go_num,HG.out⟩
    case measure=>simp[RowKit.intOf];omega
  ·obtain rfl:k=s.size:=by omega
   have HC:=hid (zco (place_none (s:=s) (c:=c) (fun j hj=>by have:=hgood j (by omega) hj;simpa using this)));clear hgood
   go_wp2
   go_ret3
   exact ⟨by rw[HC.out];rfl,0,rfl⟩
end Go.Proofs.YtbnafbdhomdcoaaGreatDoor.T5
