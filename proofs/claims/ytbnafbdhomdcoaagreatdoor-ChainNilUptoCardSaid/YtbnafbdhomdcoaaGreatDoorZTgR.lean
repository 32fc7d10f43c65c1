/-
 TgR, without what this claim does not reach.
-/
import Derived.Test.YtbnafbdhomdcoaaGreatDoorZTgX
namespace Go.Proofs.YtbnafbdhomdcoaaGreatDoor.T5
open Go.RowKit Go.Shelf Go.Lib
def isLet (c:Int):Bool:=(decide (65≤c)&&decide (c≤90))||(decide (97≤c)&&decide (c≤122))
def isDgt (c:Int):Bool:=decide (48≤c)&&decide (c≤57)
theorem zsr {c:Int} (h:(65≤c∧c≤90)∨(97≤c∧c≤122)):isLet c=true:=by unfold isLet;simp;omega
theorem zo8 {c:Int} (h:c<65∨(90<c∧c<97)∨122<c):isLet c=false:=by unfold isLet;simp;omega
theorem zrW (c:Int):zeo c=(isLet c||isDgt c):=by
 unfold zeo isLet isDgt;rw[Bool.or_assoc,Bool.or_comm]
theorem rLetter_any (c:Int) (w:World):
  Calls Tryz.prog 171 #[.int .u8 c] w fun e w'=>e= .returned (.bool (isLet c))∧w=w':=by
 have hs:(65≤c∧c≤90)∨(97≤c∧c≤122)∨c<65∨(90<c∧c<97)∨122<c:=by omega
 rcases hs with ⟨g1,g2⟩|⟨g1,g2⟩|g1|⟨g1,g2⟩|g1
 all_goals
  go_enter Tryz.func171,Tryz.ntmps171
  go_wp2
  go_ret
  first|exact ⟨zd (zsr (by omega)).symm,rfl⟩|exact ⟨zd (zo8 (by omega)).symm,rfl⟩|exact ⟨zd (by rw[zo8 (by omega)];simp;omega),rfl⟩
theorem rDigit_any (c:Int) (w:World):
  Calls Tryz.prog 170 #[.int .u8 c] w fun e w'=>e= .returned (.bool (isDgt c))∧w=w':=by
 have hs:(48≤c∧c≤57)∨c<48∨57<c:=by omega
 rcases hs with ⟨g1,g2⟩|g1|g1
 all_goals
  go_enter Tryz.func170,Tryz.ntmps170
  go_wp2
  go_ret
  exact ⟨zd (by unfold isDgt;simp;try omega),rfl⟩
theorem zs1 {c:Int} (h:isDgt c=true):zbZ c=true:=by
 simp[isDgt] at h;exact zdR.2 (by rw[zuE (by omega)];omega)
theorem zqW {c:Int} (h:isDgt c=false):(zbZ c=true∧((65≤c∧c≤70)∨(97≤c∧c≤102)))∨(zbZ c=false∧(c<65∨(70<c∧c<97)∨102<c)):=by
 simp[isDgt] at h;unfold zbZ zaE;rw[if_neg (by omega)]
 by_cases a:97≤c∧c≤102
 ·rw[if_pos a];left;simp;omega
 ·rw[if_neg a]
  by_cases b:65≤c∧c≤70
  ·rw[if_pos b];left;simp;omega
  ·rw[if_neg b];right;simp;omega
set_option maxRecDepth 20000 in
theorem zk4 (c:Int) (w:World):
  Calls Tryz.prog 210 #[.int .u8 c] w fun e w'=>e= .returned (.bool (zbZ c))∧w=w':=by
 have HD:=hid (fun w=>rDigit_any c w)
 cases hd:isDgt c
 ·rw[hd] at HD
  rcases zqW hd with ⟨h,g⟩|⟨h,g⟩
  ·have HH:=hid h
   clear h hd
   rcases g with ⟨g1,g2⟩|⟨g1,g2⟩
   all_goals
    go_enter Tryz.func210,Tryz.ntmps210
    go_wp2_with fail
    refine (HD.out _).mono ?_;rintro e w' ⟨rfl,rfl⟩
    go_wp2
    go_ret
    exact ⟨zd HH.out.symm,rfl⟩
  ·have HH:=hid h
   clear h hd
   rcases g with g1|⟨g1,g2⟩|g1
   all_goals
    go_enter Tryz.func210,Tryz.ntmps210
    go_wp2_with fail
    refine (HD.out _).mono ?_;rintro e w' ⟨rfl,rfl⟩
    go_wp2
    go_ret
    first|exact ⟨zd HH.out.symm,rfl⟩|exact ⟨zd (by rw[HH.out];simp;omega),rfl⟩
 ·rw[hd] at HD
  have HH:=hid (zs1 hd);clear hd
  go_enter Tryz.func210,Tryz.ntmps210
  go_wp2_with fail
  refine (HD.out _).mono ?_;rintro e w' ⟨rfl,rfl⟩
  go_wp2
  go_ret
  exact ⟨zd HH.out.symm,rfl⟩
theorem zv4 {s:ByteArray} {c:Int} {k:Nat} (hk:k<s.size) (h:bt s k=c):inB s c=true:=by
 unfold inB;rw[zaB hk (by simp[h])]
 rfl
theorem zuB {s:ByteArray} {c:Int} (h:zbx (fun b=>!decide (b=c)) s s.size):inB s c=false:=by
 unfold inB;rw[zaU h]
 rfl
set_option maxRecDepth 20000 in
theorem zj0 (s:ByteArray) (c:Int) (w:World) (hs:s.size≤1099511627776):
  Calls Tryz.prog 209 #[.int .u8 c,.string s] w fun e w'=>e= .returned (.bool (inB s c))∧w=w':=by
 go_enter Tryz.func209,Tryz.ntmps209
 go_wp2
 go_loop [5] (fun i=>∃k:Nat,k≤s.size∧i= .int .i64 k∧zbx (fun b=>!decide (b=c)) s k) (fun i=>s.size - (RowKit.intOf i).toNat)
 case atStart=>exact ⟨0,by omega,rfl,zbx.zero _ _⟩
 case round=>
  obtain ⟨k,hk,rfl,hall⟩:=hrel
  by_cases hlt:k<s.size
  ·have hb:=@zE s k hlt
   by_cases hc:bt s k=c
   ·have hcc:(bt s k==c)=true:=by simpa using hc
    have HC:=hid (zv4 hlt hc);clear hc
    go_wp2
    go_ret
    exact ⟨zd HC.out.symm,rfl⟩
   ·have hcc:(bt s k==c)=false:=by simpa using hc
    have HA:=hid (hall.succ (P:=fun b=>!decide (b=c)) (by simpa using hc));clear hc hall
    go_wp2
    go_round
    case rel=>exact ⟨k+1,by omega,by go_num,HA.out⟩
    case measure=>simp[RowKit.intOf];omega
  ·obtain rfl:k=s.size:=by omega
   have HA:=hid (zuB hall);clear hall
   go_wp2
   go_ret
   exact ⟨zd HA.out.symm,rfl⟩
theorem zpl (c:Int) (w:World):
  Calls Tryz.prog 182 #[.int .u8 c] w fun e w'=>e= .returned (.bool (zpp c))∧w=w':=by
 have H:=hid (fun w=>zj0 ⟨#[33,36,38,39,40,41,42,43,44,59,61]⟩ c w (by decide))
 go_enter Tryz.func182,Tryz.ntmps182
 go_wp2_with fail
 refine (H.out _).mono ?_;rintro e w' ⟨rfl,rfl⟩
 go_wp2
 go_ret
 exact ⟨rfl,rfl⟩
set_option maxRecDepth 20000 in
theorem zhB (c:Int) (w:World):
  Calls Tryz.prog 177 #[.int .u8 c] w fun e w'=>e= .returned (.bool (zdc c))∧w=w':=by
 have HL:=hid (fun w=>rLetter_any c w);have HD:=hid (fun w=>rDigit_any c w);have H:=hid (fun w=>zj0 ⟨#[45,46,95,126]⟩ c w (by decide));have HU:=hid (show zdc c=((isLet c||isDgt c)||inB ⟨#[45,46,95,126]⟩ c) from by rw[←zrW];rfl);generalize inB ⟨#[45,46,95,126]⟩ c=z at *
 cases hl:isLet c
 ·cases hd:isDgt c
  ·rw[hl] at HL HU
   rw[hd] at HD HU;clear hl hd
   go_enter Tryz.func177,Tryz.ntmps177
   go_wp2_with fail
   refine (HL.out _).mono ?_;rintro e w' ⟨rfl,rfl⟩
   go_wp2_with fail
   refine (HD.out _).mono ?_;rintro e w' ⟨rfl,rfl⟩
   go_wp2_with fail
   refine (H.out _).mono ?_;rintro e w' ⟨rfl,rfl⟩
   go_wp2
   go_ret
   exact ⟨zd (by rw[HU.out];rfl),rfl⟩
  ·rw[hl] at HL HU
   rw[hd] at HD HU;clear hl hd
   go_enter Tryz.func177,Tryz.ntmps177
   go_wp2_with fail
   refine (HL.out _).mono ?_;rintro e w' ⟨rfl,rfl⟩
   go_wp2_with fail
   refine (HD.out _).mono ?_;rintro e w' ⟨rfl,rfl⟩
   go_wp2
   go_ret
   exact ⟨zd (by rw[HU.out];rfl),rfl⟩
 ·rw[hl] at HL HU
  clear hl HD
  go_enter Tryz.func177,Tryz.ntmps177
  go_wp2_with fail
  refine (HL.out _).mono ?_;rintro e w' ⟨rfl,rfl⟩
  go_wp2
  go_ret
  exact ⟨zd (by rw[HU.out];rfl),rfl⟩
theorem zr2 {s:ByteArray} {i:Nat} (h:zbZ (bt s (i+1))=false):tri s i=false:=zm9 (by have:=mt zdR.2 (by rw[h];simp);omega)
theorem zsC {s:ByteArray} {i:Nat} (h:zbZ (bt s (i+2))=false):tri s i=false:=znd (by have:=mt zdR.2 (by rw[h];simp);omega)
set_option maxRecDepth 20000 in
set_option maxHeartbeats 1000000 in
theorem zgK (s:ByteArray) (i:Nat) (w:World) (hs:s.size≤1099511627776) (hi:i≤s.size):
  Calls Tryz.prog 174 #[.string s,.int .i64 i] w fun e w'=>e= .returned (.bool (tri s i))∧w=w':=by
 by_cases h2:i+2<s.size
 ·have hb:=@zE s i (by omega)
  by_cases h37:bt s i=37
  ·have heq:(bt s i==37)=true:=by rw[h37];rfl
   have hb1:=@zE s (i+1) (by omega);have hb2:=@zE s (i+2) (by omega);have i1:((i:Int)+1).toNat=i+1:=by omega
   have i2:((i:Int)+2).toNat=i+2:=by omega
   have l1:(i:Int)+1<(s.size:Int):=by omega
   have l2:(i:Int)+2<(s.size:Int):=by omega
   have H1:=hid (fun w=>zk4 (bt s (i+1)) w);have H2:=hid (fun w=>zk4 (bt s (i+2)) w)
   cases g1:zbZ (bt s (i+1))
   ·have HT:=hid (zr2 g1)
    rw[g1] at H1;clear h37 g1
    go_enter Tryz.func174,Tryz.ntmps174
    go_wp2_with fail
    refine (H1.out _).mono ?_;rintro e w' ⟨rfl,rfl⟩
    go_wp2
    go_ret
    exact ⟨zd HT.out.symm,rfl⟩
   ·cases g2:zbZ (bt s (i+2))
    ·have HT:=hid (zsC g2)
     rw[g1] at H1;rw[g2] at H2;clear h37 g1 g2
     go_enter Tryz.func174,Tryz.ntmps174
     go_wp2_with fail
     refine (H1.out _).mono ?_;rintro e w' ⟨rfl,rfl⟩
     go_wp2_with fail
     refine (H2.out _).mono ?_;rintro e w' ⟨rfl,rfl⟩
     go_wp2
     go_ret
     exact ⟨zd HT.out.symm,rfl⟩
    ·have HT:=hid (zbB.2 ⟨h2,h37,zdR.1 g1,zdR.1 g2⟩)
     rw[g1] at H1;rw[g2] at H2;clear h37 g1 g2
     go_enter Tryz.func174,Tryz.ntmps174
     go_wp2_with fail
     refine (H1.out _).mono ?_;rintro e w' ⟨rfl,rfl⟩
     go_wp2_with fail
     refine (H2.out _).mono ?_;rintro e w' ⟨rfl,rfl⟩
     go_wp2
     go_ret
     exact ⟨zd HT.out.symm,rfl⟩
  ·have heq:(bt s i==37)=false:=by simpa using h37
   have HT:=hid (zhc h37);clear h37
   go_enter Tryz.func174,Tryz.ntmps174
   go_wp2
   go_ret
   exact ⟨zd HT.out.symm,rfl⟩
 ·have HT:=hid (zg1 (s:=s) (i:=i) (by omega))
  have hd:decide ((i:Int)+2<(s.size:Int))=false:=decide_eq_false (by omega)
  go_enter Tryz.func174,Tryz.ntmps174
  go_wp2
  go_ret
  exact ⟨zd HT.out.symm,rfl⟩
theorem zkn (c:Int) (w:World) (h:0≤zaE c) (h0:0≤c) (h1:c<256):
  Calls Tryz.prog 214 #[.int .u8 c] w fun e w'=>e= .returned (.int .i64 (zaE c))∧w=w':=by
 have HD:=hid (fun w=>rDigit_any c w)
 rcases zkQ c h0 h1 with ⟨g1,g2,e⟩|⟨g1,g2,e⟩|⟨g1,g2,e⟩|⟨_,e⟩
 ·have hd:isDgt c=true:=by simp[isDgt];omega
  rw[hd] at HD;have HE:=hid e;clear h hd e
  go_enter Tryz.func214,Tryz.ntmps214
  go_wp2_with fail
  refine (HD.out _).mono ?_;rintro e w' ⟨rfl,rfl⟩
  go_wp2
  go_ret
  exact ⟨zp HE.out.symm,rfl⟩
 ·have hd:isDgt c=false:=by simp[isDgt];omega
  rw[hd] at HD;have HE:=hid e;clear h hd e
  go_enter Tryz.func214,Tryz.ntmps214
  go_wp2_with fail
  refine (HD.out _).mono ?_;rintro e w' ⟨rfl,rfl⟩
  go_wp2
  go_ret
  exact ⟨zp HE.out.symm,rfl⟩
 ·have hd:isDgt c=false:=by simp[isDgt];omega
  rw[hd] at HD;have HE:=hid e;clear h hd e
  go_enter Tryz.func214,Tryz.ntmps214
  go_wp2_with fail
  refine (HD.out _).mono ?_;rintro e w' ⟨rfl,rfl⟩
  go_wp2
  go_ret
  exact ⟨zp HE.out.symm,rfl⟩
 ·omega
end Go.Proofs.YtbnafbdhomdcoaaGreatDoor.T5
