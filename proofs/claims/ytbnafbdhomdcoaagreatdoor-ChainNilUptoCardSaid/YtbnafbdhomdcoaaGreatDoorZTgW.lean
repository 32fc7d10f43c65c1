/-
 TgW, without what this claim does not reach.
-/
import Derived.Test.YtbnafbdhomdcoaaGreatDoorZTgO
import Derived.Test.YtbnafbdhomdcoaaGreatDoorZTgP
namespace Go.Proofs.YtbnafbdhomdcoaaGreatDoor.T5
open Go.RowKit Go.Shelf Go.Lib
theorem zsW {c:Int} (h:zeo c=true):(48≤c∧c≤57)∨(65≤c∧c≤90)∨(97≤c∧c≤122):=by simp[zeo] at h;omega
theorem zuU {c:Int} (h:zeo c=false):c<48∨(57<c∧c<65)∨(90<c∧c<97)∨122<c:=by simp[zeo] at h;omega
theorem zoC {c:Int} (h:zeo c=true):zdc c=true:=by unfold zdc;rw[h];rfl
theorem ztx {c:Int} (h:zeo c=false):zdc c=inB ztO c:=by unfold zdc;rw[h];rfl
theorem zqk {c:Int} (hu:zdc c=false) (hs:zpp c=false):((c==58)=true∧zdg c=4)∨((c==58)=false∧(c==64)=true∧zdg c=4)∨((c==58)=false∧(c==64)=false∧(c==47)=true∧zdg c=8)∨((c==58)=false∧(c==64)=false∧(c==47)=false∧(c==63)=true∧zdg c=16)∨((c==58)=false∧(c==64)=false∧(c==47)=false∧(c==63)=false∧zdg c=0):=by
 unfold zdg;rw[if_neg (by rw[hu];simp),if_neg (by rw[hs];simp)]
 by_cases h1:c=58
 ·rw[if_pos (.inl h1)];exact .inl ⟨beq_iff_eq.2 h1,rfl⟩
 ·have g1:=beq_eq_false_iff_ne.2 h1
  by_cases h2:c=64
  ·rw[if_pos (.inr h2)];exact .inr (.inl ⟨g1,beq_iff_eq.2 h2,rfl⟩)
  ·have g2:=beq_eq_false_iff_ne.2 h2
   rw[if_neg (by omega)]
   by_cases h3:c=47
   ·rw[if_pos h3];exact .inr (.inr (.inl ⟨g1,g2,beq_iff_eq.2 h3,rfl⟩))
   ·have g3:=beq_eq_false_iff_ne.2 h3
    rw[if_neg h3]
    by_cases h4:c=63
    ·rw[if_pos h4];exact .inr (.inr (.inr (.inl ⟨g1,g2,g3,beq_iff_eq.2 h4,rfl⟩)))
    ·rw[if_neg h4];exact .inr (.inr (.inr (.inr ⟨g1,g2,g3,beq_eq_false_iff_ne.2 h4,rfl⟩)))
set_option maxRecDepth 20000 in
set_option maxHeartbeats 1000000 in
theorem zmk (c:Int) (w:World) (h0:0≤c) (h1:c<256):
  Calls Tryz.prog 145 #[.int .u8 c] w fun e w'=>e= .returned (.int .i64 (zdg c))∧w=w':=by
 cases ha:zeo c
 ·have HD:=hid (fun w=>za2 ⟨#[45,46,95,126]⟩ c w h0 h1)
  have HS:=hid (fun w=>za2 ⟨#[33,36,38,39,40,41,42,43,44,59,61]⟩ c w h0 h1);have hd:=zkv ⟨#[45,46,95,126]⟩ c;have hs:=zkv ⟨#[33,36,38,39,40,41,42,43,44,59,61]⟩ c;have hu:=ztx ha;have hgap:=zuU ha;change zdc c=inB ⟨#[45,46,95,126]⟩ c at hu
  cases hud:inB ⟨#[45,46,95,126]⟩ c
  ·rw[hud] at hu
   have hd:=hd.2 hud
   cases hsd:inB ⟨#[33,36,38,39,40,41,42,43,44,59,61]⟩ c
   ·have hs:=hs.2 hsd
    have hcl:=zqk hu hsd;rw[hd] at HD;rw[hs] at HS;clear hd hs hu hud hsd ha
    rcases hcl with ⟨t1,hc⟩|⟨t1,t2,hc⟩|⟨t1,t2,t3,hc⟩|⟨t1,t2,t3,t4,hc⟩|⟨t1,t2,t3,t4,hc⟩
    all_goals
     have HC:=hid hc;clear hc
     rcases hgap with g1|⟨g1,g2⟩|⟨g1,g2⟩|g1
    all_goals
     go_enter Tryz.func145,Tryz.ntmps145
     go_wp2_with fail
     refine (HD.out _).mono ?_;rintro e w' ⟨rfl,rfl⟩
     go_wp2_with fail
     refine (HS.out _).mono ?_;rintro e w' ⟨rfl,rfl⟩
     go_wp2
     go_ret
     exact ⟨zp HC.out.symm,rfl⟩
   ·have hs:=hs.1 hsd
    have HC:=hid (zso hu hsd);rw[hd] at HD;clear hd hu hud hsd ha;generalize za7 ⟨#[33,36,38,39,40,41,42,43,44,59,61]⟩ c=q at *
    rcases hgap with g1|⟨g1,g2⟩|⟨g1,g2⟩|g1
    all_goals
     go_enter Tryz.func145,Tryz.ntmps145
     go_wp2_with fail
     refine (HD.out _).mono ?_;rintro e w' ⟨rfl,rfl⟩
     go_wp2_with fail
     refine (HS.out _).mono ?_;rintro e w' ⟨rfl,rfl⟩
     go_wp2
     go_ret
     exact ⟨zp HC.out.symm,rfl⟩
  ·rw[hud] at hu
   have hd:=hd.1 hud;have HC:=hid (zjk hu);clear hs HS hu hud ha;generalize za7 ⟨#[45,46,95,126]⟩ c=q at *
   rcases hgap with g1|⟨g1,g2⟩|⟨g1,g2⟩|g1
   all_goals
    go_enter Tryz.func145,Tryz.ntmps145
    go_wp2_with fail
    refine (HD.out _).mono ?_;rintro e w' ⟨rfl,rfl⟩
    go_wp2
    go_ret
    exact ⟨zp HC.out.symm,rfl⟩
 ·have HC:=hid (zjk (zoC ha))
  have hr:=zsW ha;clear ha
  rcases hr with ⟨g1,g2⟩|⟨g1,g2⟩|⟨g1,g2⟩
  all_goals
   go_enter Tryz.func145,Tryz.ntmps145
   go_wp2
   go_ret
   exact ⟨zp HC.out.symm,rfl⟩
theorem zkQ (c:Int) (h0:0≤c) (h1:c<256):(48≤c∧c≤57∧zaE c=c - 48)∨(97≤c∧c≤102∧zaE c=c - 97+10)∨(65≤c∧c≤70∧zaE c=c - 65+10)∨(((c<48)∨(57<c∧c<65)∨(70<c∧c<97)∨102<c)∧zaE c=-1):=by
 unfold zaE
 by_cases a:48≤c∧c≤57
 ·rw[if_pos a];exact .inl ⟨a.1,a.2,rfl⟩
 ·rw[if_neg a]
  by_cases b:97≤c∧c≤102
  ·rw[if_pos b];exact .inr (.inl ⟨b.1,b.2,by omega⟩)
  ·rw[if_neg b]
   by_cases d:65≤c∧c≤70
   ·rw[if_pos d];exact .inr (.inr (.inl ⟨d.1,d.2,by omega⟩))
   ·rw[if_neg d];exact .inr (.inr (.inr ⟨by omega,rfl⟩))
set_option maxRecDepth 20000 in
theorem zmt (c:Int) (w:World) (h0:0≤c) (h1:c<256):
  Calls Tryz.prog 189 #[.int .u8 c] w fun e w'=>e= .returned (.int .i64 (zaE c))∧w=w':=by
 rcases zkQ c h0 h1 with ⟨g1,g2,h⟩|⟨g1,g2,h⟩|⟨g1,g2,h⟩|⟨g,h⟩
 case' inr.inr.inr=>rcases g with g1|⟨g1,g2⟩|⟨g1,g2⟩|g1
 all_goals
  have HC:=hid h;clear h
  go_enter Tryz.func189,Tryz.ntmps189
  go_wp2
  go_ret
  exact ⟨zp HC.out.symm,rfl⟩
def zow (w:World) (s:ByteArray) (i:Nat) (e:Ending) (w':World):Prop:=∃v:Int,e= .returned (.tuple #[.int .u8 v,.bool (tri s i)])∧(tri s i=true→v=ziK s i)∧∃q:Nat,w'=w.drewN q
theorem zvU {a b:Int} (h0:0≤a) (h1:a<16) (h2:0≤b) (h3:b<16):bits BinOp.or IntKind.i64 (a*16) (bits BinOp.and IntKind.i64 b 15)=a*16+b:=by
 obtain ⟨n,rfl⟩:=Int.eq_ofNat_of_zero_le h0;obtain ⟨m,rfl⟩:=Int.eq_ofNat_of_zero_le h2;have key:∀n:Nat,n<16→∀m:Nat,m<16→bits BinOp.or IntKind.i64 ((n:Int)*16) (bits BinOp.and IntKind.i64 (m:Int) 15)=(n:Int)*16+m:=by decide +kernel
 exact key n (by omega) m (by omega)
end Go.Proofs.YtbnafbdhomdcoaaGreatDoor.T5
