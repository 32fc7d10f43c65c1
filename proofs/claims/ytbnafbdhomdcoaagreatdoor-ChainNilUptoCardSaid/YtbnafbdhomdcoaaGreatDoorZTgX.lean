/-
 TgX, without what this claim does not reach.
-/
import Derived.Test.YtbnafbdhomdcoaaGreatDoorZTgW
import Derived.Deep.QuietTactic
import Derived.BigQuiet
import Derived.WalkSpells
import Derived.IntWalk
namespace Go.Proofs.YtbnafbdhomdcoaaGreatDoor.T5
open Go.RowKit Go.Shelf Go.Lib
theorem zrC (c:Int) (w:World) (h0:0≤c) (h1:c<256):
  Calls Tryz.prog 189 #[.int .u8 c] w fun e w'=>e= .returned (.int .i64 (zaE c))∧w'=w:=(zmt c w h0 h1).mono fun _ _ ⟨h,h2⟩=>⟨h,h2.symm⟩
theorem zfL {w:World} {s:ByteArray} {i q:Nat} {b:Bool} {v:Int} (hb:tri s i=b) (hv:b=true→v=ziK s i):zow w s i (.returned (.tuple #[.int .u8 v,.bool b])) (w.drewN q):=⟨v,by rw[hb],fun h=>hv (by rw[←hb];exact h),q,rfl⟩
set_option maxRecDepth 20000 in
set_option maxHeartbeats 1000000 in
theorem zku (s:ByteArray) (i:Nat) (w:World) (hs:s.size≤1099511627776) (hi:i≤s.size):
  Calls Tryz.prog 143 #[.string s,.int .i64 i] w (zow w s i):=by
 by_cases h2:i+2<s.size
 ·have hb:=@zE s i (by omega)
  by_cases h37:bt s i=37
  ·have hne:(bt s i !=37)=false:=by rw[h37];rfl
   have hb1:=@zE s (i+1) (by omega);have hb2:=@zE s (i+2) (by omega);have i1:((i:Int)+1).toNat=i+1:=by omega
   have i2:((i:Int)+2).toNat=i+2:=by omega
   have l1:(i:Int)+1<(s.size:Int):=by omega
   have l2:(i:Int)+2<(s.size:Int):=by omega
   have r1:=zc5 (bt s (i+1));have r2:=zc5 (bt s (i+2));have H1:=hid (fun w=>zrC (bt s (i+1)) w (zbS s _) (zdQ s _));have H2:=hid (fun w=>zrC (bt s (i+2)) w (zbS s _) (zdQ s _));have HY:=hid (fun (g1:0≤zaE (bt s (i+1))) (g2:0≤zaE (bt s (i+2)))=>(zbB (s:=s) (i:=i)).2 ⟨h2,h37,g1,g2⟩);have HN1:=hid (fun g=>zm9 (s:=s) (i:=i) g);have HN2:=hid (fun g=>znd (s:=s) (i:=i) g);have HV:=hid (show ziK s i=zaE (bt s (i+1))*16+zaE (bt s (i+2)) from rfl);clear h37;generalize zaE (bt s (i+1))=a at *;generalize zaE (bt s (i+2))=b at *
   by_cases g1:a<0
   ·have HT:=hid (HN1.out g1)
    clear HY HN1 HN2 HV
    go_enter Tryz.func143,Tryz.ntmps143
    go_wp2_with fail
    go_quiet (first|(go_at_call 189;with_reducible exact Calls.quiet_of_same (H1.out _))|(go_at_call 189;with_reducible exact Calls.quiet_of_same (H2.out _)))
    go_wp2
    go_ret2
    exact zfL HT.out (fun h=>by cases h)
   ·by_cases g2:b<0
    ·have HT:=hid (HN2.out g2)
     have g1':0≤a:=by omega
     have hd:decide (0≤b)=false:=decide_eq_false (by omega);clear HY HN1 HN2 HV
     go_enter Tryz.func143,Tryz.ntmps143
     go_wp2_with fail
     go_quiet (first|(go_at_call 189;with_reducible exact Calls.quiet_of_same (H1.out _))|(go_at_call 189;with_reducible exact Calls.quiet_of_same (H2.out _)))
     go_wp2
     go_ret2
     exact zfL HT.out (fun h=>by cases h)
    ·have HT:=hid (HY.out (by omega) (by omega))
     have HS:=hid (zvU (a:=a) (b:=b) (by omega) (by omega) (by omega) (by omega));have g1':0≤a:=by omega
     have g2':0≤b:=by omega
     clear HY HN1 HN2
     go_enter Tryz.func143,Tryz.ntmps143
     go_wp2_with fail
     go_quiet (first|(go_at_call 189;with_reducible exact Calls.quiet_of_same (H1.out _))|(go_at_call 189;with_reducible exact Calls.quiet_of_same (H2.out _)))
     go_wp2
     go_ret2
     exact zfL HT.out (fun _=>by rw[HS.out,HV.out];omega)
  ·have hne:(bt s i !=37)=true:=by simpa using h37
   have HT:=hid (zhc h37);clear h37
   go_enter Tryz.func143,Tryz.ntmps143
   go_wp2
   go_ret2
   exact zfL (q:=0) HT.out (fun h=>by cases h)
 ·have HT:=hid (zg1 (s:=s) (i:=i) (by omega))
  have hd:decide ((s.size:Int)≤(i:Int)+2)=true:=decide_eq_true (by omega)
  go_enter Tryz.func143,Tryz.ntmps143
  go_wp2
  go_ret2
  exact zfL (q:=0) HT.out (fun h=>by cases h)
set_option maxRecDepth 20000 in
set_option maxHeartbeats 1000000 in
theorem zi2 (s:ByteArray) (m:Int) (w:World) (hs:s.size≤1099511627776):
  Calls Tryz.prog 188 #[.string s,.int .i64 m] w fun e w'=>e= .returned (.int .i64 (zbi (zhm m) s 0))∧∃q:Nat,w'=w.drewN q:=by
 go_enter Tryz.func188,Tryz.ntmps188
 go_wp2
 go_loopw [5] (fun v wr=>∃(i q:Nat),i≤s.size∧v= .int .i64 i∧zbi (zhm m) s i=zbi (zhm m) s 0∧wr=w.drewN q) (fun v _=>s.size - (RowKit.intOf v).toNat)
 case atStart=>exact ⟨0,0,by omega,rfl,rfl,rfl⟩
 case round=>
  obtain ⟨i,q,hi,rfl,hst,rfl⟩:=hrel;have HST:=hid hst;clear hst
  by_cases hlt:i<s.size
  ·have hb:=@zE s i hlt
   have HT3:=hid (zku s i (w.drewN q) hs hi);have HC:=hid (fun w=>zmk (bt s i) w (zbS s i) (zdQ s i))
   go_wp2_with fail
   refine HT3.out.mono ?_;rintro e w1 ⟨v,rfl,_,q1,rfl⟩
   cases ht:tri s i
   ·cases hp:zhm m (bt s i)
    ·have HF:=hid (HST.out.symm.trans (zeI (P:=zhm m) hlt ht hp))
     have hq:(bits BinOp.and IntKind.i64 (zdg (bt s i)) m==0)=true:=by unfold zhm at hp;simpa using hp
     go_wp2_with fail
     refine (HC.out _).mono ?_;rintro e w2 ⟨rfl,rfl⟩
     go_wp2
     go_ret
     exact ⟨zp (by rw[HF.out]),_,rfl⟩
    ·have HF:=hid ((zeK (P:=zhm m) hlt ht hp).symm.trans HST.out)
     have hq:(bits BinOp.and IntKind.i64 (zdg (bt s i)) m==0)=false:=by unfold zhm at hp;simpa using hp
     go_wp2_with fail
     refine (HC.out _).mono ?_;rintro e w2 ⟨rfl,rfl⟩
     go_wp2
     go_roundw
     case rel=>exact ⟨i+1,_,by omega,by go_num,HF.out,rfl⟩
     case measure=>simp[RowKit.intOf];omega
   ·have HF:=hid ((ziR (P:=zhm m) ht).symm.trans HST.out)
    have h3:=(zbB.1 ht).1
    go_wp2
    go_roundw
    case rel=>exact ⟨i+3,_,by omega,by go_num,HF.out,rfl⟩
    case measure=>simp[RowKit.intOf];omega
  ·obtain rfl:i=s.size:=by omega
   have HF:=hid (HST.out.symm.trans (zcp (P:=zhm m) (s:=s) (Nat.le_refl _)))
   go_wp2
   go_ret
   exact ⟨zp (by rw[HF.out]),_,rfl⟩
theorem zp1 (s:ByteArray) (w:World) (hs:s.size≤1099511627776):Calls Tryz.prog 188 #[.string s,.int .i64 3] w fun e w'=>e= .returned (.int .i64 (zeG s))∧∃q:Nat,w'=w.drewN q:=
 (zi2 s 3 w hs).mono fun _ _ ⟨h,h2⟩=>⟨by rw[h,zee (fun c h0 h1=>zt3 h0 h1) s s.size 0 (by omega)];rfl,h2⟩
theorem zkq (s:ByteArray) (w:World) (hs:s.size≤1099511627776):Calls Tryz.prog 188 #[.string s,.int .i64 15] w fun e w'=>e= .returned (.int .i64 (zz s))∧∃q:Nat,w'=w.drewN q:=
 (zi2 s 15 w hs).mono fun _ _ ⟨h,h2⟩=>⟨by rw[h,zee (fun c h0 h1=>zub h0 h1) s s.size 0 (by omega)];rfl,h2⟩
theorem zpn (s:ByteArray) (w:World) (hs:s.size≤1099511627776):Calls Tryz.prog 188 #[.string s,.int .i64 31] w fun e w'=>e= .returned (.int .i64 (zay s))∧∃q:Nat,w'=w.drewN q:=
 (zi2 s 31 w hs).mono fun _ _ ⟨h,h2⟩=>⟨by rw[h,zee (fun c h0 h1=>zsD h0 h1) s s.size 0 (by omega)];rfl,h2⟩
end Go.Proofs.YtbnafbdhomdcoaaGreatDoor.T5
