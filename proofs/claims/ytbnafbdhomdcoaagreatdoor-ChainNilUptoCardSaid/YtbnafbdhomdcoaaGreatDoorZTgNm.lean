/-
 TgNm, without what this claim does not reach.
-/
import Derived.Test.YtbnafbdhomdcoaaGreatDoorZTgAd
namespace Go.Proofs.YtbnafbdhomdcoaaGreatDoor.T5
open Go.RowKit Go.Shelf Go.Lib
theorem zsz {s:ByteArray} {i:Nat} (hi:i<s.size) (h:zeG s=i):zcm s=false:=by
 unfold zcm;rw[h,decide_eq_false (show ¬i=s.size by omega)];simp
theorem zt5 {s:ByteArray} (h:zeG s=s.size):zcm s=!s.toList.isEmpty:=by
 unfold zcm;rw[h,decide_eq_true rfl,Bool.and_true,zo]
 by_cases h0:s.size=0
 ·rw[decide_eq_true h0,decide_eq_false (show ¬0<s.size by omega)];rfl
 ·rw[decide_eq_false h0,decide_eq_true (show 0<s.size by omega)];rfl
set_option maxRecDepth 20000 in
set_option maxHeartbeats 2000000 in
theorem zoP (s:ByteArray) (w:World) (hs:s.size≤1099511627776):
  Calls Tryz.prog 133 #[.string s] w fun e w'=>e= .returned (.bool (zcm s))∧w=w':=by
 go_enter Tryz.func133,Tryz.ntmps133
 go_wp2
 go_loop [3] (fun v=>∃i:Nat,i≤s.size∧v= .int .i64 i∧zbi zbW s i=zeG s) (fun v=>s.size - (RowKit.intOf v).toNat)
 case atStart=>exact ⟨0,by omega,rfl,rfl⟩
 case round=>
  obtain ⟨i,hi,rfl,hst⟩:=hrel;have HST:=hid hst;clear hst
  by_cases hlt:i<s.size
  ·have hb:=@zE s i hlt
   have HT:=hid (zgK s i w hs hi)
   cases ht:tri s i
   ·rw[ht] at HT
    have HU:=hid (fun w=>zhB (bt s i) w);have HS:=hid (fun w=>zpl (bt s i) w)
    cases hu:zdc (bt s i)
    ·cases hsb:zpp (bt s i)
     ·have HN:=hid (zsz hlt (HST.out.symm.trans (zeI (P:=zbW) hlt ht (by unfold zbW;rw[hu,hsb];rfl))))
      rw[hu] at HU;rw[hsb] at HS;clear hu hsb ht
      go_wp2_with fail
      refine HT.out.mono ?_;rintro e w1 ⟨rfl,rfl⟩
      go_wp2_with fail
      refine (HU.out _).mono ?_;rintro e w1 ⟨rfl,rfl⟩
      go_wp2_with fail
      refine (HS.out _).mono ?_;rintro e w1 ⟨rfl,rfl⟩
      go_wp2
      go_ret
      exact ⟨zd HN.out.symm,rfl⟩
     ·have HF:=hid ((zeK (P:=zbW) hlt ht (by unfold zbW;rw[hu,hsb];rfl)).symm.trans HST.out)
      rw[hu] at HU;rw[hsb] at HS;clear hu hsb ht
      go_wp2_with fail
      refine HT.out.mono ?_;rintro e w1 ⟨rfl,rfl⟩
      go_wp2_with fail
      refine (HU.out _).mono ?_;rintro e w1 ⟨rfl,rfl⟩
      go_wp2_with fail
      refine (HS.out _).mono ?_;rintro e w1 ⟨rfl,rfl⟩
      go_wp2
      go_round
      case rel=>exact ⟨i+1,by omega,by go_num,HF.out⟩
      case measure=>simp[RowKit.intOf];omega
    ·have HF:=hid ((zeK (P:=zbW) hlt ht (by unfold zbW;rw[hu];rfl)).symm.trans HST.out)
     rw[hu] at HU;clear hu ht HS
     go_wp2_with fail
     refine HT.out.mono ?_;rintro e w1 ⟨rfl,rfl⟩
     go_wp2_with fail
     refine (HU.out _).mono ?_;rintro e w1 ⟨rfl,rfl⟩
     go_wp2
     go_round
     case rel=>exact ⟨i+1,by omega,by go_num,HF.out⟩
     case measure=>simp[RowKit.intOf];omega
   ·have HF:=hid ((ziR (P:=zbW) ht).symm.trans HST.out)
    have h3:=(zbB.1 ht).1;rw[ht] at HT;clear ht
    go_wp2_with fail
    refine HT.out.mono ?_;rintro e w1 ⟨rfl,rfl⟩
    go_wp2
    go_round
    case rel=>exact ⟨i+3,by omega,by go_num,HF.out⟩
    case measure=>simp[RowKit.intOf];omega
  ·obtain rfl:i=s.size:=by omega
   have HN:=hid (zt5 (HST.out.symm.trans (zcp (Nat.le_refl _))))
   go_wp2
   go_ret
   exact ⟨zd HN.out.symm,rfl⟩
set_option maxRecDepth 20000 in
set_option maxHeartbeats 2000000 in
theorem zdw (s:ByteArray) (w:World) (hs:s.size≤maxLen):
  Calls Tryz.prog 128 #[.string s] w fun e w'=>e= .returned (.string (zaP s))∧Below w.heap.size w w':=by
 unfold maxLen at hs;have hcv:=zdW w s;have hbw:=Lib.bytesWorld_size w 5 s;have hba:=zbM.of_conv w 5 s;have hbl:=zeW w 5 s;generalize Lib.bytesWorld w 5 s=w1 at hcv hbw hba hbl;generalize grownCap w s.size 0 5=cap at hcv;have HW:=hid hbw;clear hbw
 go_enter Tryz.func128,Tryz.ntmps128
 go_wp2
 go_loopw [4] (fun i wr=>∃k:Nat,k≤s.size∧i= .int .i64 k∧zbM wr w.heap.size (zdP zdO s.data.toList k)∧Below w.heap.size w wr∧w.heap.size<wr.heap.size) (fun i _=>s.size - (RowKit.intOf i).toNat)
 case atStart=>exact ⟨0,by omega,rfl,by rw[zeP];exact hba,hbl,by have:=HW.out;omega⟩
 case round=>
  obtain ⟨k,hk,rfl,hb,hbl',hlt'⟩:=hrel
  by_cases hlt:k<s.size
  ·have hkl:k<s.data.toList.length:=by rw[size_eq];exact hlt
   have hc:=hb.cell k (by rw[zU];exact hkl);have hf:=hb.free k (by rw[zU];exact hkl);rw[zeA zdO _ _ hkl] at hc;change wr.cell? _=some (.int .u8 (bt s k)) at hc
   by_cases hu:65≤bt s k∧bt s k≤90
   ·obtain ⟨hu1,hu2⟩:=hu
    have h1:=zdQ s k
    go_wp2
    go_roundw
    case rel=>exact ⟨k+1,by omega,by go_num,by rw[zeN zdO _ _ hkl];exact hb.set (by rw[zU];exact hkl) _ _ (by unfold bt;rw[ziB ⟨hu1,hu2⟩]),hbl'.setCell (Nat.le_refl _) _,by simpa using hlt'⟩
    case measure=>simp[RowKit.intOf];omega
   ·have hsame:=zeS zdO _ _ hkl (zgO hu)
    have HS:=hid hsame;clear hsame;have hu':bt s k<65∨90<bt s k:=by omega
    clear hu
    rcases hu' with hu|hu
    all_goals
     go_wp2
     go_roundw
     case rel=>exact ⟨k+1,by omega,by go_num,by rw[HS.out];exact hb,hbl',hlt'⟩
     case measure=>simp[RowKit.intOf];omega
  ·obtain rfl:k=s.size:=by omega
   have hcv:=hb.conv Tryz.underlying80 Tryz.underlying5 Tryz.underlying9 cap;rw[zU,size_eq,←size_eq s,zfC,size_eq] at hcv
   go_wp2
   go_ret
   exact ⟨rfl,hbl'⟩
end Go.Proofs.YtbnafbdhomdcoaaGreatDoor.T5
