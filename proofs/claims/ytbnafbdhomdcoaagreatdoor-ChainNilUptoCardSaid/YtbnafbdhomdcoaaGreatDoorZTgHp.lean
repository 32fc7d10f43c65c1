/-
 TgHp, without what this claim does not reach.
-/
import Derived.Test.YtbnafbdhomdcoaaGreatDoorZTgAu
import Derived.Test.YtbnafbdhomdcoaaGreatDoorZm1
namespace Go.Proofs.YtbnafbdhomdcoaaGreatDoor.T5
open Go.RowKit Go.Shelf Go.Lib
theorem ztG {s h t:ByteArray} {c:Int} (hc:zbI s c=(h,t,false)):t.size=0:=by
 rcases zaC s c with ⟨hp,_⟩|⟨k,hp,hk,_⟩
 ·rw[zco hp] at hc
  injection hc with _ hc;injection hc with hc _;rw[←hc];rfl
 ·rw[zcY hk hp] at hc
  injection hc with _ hc;injection hc with _ hc
  cases hc
theorem zl3 {h t:ByteArray} (hz:¬t.size=0) (hn:¬(zbY t 65535 10).2=0):zen h t=zcf:=by
 by_cases hl:5<t.size
 ·exact zeC hl
 ·exact ziO hl hz hn
theorem zrP {s:ByteArray} (h:heads s 91=true):(zax s 93=s.size∧zbI (s.extract 1 s.size) 93=(s.extract 1 s.size,⟨#[]⟩,false))∨(∃m,zax s 93=m+1∧m+1<s.size∧zbI (s.extract 1 s.size) 93=(s.extract 1 (m+1),s.extract (m+2) s.size,true)):=by
 obtain ⟨h0,h1⟩:=zaX.1 h;have hz:=zk s (a:=1) (b:=s.size) (by omega) (Nat.le_refl _);have hb:∀j,j<s.size - 1→bt (s.extract 1 s.size) j=bt s (j+1):=fun j hj=>by rw[zbe s hj,Nat.add_comm]
 rcases zaC s 93 with ⟨hp,hn⟩|⟨k,hp,hk,hb93,hn⟩
 ·left
  refine ⟨hp,zco ?_⟩;rw[place_none (s:=s.extract 1 s.size)];intro j hj;rw[hb j (by omega)];exact hn _ (by omega)
 ·right
  have hk0:=zmI h hp;obtain ⟨m,rfl⟩:∃m,k=m+1:=⟨k - 1,by omega⟩;refine ⟨m,hp,hk,?_⟩;have hp2:zax (s.extract 1 s.size) 93=m:=place_at (by omega) (by rw[hb m (by omega)];exact hb93) fun j hj=>by rw[hb j (by omega)];exact hn _ (by omega)
  rw[zcY (by omega) hp2,zjW s (by omega) (by omega),zh7,Nat.add_comm 1 m,show 1+(m+1)=m+2 by omega]
set_option maxRecDepth 20000 in
set_option maxHeartbeats 8000000 in
theorem HostPort_any (s:ByteArray) (w:World) (hs:s.size≤4194304):
  Calls Tryz.prog 89 #[.string s] w fun e w'=>e= .returned (authVal (authR s))∧Below w.heap.size w w':=by
 cases hh:heads s 91
 ·have HC:=hid (fun w=>zii s 58 w (by omega))
  unfold zfn at HC;have ha:=zmh hh;have hz:=zg0 s 58;have hcf:=hid (fun h t (hc:zbI s 58=(h,t,false))=>ztG hc);generalize hcc:zbI s 58=r at *;obtain ⟨h,t,fl⟩:=r;dsimp only at HC ha hz;have hts:t.size≤s.size:=hz.2.1;have HN:=hid (fun w=>zoP h w (by omega));have HL:=hid (fun w=>zdw h w (by unfold maxLen;omega));generalize zcm h=b at *;have HA:=hid (fun hb:b=false=>ha.trans (if_neg (by rw[hb];simp)));have HB:=hid (fun hb:b=true=>ha.trans (if_pos hb));have HF:=hid (fun hf:fl=false=>(by subst hf;exact hcf.out h t rfl:t.size=0));clear ha hz hcf hcc;have hfront:(s.toList.isEmpty=true)∨(s.toList.isEmpty=false∧∃h0:0<s.size,(bt s 0==91)=false):=by
   by_cases h0:s.size=0
   ·left;rw[zo];exact decide_eq_true h0
   ·right
    refine ⟨by rw[zo];exact decide_eq_false h0,by omega,?_⟩;rw[beq_eq_false_iff_ne];intro e;rw[zaX.2 ⟨by omega,e⟩] at hh
    cases hh
  clear hh
  rcases hfront with he|⟨he,h0,h91⟩
  case' inr=>have hb0:=@zE s 0 h0
  all_goals
   cases b
   ·have HZ:=hid (HA.out rfl)
    go_enter Tryz.func89,Tryz.ntmps89
    go_wp2_with fail
    refine (HC.out _).mono ?_;rintro e w1 ⟨rfl,q,rfl⟩;have B1:=ze (Below.refl w.heap.size w) q
    go_wp2_with fail
    refine (HN.out _).mono ?_;rintro e w1 ⟨rfl,rfl⟩
    go_wp2
    go_ret3
    exact ⟨by rw[HZ.out];rfl,B1⟩
   ·have HY:=hid (HB.out rfl)
    cases fl
    ·have hz:=HF.out rfl
     have HZ:=hid (HY.out.trans (zeH hz))
     go_enter Tryz.func89,Tryz.ntmps89
     go_wp2_with fail
     refine (HC.out _).mono ?_;rintro e w1 ⟨rfl,q,rfl⟩;have B1:=ze (Below.refl w.heap.size w) q
     go_wp2_with fail
     refine (HN.out _).mono ?_;rintro e w1 ⟨rfl,rfl⟩
     go_wp2_with fail
     refine (HL.out _).mono ?_;rintro e w7 ⟨rfl,b7⟩;have B7:=B1.trans (b7.mono B1.size);clear b7
     go_wp2
     go_ret3
     exact ⟨by rw[HZ.out];rfl,B7⟩
    ·clear HF
     by_cases hz:t.size=0
     ·have HZ:=hid (HY.out.trans (zeH hz))
      have he2:t.toList.isEmpty=true:=by rw[zo];exact decide_eq_true hz
      clear hz
      go_enter Tryz.func89,Tryz.ntmps89
      go_wp2_with fail
      refine (HC.out _).mono ?_;rintro e w1 ⟨rfl,q,rfl⟩;have B1:=ze (Below.refl w.heap.size w) q
      go_wp2_with fail
      refine (HN.out _).mono ?_;rintro e w1 ⟨rfl,rfl⟩
      go_wp2_with fail
      refine (HL.out _).mono ?_;rintro e w7 ⟨rfl,b7⟩;have B7:=B1.trans (b7.mono B1.size);clear b7
      go_wp2
      go_ret3
      exact ⟨by rw[HZ.out];rfl,B7⟩
     ·have he2:t.toList.isEmpty=false:=by rw[zo];exact decide_eq_false hz
      have hpo:=fun hl=>@zig (h) (t) hl hz
      have hpb:=@zl3 (h) (t) hz;have hpl:=@zeC (h) (t);have HD:=hid (fun w=>zf2 (t) 65535 w (by omega) (by omega) (by omega));generalize zbY (t) 65535 10=r at *;obtain ⟨n,er⟩:=r;dsimp only at HD hpo hpb
      by_cases he0:er=0
      ·have hee:(er !=0)=false:=by simp[he0]
       by_cases hl:5<t.size
       ·have HZ:=hid (HY.out.trans (hpl hl))
        clear hz hpo hpb he0 hpl
        go_enter Tryz.func89,Tryz.ntmps89
        go_wp2_with fail
        refine (HC.out _).mono ?_;rintro e w1 ⟨rfl,q,rfl⟩;have B1:=ze (Below.refl w.heap.size w) q
        go_wp2_with fail
        refine (HN.out _).mono ?_;rintro e w1 ⟨rfl,rfl⟩
        go_wp2_with fail
        refine (HL.out _).mono ?_;rintro e w7 ⟨rfl,b7⟩;have B7:=B1.trans (b7.mono B1.size);clear b7
        go_wp2_with fail
        refine (HD.out _).mono ?_;rintro e w8 ⟨rfl,rfl⟩
        go_wp2
        go_ret3
        exact ⟨by rw[HZ.out];rfl,B7⟩
       ·have HZ:=hid (HY.out.trans (hpo hl he0))
        clear hz hpo hpb he0 hpl
        go_enter Tryz.func89,Tryz.ntmps89
        go_wp2_with fail
        refine (HC.out _).mono ?_;rintro e w1 ⟨rfl,q,rfl⟩;have B1:=ze (Below.refl w.heap.size w) q
        go_wp2_with fail
        refine (HN.out _).mono ?_;rintro e w1 ⟨rfl,rfl⟩
        go_wp2_with fail
        refine (HL.out _).mono ?_;rintro e w7 ⟨rfl,b7⟩;have B7:=B1.trans (b7.mono B1.size);clear b7
        go_wp2_with fail
        refine (HD.out _).mono ?_;rintro e w8 ⟨rfl,rfl⟩
        go_wp2
        go_ret3
        exact ⟨by rw[HZ.out];rfl,B7⟩
      ·have hee:(er !=0)=true:=by simpa using he0
       have HZ:=hid (HY.out.trans (hpb he0));clear hz hpo hpb he0 hpl
       go_enter Tryz.func89,Tryz.ntmps89
       go_wp2_with fail
       refine (HC.out _).mono ?_;rintro e w1 ⟨rfl,q,rfl⟩;have B1:=ze (Below.refl w.heap.size w) q
       go_wp2_with fail
       refine (HN.out _).mono ?_;rintro e w1 ⟨rfl,rfl⟩
       go_wp2_with fail
       refine (HL.out _).mono ?_;rintro e w7 ⟨rfl,b7⟩;have B7:=B1.trans (b7.mono B1.size);clear b7
       go_wp2_with fail
       refine (HD.out _).mono ?_;rintro e w8 ⟨rfl,rfl⟩
       go_wp2
       go_ret3
       exact ⟨by rw[HZ.out];rfl,B7⟩
 ·have h0:=(zaX.1 hh).1
  have hb0:=@zE s 0 h0;have h91:(bt s 0==91)=true:=beq_iff_eq.2 (zaX.1 hh).2;have he:s.toList.isEmpty=false:=by rw[zo];exact decide_eq_false (by omega)
  have hz1:=zk s (a:=1) (b:=s.size) (by omega) (by omega);have HC:=hid (fun w=>zii (s.extract 1 s.size) 93 w (by omega));unfold zfn at HC
  rcases zrP hh with ⟨hp,hc⟩|⟨m,hp,hk,hc⟩
  ·have HZ:=hid (zmR hh hp)
   rw[hc] at HC;dsimp only at HC;clear hh hp hc hz1
   go_enter Tryz.func89,Tryz.ntmps89
   go_wp2_with fail
   refine (HC.out _).mono ?_;rintro e w1 ⟨rfl,q,rfl⟩;have B1:=ze (Below.refl w.heap.size w) q
   go_wp2
   go_ret3
   exact ⟨by rw[HZ.out];rfl,B1⟩
  ·have hzi:=zk s (a:=1) (b:=m+1) (by omega) (by omega)
   have hzr:=zk s (a:=m+2) (b:=s.size) (by omega) (by omega);have hzh:=zk s (a:=0) (b:=m+2) (by omega) (by omega);have hmm:m=(s.extract 1 (m+1)).size:=by omega
   have HA:=hid (fun w=>zj3 (s.extract 1 (m+1)) w (by omega));have HL:=hid (fun w=>zdw (s.extract 0 (m+2)) w (by unfold maxLen;omega));have i2:((m:Int)+2).toNat=m+2:=by omega
   have l2:(m:Int)+2≤(s.size:Int):=by omega
   have l0:(0:Int)≤(m:Int)+2:=by omega
   have haa:=@zr6 s (m+1) hh hk hp;have hbare:=fun he=>@zmf s (m+1) hh he hp
   have hport:=fun he=>@zmb s (m+1) hh he hp
   have hjunk:=fun he=>@zl9 s (m+1) hh he hp
   rw[hc] at HC;dsimp only at HC;generalize s.extract 1 (m+1)=inner at *;subst hmm;clear hp hc hh
   cases hia:zcj inner
   ·have HZ:=hid (haa hia)
    rw[hia] at HA;clear hz1 hzi hzr hia hzh haa hbare hport hjunk
    go_enter Tryz.func89,Tryz.ntmps89
    go_wp2_with fail
    refine (HC.out _).mono ?_;rintro e w1 ⟨rfl,q,rfl⟩;have B1:=ze (Below.refl w.heap.size w) q
    go_wp2_with fail
    refine (HA.out _).mono ?_;rintro e w2 ⟨rfl,b2⟩;have B2:=B1.trans (b2.mono B1.size);clear b2
    go_wp2
    go_ret3
    exact ⟨by rw[HZ.out];rfl,B2⟩
   ·rw[hia] at HA
    by_cases hend:inner.size+1+1=s.size
    ·have hab:=hbare hend
     rw[if_pos hia,show zaP s=zaP (s.extract 0 (inner.size+2)) by rw[show inner.size+2=s.size by omega];congr 1;exact (zV (by rw[zhe,←size_eq,List.take_length])).symm] at hab;have HZ:=hid hab;have her:(s.extract (inner.size+2) s.size).toList.isEmpty=true:=by rw[zo];exact decide_eq_true (by omega)
     clear hz1 hzi hzr hia hzh haa hbare hport hjunk hend hab
     go_enter Tryz.func89,Tryz.ntmps89
     go_wp2_with fail
     refine (HC.out _).mono ?_;rintro e w1 ⟨rfl,q,rfl⟩;have B1:=ze (Below.refl w.heap.size w) q
     go_wp2_with fail
     refine (HA.out _).mono ?_;rintro e w2 ⟨rfl,b2⟩;have B2:=B1.trans (b2.mono B1.size);clear b2
     go_wp2_with fail
     refine (HL.out _).mono ?_;rintro e w7 ⟨rfl,b7⟩;have B7:=B2.trans (b7.mono B2.size);clear b7
     go_wp2
     go_ret3
     exact ⟨by rw[HZ.out];rfl,B7⟩
    ·have hrs:0<(s.extract (inner.size+2) s.size).size:=by omega
     have her:(s.extract (inner.size+2) s.size).toList.isEmpty=false:=by rw[zo];exact decide_eq_false (by omega)
     have hbr0:=@zE (s.extract (inner.size+2) s.size) 0 hrs;have hbb:bt (s.extract (inner.size+2) s.size) 0=bt s (inner.size+1+1):=zbe s (j:=0) (by omega)
     by_cases h58:bt s (inner.size+1+1)=58
     ·have hap:=hport (by omega) h58
      rw[if_pos hia,show inner.size+1+1=inner.size+2 from rfl,show inner.size+1+2=inner.size+3 from rfl] at hap;have h5:(bt (s.extract (inner.size+2) s.size) 0!=58)=false:=by rw[hbb,h58];rfl
      rw[show inner.size+3=inner.size+2+1 from rfl,←zh7] at hap;clear hbb h58 hport hjunk hbare haa hzi hia;generalize s.extract (inner.size+2) s.size=rest at *;have HY:=hid hap;have hzt:=zk rest (a:=1) (b:=rest.size) (by omega) (by omega);have hts:(rest.extract 1 rest.size).size≤s.size:=by omega
      clear hz1 hzh hend hap hzr
      by_cases hz:(rest.extract 1 rest.size).size=0
      ·have HZ:=hid (HY.out.trans (zeH hz))
       have he2:(rest.extract 1 rest.size).toList.isEmpty=true:=by rw[zo];exact decide_eq_true hz
       clear hz
       go_enter Tryz.func89,Tryz.ntmps89
       go_wp2_with fail
       refine (HC.out _).mono ?_;rintro e w1 ⟨rfl,q,rfl⟩;have B1:=ze (Below.refl w.heap.size w) q
       go_wp2_with fail
       refine (HA.out _).mono ?_;rintro e w2 ⟨rfl,b2⟩;have B2:=B1.trans (b2.mono B1.size);clear b2
       go_wp2_with fail
       refine (HL.out _).mono ?_;rintro e w7 ⟨rfl,b7⟩;have B7:=B2.trans (b7.mono B2.size);clear b7
       go_wp2
       go_ret3
       exact ⟨by rw[HZ.out];rfl,B7⟩
      ·have he2:(rest.extract 1 rest.size).toList.isEmpty=false:=by rw[zo];exact decide_eq_false hz
       have hpo:=fun hl=>@zig (s.extract 0 (inner.size+2)) ((rest.extract 1 rest.size)) hl hz
       have hpb:=@zl3 (s.extract 0 (inner.size+2)) ((rest.extract 1 rest.size)) hz;have hpl:=@zeC (s.extract 0 (inner.size+2)) ((rest.extract 1 rest.size));have HD:=hid (fun w=>zf2 ((rest.extract 1 rest.size)) 65535 w (by omega) (by omega) (by omega));generalize zbY ((rest.extract 1 rest.size)) 65535 10=r at *;obtain ⟨n,er⟩:=r;dsimp only at HD hpo hpb
       by_cases he0:er=0
       ·have hee:(er !=0)=false:=by simp[he0]
        by_cases hl:5<(rest.extract 1 rest.size).size
        ·have HZ:=hid (HY.out.trans (hpl hl))
         have hl5:(5:Int)<((rest.size - 1:Nat):Int):=by omega
         clear hzt;clear hz hpo hpb he0 hpl
         go_enter Tryz.func89,Tryz.ntmps89
         go_wp2_with fail
         refine (HC.out _).mono ?_;rintro e w1 ⟨rfl,q,rfl⟩;have B1:=ze (Below.refl w.heap.size w) q
         go_wp2_with fail
         refine (HA.out _).mono ?_;rintro e w2 ⟨rfl,b2⟩;have B2:=B1.trans (b2.mono B1.size);clear b2
         go_wp2_with fail
         refine (HL.out _).mono ?_;rintro e w7 ⟨rfl,b7⟩;have B7:=B2.trans (b7.mono B2.size);clear b7
         go_wp2_with fail
         refine (HD.out _).mono ?_;rintro e w8 ⟨rfl,rfl⟩
         go_wp2
         go_ret3
         exact ⟨by rw[HZ.out];rfl,B7⟩
        ·have HZ:=hid (HY.out.trans (hpo hl he0))
         have hl5:((rest.size - 1:Nat):Int)≤5:=by omega
         clear hzt;clear hz hpo hpb he0 hpl
         go_enter Tryz.func89,Tryz.ntmps89
         go_wp2_with fail
         refine (HC.out _).mono ?_;rintro e w1 ⟨rfl,q,rfl⟩;have B1:=ze (Below.refl w.heap.size w) q
         go_wp2_with fail
         refine (HA.out _).mono ?_;rintro e w2 ⟨rfl,b2⟩;have B2:=B1.trans (b2.mono B1.size);clear b2
         go_wp2_with fail
         refine (HL.out _).mono ?_;rintro e w7 ⟨rfl,b7⟩;have B7:=B2.trans (b7.mono B2.size);clear b7
         go_wp2_with fail
         refine (HD.out _).mono ?_;rintro e w8 ⟨rfl,rfl⟩
         go_wp2
         go_ret3
         exact ⟨by rw[HZ.out];rfl,B7⟩
       ·have hee:(er !=0)=true:=by simpa using he0
        have HZ:=hid (HY.out.trans (hpb he0));clear hz hpo hpb he0 hpl
        go_enter Tryz.func89,Tryz.ntmps89
        go_wp2_with fail
        refine (HC.out _).mono ?_;rintro e w1 ⟨rfl,q,rfl⟩;have B1:=ze (Below.refl w.heap.size w) q
        go_wp2_with fail
        refine (HA.out _).mono ?_;rintro e w2 ⟨rfl,b2⟩;have B2:=B1.trans (b2.mono B1.size);clear b2
        go_wp2_with fail
        refine (HL.out _).mono ?_;rintro e w7 ⟨rfl,b7⟩;have B7:=B2.trans (b7.mono B2.size);clear b7
        go_wp2_with fail
        refine (HD.out _).mono ?_;rintro e w8 ⟨rfl,rfl⟩
        go_wp2
        go_ret3
        exact ⟨by rw[HZ.out];rfl,B7⟩
     ·have HZ:=hid (hjunk (by omega) h58)
      have h5:(bt (s.extract (inner.size+2) s.size) 0!=58)=true:=by rw[hbb];simpa using h58
      clear hz1 hzi hzr hia hzh haa hbare hport hjunk hend h58 hbb;generalize s.extract (inner.size+2) s.size=rest at *
      go_enter Tryz.func89,Tryz.ntmps89
      go_wp2_with fail
      refine (HC.out _).mono ?_;rintro e w1 ⟨rfl,q,rfl⟩;have B1:=ze (Below.refl w.heap.size w) q
      go_wp2_with fail
      refine (HA.out _).mono ?_;rintro e w2 ⟨rfl,b2⟩;have B2:=B1.trans (b2.mono B1.size);clear b2
      go_wp2
      go_ret3
      exact ⟨by rw[HZ.out];rfl,B2⟩
end Go.Proofs.YtbnafbdhomdcoaaGreatDoor.T5
