/-
 TgAd, without what this claim does not reach.
-/
import Derived.Test.YtbnafbdhomdcoaaGreatDoorZTgGp
namespace Go.Proofs.YtbnafbdhomdcoaaGreatDoor.T5
open Go.RowKit Go.Shelf Go.Lib
theorem zxw {s:ByteArray} (h:gap s=s.size) (h0:¬0≤zam s true):zcj s=false:=by rw[zlD h];exact decide_eq_false (by omega)
theorem zrg {s:ByteArray} (h:gap s=s.size):zcj s=(zam s true==8):=by rw[zlD h];rfl
set_option maxRecDepth 20000 in
set_option maxHeartbeats 4000000 in
theorem zlW (s:ByteArray) (w:World) (hs:s.size≤4194304) (hg:Glob w):
  Calls Tryz.prog 203 #[.string s] w fun e w'=>e= .returned (.bool (zcj s))∧Below w.heap.size w w':=by
 have HC:=hid (zqw s w hs hg);have hz:=(znM s)
 by_cases hgap:gap s=s.size
 ·have hgv:ziJ s= .tuple #[.string s,.string ⟨#[]⟩,.bool false]:=by unfold ziJ;rw[if_neg (by omega)]
  rw[hgv] at HC;have HG:=hid (fun w hg=>zhY s true w hs hg);have H8:=hid (zrg hgap);have H0:=hid (fun h=>zxw hgap h);clear hgv hz hgap;unfold zg9 at HG;generalize zam s true=r at *
  by_cases hr:0≤r
  ·have hd:decide (0≤r)=true:=decide_eq_true hr
   rw[hd] at HG;clear hd
   go_enter Tryz.func203,Tryz.ntmps203
   go_wp2_with fail
   refine HC.out.mono ?_;rintro e w1 ⟨rfl,q,rfl⟩
   go_wp2_with fail
   refine (HG.out _ (hg.drewN q)).mono ?_;rintro e w2 ⟨n,rfl,hn,b2⟩;obtain rfl:n=r:=hn hr
   go_wp2
   go_ret
   exact ⟨zd H8.out.symm,(ze (Below.refl _ _) q).trans b2⟩
  ·have hd:decide (0≤r)=false:=decide_eq_false hr
   rw[hd] at HG;have HB:=hid (H0.out hr);clear hd
   go_enter Tryz.func203,Tryz.ntmps203
   go_wp2_with fail
   refine HC.out.mono ?_;rintro e w1 ⟨rfl,q,rfl⟩
   go_wp2_with fail
   refine (HG.out _ (hg.drewN q)).mono ?_;rintro e w2 ⟨n,rfl,hn,b2⟩
   go_wp2
   go_ret
   exact ⟨zd HB.out.symm,(ze (Below.refl _ _) q).trans b2⟩
 ·obtain ⟨k,hk,hk1,_⟩:=hz.resolve_left (fun h=>hgap h.1)
  have hgv:ziJ s= .tuple #[.string (s.extract 0 k),.string (s.extract (k+2) s.size),.bool true]:=by unfold ziJ;rw[hk,if_pos (by omega)]
  rw[hgv] at HC;have hz1:=zk s (a:=0) (b:=k) (by omega) (by omega);have hz2:=zk s (a:=k+2) (b:=s.size) (by omega) (by omega);have HA:=hid (fun w hg=>zhY (s.extract 0 k) false w (by omega) hg);have HB:=hid (fun w hg=>zhY (s.extract (k+2) s.size) true w (by omega) hg);have hia:=zlx (s:=s) (k:=k) (by omega) hk;have hra:=zd1 (s.extract 0 k) false;have hrb:=zd1 (s.extract (k+2) s.size) true;unfold zg9 at HA HB;generalize zam (s.extract 0 k) false=a at *;generalize zam (s.extract (k+2) s.size) true=b at *;generalize s.extract 0 k=t1 at *;generalize s.extract (k+2) s.size=t2 at *;have HI:=hid hia;clear hgv hgap hk hia hz;have fin:∀c:Bool,c=(decide (0≤a)&&(decide (0≤b)&&decide (a+b≤7)))→zcj s=c:=fun c hc=>HI.out.trans hc.symm
  have HF:=hid fin;clear fin
  by_cases ha:0≤a
  ·have hda:decide (0≤a)=true:=decide_eq_true ha
   rw[hda] at HA
   by_cases hb:0≤b
   ·have hdb:decide (0≤b)=true:=decide_eq_true hb
    rw[hdb] at HB;have HE:=hid (HF.out (decide (a+b≤7)) (by rw[hda,hdb];rfl));clear hda hdb
    go_enter Tryz.func203,Tryz.ntmps203
    go_wp2_with fail
    refine HC.out.mono ?_;rintro e w1 ⟨rfl,q,rfl⟩;have B1:=ze (Below.refl w.heap.size w) q
    go_wp2_with fail
    refine (HA.out _ (hg.drewN q)).mono ?_;rintro e w2 ⟨n,rfl,hn,b2⟩;obtain rfl:n=a:=hn ha;have B2:Below w.heap.size w w2:=B1.trans b2;have hg2:=hg.beyond B2;clear b2 hn
    go_wp2_with fail
    refine (HB.out _ hg2).mono ?_;rintro e w3 ⟨m,rfl,hm,b3⟩;obtain rfl:m=b:=hm hb;have B3:=B2.trans (b3.mono B2.size);clear b3 hm
    go_wp2
    go_ret
    exact ⟨zd HE.out.symm,B3⟩
   ·have hdb:decide (0≤b)=false:=decide_eq_false hb
    rw[hdb] at HB;have HE:=hid (HF.out false (by rw[hda,hdb];rfl));clear hda hdb
    go_enter Tryz.func203,Tryz.ntmps203
    go_wp2_with fail
    refine HC.out.mono ?_;rintro e w1 ⟨rfl,q,rfl⟩;have B1:=ze (Below.refl w.heap.size w) q
    go_wp2_with fail
    refine (HA.out _ (hg.drewN q)).mono ?_;rintro e w2 ⟨n,rfl,hn,b2⟩;have B2:Below w.heap.size w w2:=B1.trans b2;have hg2:=hg.beyond B2;clear b2 hn
    go_wp2_with fail
    refine (HB.out _ hg2).mono ?_;rintro e w3 ⟨m,rfl,hm,b3⟩;have B3:=B2.trans (b3.mono B2.size);clear b3 hm
    go_wp2
    go_ret
    exact ⟨zd HE.out.symm,B3⟩
  ·have hda:decide (0≤a)=false:=decide_eq_false ha
   rw[hda] at HA;have HE:=hid (HF.out false (by rw[hda];rfl));clear hda
   go_enter Tryz.func203,Tryz.ntmps203
   go_wp2_with fail
   refine HC.out.mono ?_;rintro e w1 ⟨rfl,q,rfl⟩;have B1:=ze (Below.refl w.heap.size w) q
   go_wp2_with fail
   refine (HA.out _ (hg.drewN q)).mono ?_;rintro e w2 ⟨n,rfl,hn,b2⟩;have B2:Below w.heap.size w w2:=B1.trans b2;have hg2:=hg.beyond B2;clear b2 hn
   go_wp2_with fail
   refine (HB.out _ hg2).mono ?_;rintro e w3 ⟨m,rfl,hm,b3⟩;have B3:=B2.trans (b3.mono B2.size);clear b3 hm
   go_wp2
   go_ret
   exact ⟨zd HE.out.symm,B3⟩
set_option maxRecDepth 20000 in
set_option maxHeartbeats 4000000 in
theorem zj3 (s:ByteArray) (w:World) (hs:s.size≤4194304):
  Calls Tryz.prog 132 #[.string s] w fun e w'=>e= .returned (.bool (zcj s))∧Below w.heap.size w w':=by
 go_enter Tryz.func132,Tryz.ntmps132
 go_wp2
 go_loop [3] (fun v=>∃k:Nat,(k=0∨k+1≤s.size)∧v= .int .i64 k∧∀j,j<k→zdB s j=false) (fun v=>s.size - (RowKit.intOf v).toNat)
 case atStart=>exact ⟨0,.inl rfl,rfl,fun j hj=>by omega⟩
 case round=>
  obtain ⟨k,hk,rfl,hn⟩:=hrel
  by_cases hlt:k+1<s.size
  ·have hb:=@zE s k (by omega)
   have hb1:=@zE s (k+1) hlt;have i1:((k:Int)+1).toNat=k+1:=by omega
   have l1:(k:Int)+1<(s.size:Int):=by omega
   have l0:k<s.size:=by omega
   clear hk
   by_cases hc0:bt s k=58
   ·by_cases hc1:bt s (k+1)=58
    ·have t0:(bt s k==58)=true:=beq_iff_eq.2 hc0
     have t1:(bt s (k+1)==58)=true:=beq_iff_eq.2 hc1;have hk:=zwI hlt (by unfold zdB;simp[hc0,hc1]) hn;have hia:=zlx (s:=s) (k:=k) (by omega) hk;have hz1:=zk s (a:=0) (b:=k) (by omega) (by omega);have hz2:=zk s (a:=k+2) (b:=s.size) (by omega) (by omega);have HA:=hid (fun w=>zgx (s.extract 0 k) false w (by omega));have HB:=hid (fun w=>zgx (s.extract (k+2) s.size) true w (by omega));have hra:=zd1 (s.extract 0 k) false;have hrb:=zd1 (s.extract (k+2) s.size) true;generalize zam (s.extract 0 k) false=a at *;generalize zam (s.extract (k+2) s.size) true=b at *;have fin:∀c:Bool,c=(decide (0≤a)&&(decide (0≤b)&&decide (a+b≤7)))→zcj s=c:=fun c hc=>hia.trans hc.symm
     have HF:=hid fin;have hw2:IntKind.i64.wrap ((k:Int)+2)=(k:Int)+2:=IntWalk.i64_in _ (by omega);have hk0:(0:Int)≤(k:Int):=by omega
     have hks:(k:Int)≤(s.size:Int):=by omega
     have hk2:(0:Int)≤(k:Int)+2:=by omega
     have hk2s:(k:Int)+2≤(s.size:Int):=by omega
     have hk2n:((k:Int)+2).toNat=k+2:=by omega
     have ha9:a≤8388620:=by omega
     have hb9:b≤8388620:=by omega
     clear hc0 hc1 hk hia hn fin hz1 hz2
     go_wp2_with fail
     go_region_held3 (fun _=>True) (trivial) (first|(go_at_call 181;(with_reducible refine (HA.out _).mono ?_);rintro e w2 ⟨rfl,b2⟩)|(go_at_call 181;(with_reducible refine (HB.out _).mono ?_);rintro e w3 ⟨rfl,b3⟩))
     all_goals
      have B2:Below w.heap.size w w2:=(zar (Below.refl w.heap.size w)).trans b2;have B3:Below w.heap.size w w3:=B2.trans (b3.mono B2.size);clear b2 b3 B2
      rcases Int.lt_or_le a 0 with ha|ha
      ·have HE:=hid (HF.out false (by rw[decide_eq_false (show ¬0≤a by omega)];rfl))
       clear HF
       go_wp2
       go_ret
       exact ⟨zd HE.out.symm,B3⟩
      ·rcases Int.lt_or_le b 0 with hb0|hb0
       ·have HE:=hid (HF.out false (by rw[decide_eq_false (show ¬0≤b by omega)];simp))
        clear HF
        go_wp2
        go_ret
        exact ⟨zd HE.out.symm,B3⟩
       ·have HE:=hid (HF.out (decide (a+b≤7)) (by rw[decide_eq_true ha,decide_eq_true hb0];rfl))
        clear HF
        go_wp2
        go_ret
        exact ⟨zd HE.out.symm,B3⟩
    ·have t0:(bt s k==58)=true:=beq_iff_eq.2 hc0
     have t1:(bt s (k+1)==58)=false:=beq_eq_false_iff_ne.2 hc1;have HN:=hid (fun j (hj:j<k+1)=>(by
      by_cases e:j=k
      ·rw[e];unfold zdB;simp[hc1]
      ·exact hn j (by omega):zdB s j=false))
     clear hc0 hc1 hn
     go_wp2
     go_round
     case rel=>exact ⟨k+1,.inr (by omega),by go_num,HN.out⟩
     case measure=>simp[RowKit.intOf];omega
   ·have t0:(bt s k==58)=false:=beq_eq_false_iff_ne.2 hc0
    have HN:=hid (fun j (hj:j<k+1)=>(by
     by_cases e:j=k
     ·rw[e];unfold zdB;simp[hc0]
     ·exact hn j (by omega):zdB s j=false))
    clear hc0 hn
    go_wp2
    go_round
    case rel=>exact ⟨k+1,.inr (by omega),by go_num,HN.out⟩
    case measure=>simp[RowKit.intOf];omega
  ·have hgn:gap s=s.size:=zt0 fun j hj=>hn j (by omega)
   have HG:=hid (fun w=>zgx s true w hs);have H8:=hid (zrg hgn);have l1:¬(k:Int)+1<(s.size:Int):=by omega
   have hkk:(k:Int)≤4194304:=by omega
   clear hgn hn;generalize zam s true=r at *
   go_wp2_with fail
   refine (HG.out _).mono ?_;rintro e w2 ⟨rfl,b2⟩
   go_wp2
   go_ret
   exact ⟨zd H8.out.symm,b2⟩
def zfY (s:ByteArray):Bool:=if heads s 91=true then (ends s 93&&zcj (s.extract 1 (s.size - 1))) else zcm s
set_option maxRecDepth 20000 in
set_option maxHeartbeats 4000000 in
theorem zhw (s:ByteArray) (w:World) (hs:s.size≤4194304) (hg:Glob w):
  Calls Tryz.prog 166 #[.string s] w fun e w'=>e= .returned (.bool (zfY s))∧Below w.heap.size w w':=by
 have HP:=hid (fun w=>zhW s 91 w);rw[show ((91:UInt8).toNat:Int)=91 from rfl] at HP;have HB:=hid (show zfY s=if heads s 91=true then (ends s 93&&zcj (s.extract 1 (s.size - 1))) else zcm s from rfl)
 cases hh:heads s 91
 ·rw[hh] at HP HB
  rw[if_neg (by simp)] at HB;have HS:=hid (fun w=>zp1 s w (by omega))
  by_cases hz:s.size=0
  ·have he:s.toList.isEmpty=true:=by rw[zo];exact decide_eq_true hz
   have HN:=hid (show zcm s=false by unfold zcm;rw[decide_eq_false (show ¬0<s.size by omega)];rfl);clear hz hh
   go_enter Tryz.func166,Tryz.ntmps166
   go_wp2_with fail
   refine (HP.out _).mono ?_;rintro e w1 ⟨rfl,rfl⟩
   go_wp2
   go_ret
   exact ⟨zd (by rw[HB.out,HN.out]),Below.refl _ _⟩
  ·have he:s.toList.isEmpty=false:=by rw[zo];exact decide_eq_false hz
   have HN:=hid (show zcm s=((zeG s:Int)==(s.size:Int)) by
    unfold zcm;rw[decide_eq_true (show 0<s.size by omega),Bool.true_and,Bool.eq_iff_iff,decide_eq_true_eq,beq_iff_eq]
    omega)
   clear hz hh;generalize zeG s=n at *
   go_enter Tryz.func166,Tryz.ntmps166
   go_wp2_with fail
   refine (HP.out _).mono ?_;rintro e w1 ⟨rfl,rfl⟩
   go_wp2_with fail
   refine (HS.out _).mono ?_;rintro e w1 ⟨rfl,q,rfl⟩
   go_wp2
   go_ret
   exact ⟨zd (by rw[HB.out,HN.out]),ze (Below.refl _ _) q⟩
 ·rw[hh] at HP HB
  rw[if_pos rfl] at HB;have HX:=hid (fun w=>Suffix_any s 93 w hs);rw[show ((93:UInt8).toNat:Int)=93 from rfl] at HX
  cases hx:ends s 93
  ·rw[hx] at HX HB
   clear hh hx
   go_enter Tryz.func166,Tryz.ntmps166
   go_wp2_with fail
   refine (HP.out _).mono ?_;rintro e w1 ⟨rfl,rfl⟩
   go_wp2_with fail
   refine (HX.out _).mono ?_;rintro e w1 ⟨rfl,rfl⟩
   go_wp2
   go_ret
   exact ⟨zd (by rw[HB.out];rfl),Below.refl _ _⟩
  ·rw[hx] at HX HB
   have h2:2≤s.size:=by
    simp only[heads,ends,Bool.and_eq_true,decide_eq_true_eq] at hh hx
    rcases Nat.lt_or_ge s.size 2 with h1|h1
    ·have h3:=hh.1
     have h4:=hh.2;have h5:=hx.2;rw[show s.size - 1=0 by omega,h4] at h5
     omega
    ·exact h1
   have hz:=zk s (a:=1) (b:=s.size - 1) (by omega) (by omega);have HA:=hid (fun w hg=>zlW (s.extract 1 (s.size - 1)) w (by omega) hg);have i1:((s.size:Int) - 1).toNat=s.size - 1:=by omega
   have l1:(1:Int)≤(s.size:Int) - 1:=by omega
   clear hh hx hz;generalize zcj (s.extract 1 (s.size - 1))=r at *
   go_enter Tryz.func166,Tryz.ntmps166
   go_wp2_with fail
   refine (HP.out _).mono ?_;rintro e w1 ⟨rfl,rfl⟩
   go_wp2_with fail
   refine (HX.out _).mono ?_;rintro e w1 ⟨rfl,rfl⟩
   go_wp2_with fail
   refine (HA.out _ hg).mono ?_;rintro e w1 ⟨rfl,b1⟩
   go_wp2
   go_ret
   exact ⟨zd (by rw[HB.out];rfl),b1⟩
end Go.Proofs.YtbnafbdhomdcoaaGreatDoor.T5
