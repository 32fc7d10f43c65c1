/-
 CjDe, without what this claim does not reach.
-/
import Derived.Test.YtbnafbdhomdcoaaGreatDoorZm6
import Derived.Test.YtbnafbdhomdcoaaGreatDoorZTgRp
import Derived.Test.YtbnafbdhomdcoaaGreatDoorZTgAu
namespace Go.Proofs.YtbnafbdhomdcoaaGreatDoor
open Go.RowKit Go.Shelf Go.Lib
theorem zrk {m:zY} {r:Rq} (hk:m.kind=10):zx m r=if zej m r=true then .inl r else .inr (zT 421 []):=by
 unfold zx;rw[if_neg (by omega),if_neg (by omega),if_neg (by omega),if_neg (by omega),if_neg (by omega),if_pos hk]
theorem zlk:zeR.size≤maxLen:=by unfold maxLen;decide +kernel
theorem zts {m:zY} {r:Rq} {t:T5.Tg} {i:Nat} (h:T5.parseT r.method r.target=(t,i,0)) (hf:t.form=2):zej m r=zb5 m.list t.host:=by
 unfold zej zc9;rw[h,if_pos ⟨rfl,hf⟩]
theorem zvC {m:zY} {r:Rq} {t:T5.Tg} {i:Nat} {e:Int} (h:T5.parseT r.method r.target=(t,i,e)) (hf:¬(e=0∧t.form=2)) (ho:zaD r.fields zeR=none):zej m r=false:=by
 unfold zej zc9;rw[h,if_neg hf,ho]
theorem ztu {m:zY} {r:Rq} {t:T5.Tg} {i:Nat} {e:Int} {s:ByteArray} (h:T5.parseT r.method r.target=(t,i,e)) (hf:¬(e=0∧t.form=2)) (ho:zaD r.fields zeR=some s):zej m r=if (T5.authR s).2.2=0 then zb5 m.list (T5.authR s).1 else false:=by
 unfold zej zc9;rw[h,if_neg hf,ho]
 by_cases he:(T5.authR s).2.2=0
 ·simp[he]
 ·simp[he]
set_option maxRecDepth 20000 in
set_option maxHeartbeats 8000000 in
theorem zva {m:zY} (hkd:m.kind=10):zjN m 75:=by
 refine ⟨fun args w=>Tryz.call75 args w,fun D Pre n0 N T f w r A c FA fc TA tc hE hP hX hn0 hN8 hN hA hcap hF hT hm hr=>?_⟩;obtain ⟨g,lb,rfl,he,hc⟩:=hX;have HC:=hid (zdH fc tc hE hP hc hF hT hr);have HL:=hid hE.low;have HG:=hid (fun W h=>hE.globC (W:=W) h);have HN0:=hid hn0;have HN8:=hid hN8;have HN:=hid hN;have HA10:=hid (zrk (r:=r) hkd);have HB:=hid (fun y=>zfB (r:=r) y (.inr (.inr (.inr (.inr hkd)))));have HPA:=hid (fun (W:World) (h:Below w.heap.size w W)=>T5.Parse_any r.method r.target W (Nat.le_trans hr.target (by decide)) (hE.globC h).five);have HON:=hid (fun (W:World) (h:Below w.heap.size w W)=>zgq r FA fc TA tc zeR W (hF.below h).row hr zlk);have HAU:=hid (fun (s:ByteArray) (hs:s.size≤1048576) (W:World) (h:Below w.heap.size w W)=>T5.Authority_any s W (Nat.le_trans hs (by decide)) (hE.globC h).five);have HCT:=hid (fun (s:ByteArray) (W:World) (h:Below w.heap.size w W)=>zcC A c m.list s W (hA.below h).row (zg2 hm.list).1);have HOZ:=hid (fun s (h:zaD r.fields zeR=some s)=>zdS hr.fields h);have HH1:=hid (fun t i=>zts (m:=m) (r:=r) (t:=t) (i:=i));have HH2:=hid (fun t i e=>zvC (m:=m) (r:=r) (t:=t) (i:=i) (e:=e));have HH3:=hid (fun t i e s=>ztu (m:=m) (r:=r) (t:=t) (i:=i) (e:=e) (s:=s));have HPL:=hid (fun W hg=>zdV 421 none 0 [] W (Row.nil _ _) (by decide) (by decide) (by decide) hg);have HBD:=hid (show zT 421 []=⟨421,⟨#[]⟩,[ctF],zao 421⟩ from rfl);have hX0:=Below.refl (X3 w (zf m A c) (zu r FA fc TA tc)).heap.size (X3 w (zf m A c) (zu r FA fc TA tc));clear hc hE hP hn0 hN8 hN hA hcap hF hT hm hr hkd;generalize zao 421=bd at *;obtain ⟨pt,hpt⟩:∃pt,T5.parseT r.method r.target=pt:=⟨_,rfl⟩;rw[hpt] at HPA;have HPT:=hid hpt;clear hpt;obtain ⟨⟨tf,th,tp,tpa,tq,thq⟩,ti,te⟩:=pt;unfold T5.tgVal T5.Tg.val at HPA;dsimp only at HPA;unfold zL rqV at *;unfold zeR at HON;have hcase:(te=0∧tf=2)∨(te=0∧¬tf=2)∨¬te=0:=by
  by_cases h1:te=0
  ·by_cases h2:tf=2
   ·exact .inl ⟨h1,h2⟩
   ·exact .inr (.inl ⟨h1,h2⟩)
  ·exact .inr (.inr h1)
 rcases hcase with ⟨h1,h2⟩|hcase
 ·subst h1
  subst h2;have hin:=HH1.out _ _ HPT.out rfl;dsimp only at hin;have HCS:=hid (fun W h=>HCT.out th W h)
  cases hi:zb5 m.list th
  all_goals
   rw[hi] at hin HCS;clear hi HCT
  ·have HAI:=hid (show zx m r= .inr (zT 421 []) by rw[HA10.out,hin];rfl)
   clear hin HA10 HON HAU HOZ HH1 HH2 HH3
   go_enter Tryz.func75,Tryz.ntmps75
   go_wp2_with fail
   refine (HPA.out (X3 w (zf m A c) (zu r FA fc TA tc)) (zl hX0)).mono ?_;rintro e w1 ⟨rfl,hb1⟩;obtain ⟨⟨⟨m0,m1,m2,m3,m4⟩,a0,a1,a2,a3,a4,a5,a6⟩,⟨r0,r1,r2,r3⟩,f0,f1,f2,f3⟩:=zh HL.out (zb.of (D:=D) hb1);have hz2:=zS hb1;have hz1:=Nat.lt_of_succ_lt hz2;have hz0:=Nat.lt_of_succ_lt hz1;have hbT:=hb1.alloc hb1.size (.cells #[.int .i64 2,.string th,.int .i64 tp,.string tpa,.string tq,.bool thq] 114)
   go_wp2_with fail
   refine (HCS.out _ (zl hbT)).mono ?_;rintro e w2 ⟨rfl,rfl⟩
   go_wp2_with fail
   refine (HPL.out _ (HG.out _ (zl hbT))).mono ?_;rintro e w9 ⟨A1,c1,rfl,ho,hb⟩;have hbY:=hbT.trans (hb.mono hbT.size);clear m0 m1 m2 m3 m4 a0 a1 a2 a3 a4 a5 a6 r0 r1 r2 r3 f0 f1 f2 f3 hz2 hz1 hz0;obtain ⟨⟨⟨r0,r1,r2,r3⟩,f0,f1,f2,f3⟩,hz2⟩:=zbg HL.out hX0 (zb.of hbY);have HO:=hid (zn (b':=(X3 w (zf m A c) (zu r FA fc TA tc)).heap.size) ho hbT.size);have HBW:=hid (zl hbY);clear ho hb hbY
   go_wp2
   exact bodyPost_ret (v:=rsV ⟨421,⟨#[]⟩,[ctF],bd⟩ A1 c1) (by simp[results,Tryz.results75,go_sem,rsV,r0,r1,r2,r3]) rfl
    (zbo (b:=w.heap.size+1+1) (x:=⟨421,⟨#[]⟩,[ctF],bd⟩) HL.out (zae w (zf m A c) (zu r FA fc TA tc)) (by omega) (by rw[zaA];omega) HBW.out HO.out (by rw[HAI.out,HBD.out]) ((show zbH 8 (⟨421,⟨#[]⟩,[ctF],bd⟩:Rs) by rw[←HBD.out];exact zaJ 421 zR (by simp)).more (by have:=HN8.out;omega)) _ _ _ _)
  ·have HAI:=hid (show zx m r= .inl r by rw[HA10.out,hin];rfl)
   clear hin HA10 HON HAU HOZ HH1 HH2 HH3 HPL
   go_enter Tryz.func75,Tryz.ntmps75
   go_wp2_with fail
   refine (HPA.out (X3 w (zf m A c) (zu r FA fc TA tc)) (zl hX0)).mono ?_;rintro e w1 ⟨rfl,hb1⟩;obtain ⟨⟨⟨m0,m1,m2,m3,m4⟩,a0,a1,a2,a3,a4,a5,a6⟩,⟨r0,r1,r2,r3⟩,f0,f1,f2,f3⟩:=zh HL.out (zb.of (D:=D) hb1);have hz2:=zS hb1;have hz1:=Nat.lt_of_succ_lt hz2;have hz0:=Nat.lt_of_succ_lt hz1;have hbT:=hb1.alloc hb1.size (.cells #[.int .i64 2,.string th,.int .i64 tp,.string tpa,.string tq,.bool thq] 114)
   go_wp2_with fail
   refine (HCS.out _ (zl hbT)).mono ?_;rintro e w2 ⟨rfl,rfl⟩
   go_wp2_with fail
   refine (HC.out _ (zl hbT)).mono ?_;rintro e w9 ⟨y,A1,c1,rfl,hrow,hfit,hTT,hk⟩;clear m0 m1 m2 m3 m4 a0 a1 a2 a3 a4 a5 a6 r0 r1 r2 r3 f0 f1 f2 f3 hz2 hz1 hz0;obtain ⟨⟨⟨r0,r1,r2,r3⟩,f0,f1,f2,f3⟩,hz2⟩:=zbg HL.out hbT hk;have HE:=hid (zdN (F:=zB m r) (b:=w.heap.size+1+1) (M:=N+2) HN0.out (zl hbT) (by omega) (zS hbT) hrow hfit (by omega) hTT hk (HB.out y) (.int .i64 y.status) (.string y.reason) (.slice A1 y.fields.length c1) (.string y.body));clear hrow hfit hTT hk HC;unfold rsV at *
   go_wp2
   exact bodyPost_ret (v:=rsV y A1 c1) (by simp[results,Tryz.results75,go_sem,rsV,r0,r1,r2,r3]) rfl (HE.out.imp (Nat.le_refl _) fun _ _ _ h=>zbc HAI.out h)
 ·have hnf:¬(te=0∧tf=2):=by
   rintro ⟨h1,h2⟩
   rcases hcase with ⟨_,h⟩|h
   ·exact h h2
   ·exact h h1
  have hc2:(te=0∧(tf==2)=false)∨(te==0)=false:=by
   rcases hcase with ⟨h,h'⟩|h
   ·exact .inl ⟨h,beq_eq_false_iff_ne.2 h'⟩
   ·exact .inr (beq_eq_false_iff_ne.2 h)
  clear hcase
  cases hon:zaD r.fields zeR with
  |none=>
   have hin:=HH2.out _ _ _ HPT.out hnf hon;rw[show zaD r.fields ⟨#[72,111,115,116]⟩=none from hon] at HON;unfold zbO at HON;have HAI:=hid (show zx m r= .inr (zT 421 []) by rw[HA10.out,hin];rfl);clear hin HA10 HAU HOZ HH1 HH2 HH3 HCT hon hnf
   rcases hc2 with ⟨rfl,hb0⟩|hb0
   all_goals
    go_enter Tryz.func75,Tryz.ntmps75
    go_wp2_with fail
    refine (HPA.out (X3 w (zf m A c) (zu r FA fc TA tc)) (zl hX0)).mono ?_;rintro e w1 ⟨rfl,hb1⟩;obtain ⟨⟨⟨m0,m1,m2,m3,m4⟩,a0,a1,a2,a3,a4,a5,a6⟩,⟨r0,r1,r2,r3⟩,f0,f1,f2,f3⟩:=zh HL.out (zb.of (D:=D) hb1);have hz2:=zS hb1;have hz1:=Nat.lt_of_succ_lt hz2;have hz0:=Nat.lt_of_succ_lt hz1;have hbT:=hb1.alloc hb1.size (.cells #[.int .i64 tf,.string th,.int .i64 tp,.string tpa,.string tq,.bool thq] 114)
    go_wp2_with fail
    refine (HON.out _ (zl hbT)).mono ?_;rintro e w2 ⟨rfl,hb2⟩;have hb3:=hbT.trans (hb2.mono hbT.size);clear m0 m1 m2 m3 m4 a0 a1 a2 a3 a4 a5 a6 r0 r1 r2 r3 f0 f1 f2 f3 hz2 hz1 hz0;obtain ⟨⟨⟨m0,m1,m2,m3,m4⟩,a0,a1,a2,a3,a4,a5,a6⟩,⟨r0,r1,r2,r3⟩,f0,f1,f2,f3⟩:=zh HL.out (zb.of (D:=D) hb3);have hz2:=zS hb3;have hz1:=Nat.lt_of_succ_lt hz2;have hz0:=Nat.lt_of_succ_lt hz1;clear hb2 hbT
    go_wp2_with fail
    refine (HPL.out _ (HG.out _ (zl hb3))).mono ?_;rintro e w9 ⟨A1,c1,rfl,ho,hb⟩;have hbY:=hb3.trans (hb.mono hb3.size);clear m0 m1 m2 m3 m4 a0 a1 a2 a3 a4 a5 a6 r0 r1 r2 r3 f0 f1 f2 f3 hz2 hz1 hz0;obtain ⟨⟨⟨r0,r1,r2,r3⟩,f0,f1,f2,f3⟩,hz2⟩:=zbg HL.out hX0 (zb.of hbY);have HO:=hid (zn (b':=(X3 w (zf m A c) (zu r FA fc TA tc)).heap.size) ho hb3.size);have HBW:=hid (zl hbY);clear ho hb hbY
    go_wp2
    exact bodyPost_ret (v:=rsV ⟨421,⟨#[]⟩,[ctF],bd⟩ A1 c1) (by simp[results,Tryz.results75,go_sem,rsV,r0,r1,r2,r3]) rfl
     (zbo (b:=w.heap.size+1+1) (x:=⟨421,⟨#[]⟩,[ctF],bd⟩) HL.out (zae w (zf m A c) (zu r FA fc TA tc)) (by omega) (by rw[zaA];omega) HBW.out HO.out (by rw[HAI.out,HBD.out]) ((show zbH 8 (⟨421,⟨#[]⟩,[ctF],bd⟩:Rs) by rw[←HBD.out];exact zaJ 421 zR (by simp)).more (by have:=HN8.out;omega)) _ _ _ _)
  |some s=>
   have hin:=HH3.out _ _ _ _ HPT.out hnf hon;have HAS:=hid (fun W h=>HAU.out s (HOZ.out s hon) W h);rw[show zaD r.fields ⟨#[72,111,115,116]⟩=some s from hon] at HON;unfold zbO at HON;unfold T5.authVal at HAS;clear HAU HOZ HH1 HH2 HH3 hon hnf;generalize T5.authR s=ar at *;obtain ⟨ah,ap,ae⟩:=ar;dsimp only at HAS hin
   by_cases hae:ae=0
   ·subst hae
    rw[if_pos rfl] at hin;have HCS:=hid (fun W h=>HCT.out ah W h)
    cases hi:zb5 m.list ah
    all_goals
     rw[hi] at hin HCS;clear hi HCT
    ·have HAI:=hid (show zx m r= .inr (zT 421 []) by rw[HA10.out,hin];rfl)
     clear hin HA10
     rcases hc2 with ⟨rfl,hb0⟩|hb0
     all_goals
      go_enter Tryz.func75,Tryz.ntmps75
      go_wp2_with fail
      refine (HPA.out (X3 w (zf m A c) (zu r FA fc TA tc)) (zl hX0)).mono ?_;rintro e w1 ⟨rfl,hb1⟩;obtain ⟨⟨⟨m0,m1,m2,m3,m4⟩,a0,a1,a2,a3,a4,a5,a6⟩,⟨r0,r1,r2,r3⟩,f0,f1,f2,f3⟩:=zh HL.out (zb.of (D:=D) hb1);have hz2:=zS hb1;have hz1:=Nat.lt_of_succ_lt hz2;have hz0:=Nat.lt_of_succ_lt hz1;have hbT:=hb1.alloc hb1.size (.cells #[.int .i64 tf,.string th,.int .i64 tp,.string tpa,.string tq,.bool thq] 114)
      go_wp2_with fail
      refine (HON.out _ (zl hbT)).mono ?_;rintro e w2 ⟨rfl,hb2⟩;have hb3:=hbT.trans (hb2.mono hbT.size);clear m0 m1 m2 m3 m4 a0 a1 a2 a3 a4 a5 a6 r0 r1 r2 r3 f0 f1 f2 f3 hz2 hz1 hz0;obtain ⟨⟨⟨m0,m1,m2,m3,m4⟩,a0,a1,a2,a3,a4,a5,a6⟩,⟨r0,r1,r2,r3⟩,f0,f1,f2,f3⟩:=zh HL.out (zb.of (D:=D) hb3);have hz2:=zS hb3;have hz1:=Nat.lt_of_succ_lt hz2;have hz0:=Nat.lt_of_succ_lt hz1;clear hb2 hbT
      go_wp2_with fail
      refine (HAS.out _ (zl hb3)).mono ?_;rintro e w3 ⟨rfl,hb4⟩;have hb5:=hb3.trans (hb4.mono hb3.size);clear m0 m1 m2 m3 m4 a0 a1 a2 a3 a4 a5 a6 r0 r1 r2 r3 f0 f1 f2 f3 hz2 hz1 hz0;obtain ⟨⟨⟨m0,m1,m2,m3,m4⟩,a0,a1,a2,a3,a4,a5,a6⟩,⟨r0,r1,r2,r3⟩,f0,f1,f2,f3⟩:=zh HL.out (zb.of (D:=D) hb5);have hz2:=zS hb5;have hz1:=Nat.lt_of_succ_lt hz2;have hz0:=Nat.lt_of_succ_lt hz1;clear hb4
      go_wp2_with fail
      refine (HCS.out _ (zl hb5)).mono ?_;rintro e w2 ⟨rfl,rfl⟩
      go_wp2_with fail
      refine (HPL.out _ (HG.out _ (zl hb5))).mono ?_;rintro e w9 ⟨A1,c1,rfl,ho,hb⟩;have hbY:=hb5.trans (hb.mono hb5.size);clear m0 m1 m2 m3 m4 a0 a1 a2 a3 a4 a5 a6 r0 r1 r2 r3 f0 f1 f2 f3 hz2 hz1 hz0;obtain ⟨⟨⟨r0,r1,r2,r3⟩,f0,f1,f2,f3⟩,hz2⟩:=zbg HL.out hX0 (zb.of hbY);have HO:=hid (zn (b':=(X3 w (zf m A c) (zu r FA fc TA tc)).heap.size) ho hb5.size);have HBW:=hid (zl hbY);clear ho hb hbY
      go_wp2
      exact bodyPost_ret (v:=rsV ⟨421,⟨#[]⟩,[ctF],bd⟩ A1 c1) (by simp[results,Tryz.results75,go_sem,rsV,r0,r1,r2,r3]) rfl
       (zbo (b:=w.heap.size+1+1) (x:=⟨421,⟨#[]⟩,[ctF],bd⟩) HL.out (zae w (zf m A c) (zu r FA fc TA tc)) (by omega) (by rw[zaA];omega) HBW.out HO.out (by rw[HAI.out,HBD.out]) ((show zbH 8 (⟨421,⟨#[]⟩,[ctF],bd⟩:Rs) by rw[←HBD.out];exact zaJ 421 zR (by simp)).more (by have:=HN8.out;omega)) _ _ _ _)
    ·have HAI:=hid (show zx m r= .inl r by rw[HA10.out,hin];rfl)
     clear hin HA10 HPL
     rcases hc2 with ⟨rfl,hb0⟩|hb0
     all_goals
      go_enter Tryz.func75,Tryz.ntmps75
      go_wp2_with fail
      refine (HPA.out (X3 w (zf m A c) (zu r FA fc TA tc)) (zl hX0)).mono ?_;rintro e w1 ⟨rfl,hb1⟩;obtain ⟨⟨⟨m0,m1,m2,m3,m4⟩,a0,a1,a2,a3,a4,a5,a6⟩,⟨r0,r1,r2,r3⟩,f0,f1,f2,f3⟩:=zh HL.out (zb.of (D:=D) hb1);have hz2:=zS hb1;have hz1:=Nat.lt_of_succ_lt hz2;have hz0:=Nat.lt_of_succ_lt hz1;have hbT:=hb1.alloc hb1.size (.cells #[.int .i64 tf,.string th,.int .i64 tp,.string tpa,.string tq,.bool thq] 114)
      go_wp2_with fail
      refine (HON.out _ (zl hbT)).mono ?_;rintro e w2 ⟨rfl,hb2⟩;have hb3:=hbT.trans (hb2.mono hbT.size);clear m0 m1 m2 m3 m4 a0 a1 a2 a3 a4 a5 a6 r0 r1 r2 r3 f0 f1 f2 f3 hz2 hz1 hz0;obtain ⟨⟨⟨m0,m1,m2,m3,m4⟩,a0,a1,a2,a3,a4,a5,a6⟩,⟨r0,r1,r2,r3⟩,f0,f1,f2,f3⟩:=zh HL.out (zb.of (D:=D) hb3);have hz2:=zS hb3;have hz1:=Nat.lt_of_succ_lt hz2;have hz0:=Nat.lt_of_succ_lt hz1;clear hb2 hbT
      go_wp2_with fail
      refine (HAS.out _ (zl hb3)).mono ?_;rintro e w3 ⟨rfl,hb4⟩;have hb5:=hb3.trans (hb4.mono hb3.size);clear m0 m1 m2 m3 m4 a0 a1 a2 a3 a4 a5 a6 r0 r1 r2 r3 f0 f1 f2 f3 hz2 hz1 hz0;obtain ⟨⟨⟨m0,m1,m2,m3,m4⟩,a0,a1,a2,a3,a4,a5,a6⟩,⟨r0,r1,r2,r3⟩,f0,f1,f2,f3⟩:=zh HL.out (zb.of (D:=D) hb5);have hz2:=zS hb5;have hz1:=Nat.lt_of_succ_lt hz2;have hz0:=Nat.lt_of_succ_lt hz1;clear hb4
      go_wp2_with fail
      refine (HCS.out _ (zl hb5)).mono ?_;rintro e w2 ⟨rfl,rfl⟩
      go_wp2_with fail
      refine (HC.out _ (zl hb5)).mono ?_;rintro e w9 ⟨y,A1,c1,rfl,hrow,hfit,hTT,hk⟩;clear m0 m1 m2 m3 m4 a0 a1 a2 a3 a4 a5 a6 r0 r1 r2 r3 f0 f1 f2 f3 hz2 hz1 hz0;obtain ⟨⟨⟨r0,r1,r2,r3⟩,f0,f1,f2,f3⟩,hz2⟩:=zbg HL.out hb5 hk;have HE:=hid (zdN (F:=zB m r) (b:=w.heap.size+1+1) (M:=N+2) HN0.out (zl hb5) (by omega) (zS hb5) hrow hfit (by omega) hTT hk (HB.out y) (.int .i64 y.status) (.string y.reason) (.slice A1 y.fields.length c1) (.string y.body));clear hrow hfit hTT hk HC;unfold rsV at *
      go_wp2
      exact bodyPost_ret (v:=rsV y A1 c1) (by simp[results,Tryz.results75,go_sem,rsV,r0,r1,r2,r3]) rfl (HE.out.imp (Nat.le_refl _) fun _ _ _ h=>zbc HAI.out h)
   ·rw[if_neg hae] at hin
    have hae2:(ae==0)=false:=beq_eq_false_iff_ne.2 hae;have HAI:=hid (show zx m r= .inr (zT 421 []) by rw[HA10.out,hin];rfl);clear hin HA10 HCT hae
    rcases hc2 with ⟨rfl,hb0⟩|hb0
    all_goals
     go_enter Tryz.func75,Tryz.ntmps75
     go_wp2_with fail
     refine (HPA.out (X3 w (zf m A c) (zu r FA fc TA tc)) (zl hX0)).mono ?_;rintro e w1 ⟨rfl,hb1⟩;obtain ⟨⟨⟨m0,m1,m2,m3,m4⟩,a0,a1,a2,a3,a4,a5,a6⟩,⟨r0,r1,r2,r3⟩,f0,f1,f2,f3⟩:=zh HL.out (zb.of (D:=D) hb1);have hz2:=zS hb1;have hz1:=Nat.lt_of_succ_lt hz2;have hz0:=Nat.lt_of_succ_lt hz1;have hbT:=hb1.alloc hb1.size (.cells #[.int .i64 tf,.string th,.int .i64 tp,.string tpa,.string tq,.bool thq] 114)
     go_wp2_with fail
     refine (HON.out _ (zl hbT)).mono ?_;rintro e w2 ⟨rfl,hb2⟩;have hb3:=hbT.trans (hb2.mono hbT.size);clear m0 m1 m2 m3 m4 a0 a1 a2 a3 a4 a5 a6 r0 r1 r2 r3 f0 f1 f2 f3 hz2 hz1 hz0;obtain ⟨⟨⟨m0,m1,m2,m3,m4⟩,a0,a1,a2,a3,a4,a5,a6⟩,⟨r0,r1,r2,r3⟩,f0,f1,f2,f3⟩:=zh HL.out (zb.of (D:=D) hb3);have hz2:=zS hb3;have hz1:=Nat.lt_of_succ_lt hz2;have hz0:=Nat.lt_of_succ_lt hz1;clear hb2 hbT
     go_wp2_with fail
     refine (HAS.out _ (zl hb3)).mono ?_;rintro e w3 ⟨rfl,hb4⟩;have hb5:=hb3.trans (hb4.mono hb3.size);clear m0 m1 m2 m3 m4 a0 a1 a2 a3 a4 a5 a6 r0 r1 r2 r3 f0 f1 f2 f3 hz2 hz1 hz0;obtain ⟨⟨⟨m0,m1,m2,m3,m4⟩,a0,a1,a2,a3,a4,a5,a6⟩,⟨r0,r1,r2,r3⟩,f0,f1,f2,f3⟩:=zh HL.out (zb.of (D:=D) hb5);have hz2:=zS hb5;have hz1:=Nat.lt_of_succ_lt hz2;have hz0:=Nat.lt_of_succ_lt hz1;clear hb4
     go_wp2_with fail
     refine (HPL.out _ (HG.out _ (zl hb5))).mono ?_;rintro e w9 ⟨A1,c1,rfl,ho,hb⟩;have hbY:=hb5.trans (hb.mono hb5.size);clear m0 m1 m2 m3 m4 a0 a1 a2 a3 a4 a5 a6 r0 r1 r2 r3 f0 f1 f2 f3 hz2 hz1 hz0;obtain ⟨⟨⟨r0,r1,r2,r3⟩,f0,f1,f2,f3⟩,hz2⟩:=zbg HL.out hX0 (zb.of hbY);have HO:=hid (zn (b':=(X3 w (zf m A c) (zu r FA fc TA tc)).heap.size) ho hb5.size);have HBW:=hid (zl hbY);clear ho hb hbY
     go_wp2
     exact bodyPost_ret (v:=rsV ⟨421,⟨#[]⟩,[ctF],bd⟩ A1 c1) (by simp[results,Tryz.results75,go_sem,rsV,r0,r1,r2,r3]) rfl
      (zbo (b:=w.heap.size+1+1) (x:=⟨421,⟨#[]⟩,[ctF],bd⟩) HL.out (zae w (zf m A c) (zu r FA fc TA tc)) (by omega) (by rw[zaA];omega) HBW.out HO.out (by rw[HAI.out,HBD.out]) ((show zbH 8 (⟨421,⟨#[]⟩,[ctF],bd⟩:Rs) by rw[←HBD.out];exact zaJ 421 zR (by simp)).more (by have:=HN8.out;omega)) _ _ _ _)
end Go.Proofs.YtbnafbdhomdcoaaGreatDoor
