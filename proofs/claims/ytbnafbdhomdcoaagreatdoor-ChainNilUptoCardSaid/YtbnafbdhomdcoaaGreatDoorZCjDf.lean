/-
 CjDf, without what this claim does not reach.
-/
import Derived.Test.YtbnafbdhomdcoaaGreatDoorZCjDe
import Derived.Test.YtbnafbdhomdcoaaGreatDoorZm4
namespace Go.Proofs.YtbnafbdhomdcoaaGreatDoor
open Go.RowKit Go.Shelf Go.Lib
theorem zw3 {m:zY} {r:Rq} (hk:m.kind=6):zx m r=if zb9 m.value r.method r.target=true then .inl {r with target:=zdX m.value r.method r.target} else .inr (zT 404 []):=by
 unfold zx;rw[if_neg (by omega),if_neg (by omega),if_pos hk]
theorem zjY (s v:ByteArray) (w:World):
  Calls Tryz.prog 100 #[.string s,.string v] w fun e w'=>e= .returned (.tuple #[.string (if zc0 v s=true then s.extract v.size s.size else s),.bool (zc0 v s)])∧w=w':=by
 refine (Tryz.strings_CutPrefix s v w).mono fun e w' ⟨h1,h2⟩=>⟨?_,h2.symm⟩
 rw[h1,zj8]
 cases h:zc0 v s
 ·have:Lib.trimPrefix s.data.toList v.data.toList=s.data.toList:=by unfold Lib.trimPrefix;rw[zj8,h];rfl
  rw[this]
  rfl
 ·rw[zu1 s v h]
  rfl
theorem zq9 {D:Nat→Prop} {w w':World} {a b:Array Value} (hD:∀k,D k→k<w.heap.size) (h:zb D (X3 w a b) w'):w'.frozen? ⟨w.heap.size+1,1,none⟩=false:=by
 have hn:¬D (w.heap.size+1):=fun hd=>by have:=hD _ hd;omega
 rw[h.frozen (p:=⟨w.heap.size+1,1,none⟩) (by rw[zaA];simp) hn];unfold X3;show (((w.alloc (.cells a 24)).alloc (.cells b 27)).alloc (.cells zei 29)).frozen? ⟨w.heap.size+1,1,none⟩=false;rw[World.frozen?_alloc_past _ _ _ (by simp)];exact World.frozen?_alloc_at _ _ _ _ (by simp)
theorem zbE {w1:World} {n b:Nat} {v:Value} {o:Obj} {j:Nat} (hb:b<w1.heap.size) (hne:b≠n):((w1.setCell ⟨n,1,none⟩ v).alloc o).drew.cell? ⟨b,j,none⟩=w1.cell? ⟨b,j,none⟩∧((w1.setCell ⟨n,1,none⟩ v).alloc o).drew.frozen? ⟨b,j,none⟩=w1.frozen? ⟨b,j,none⟩:=by
 have hh:((w1.setCell ⟨n,1,none⟩ v).alloc o).drew.heap[b]?=w1.heap[b]?:=by
  show ((w1.setCell ⟨n,1,none⟩ v).alloc o).heap[b]?=_;rw[Below.heap_alloc _ _ _ (by simpa using hb),Below.heap_setCell _ _ _ _ hne]
 exact ⟨World.cell?_of_block hh,World.frozen?_of_block hh⟩
theorem zuJ {v m s:ByteArray} {t:T5.Tg} {i:Nat} {e:Int} (hp:T5.parseT m s=(t,i,e)) (h:zb9 v m s=false):
  ¬e=0∨(e=0∧¬t.form=1∧¬t.form=2)∨(e=0∧(t.form=1∨t.form=2)∧zc0 v t.path=false)∨(e=0∧(t.form=1∨t.form=2)∧zc0 v t.path=true∧¬(t.path.extract v.size t.path.size).size=0∧¬bt (t.path.extract v.size t.path.size) 0=47):=by
 unfold zb9 zfE at h;rw[hp] at h;dsimp only at h
 by_cases h1:e=0
 ·by_cases h2:t.form=1∨t.form=2
  ·have h2':(decide (t.form=1)||decide (t.form=2))=true:=by simpa using h2
   cases h3:zc0 v t.path
   ·exact .inr (.inr (.inl ⟨h1,h2,rfl⟩))
   ·rw[h2',decide_eq_true h1,h3] at h
    simp only[Bool.true_and,Bool.or_eq_false_iff,decide_eq_false_iff_not] at h;exact .inr (.inr (.inr ⟨h1,h2,rfl,h.1,h.2⟩))
  ·exact .inr (.inl ⟨h1,fun g=>h2 (.inl g),fun g=>h2 (.inr g)⟩)
 ·exact .inl h1
theorem zr9 {v m s:ByteArray} {t:T5.Tg} {j:Nat} {e:Int} (hv:zaZ v=true) (hp:T5.parseT m s=(t,j,e)) (h:zb9 v m s=true):
  e=0∧zc0 v t.path=true∧((t.path.extract v.size t.path.size).size=0∨bt (t.path.extract v.size t.path.size) 0=47)∧
  ∃i:Nat,i+t.path.size≤s.size∧(t.form=1∧i=0∨t.form=2∧7≤i∧7≤s.size∧za7 (s.extract 7 s.size) 47=((i - 7:Nat):Int))∧
   zdX v m s=s.extract 0 i++(if (t.path.extract v.size t.path.size).size=0 then zeJ else t.path.extract v.size t.path.size)++s.extract (i+t.path.size) s.size:=by
 obtain ⟨i,h1,h2,h3,h4,h5,h6⟩:=zgQ hv h;have hT:zdX v m s=s.extract 0 i++(if (t.path.extract v.size t.path.size).size=0 then zeJ else t.path.extract v.size t.path.size)++s.extract (i+t.path.size) s.size:=by
  unfold zdX zfE;rw[h1,hp,Int.toNat_natCast]
 unfold zb9 zfE at h;rw[hp] at h h1 h2 h6;simp only[Bool.and_eq_true,Bool.or_eq_true,decide_eq_true_eq] at h;refine ⟨h.1,h.2.2.1,h.2.2.2,i,h2,?_,hT⟩
 rcases h6 with ⟨g1,g2⟩|⟨g1,g2,g3⟩
 ·exact .inl ⟨g1,g2⟩
 ·refine .inr ⟨g1,?_,g2,?_⟩
  ·rw[g3];exact (T5.endA_spec g2).1
  ·have h7:7≤i:=by rw[g3];exact (T5.endA_spec g2).1
   unfold atP at h1;rw[if_pos g1] at h1
   omega
set_option maxRecDepth 20000 in
set_option maxHeartbeats 8000000 in
theorem zua {m:zY} (hkd:m.kind=6) (hv:zaZ m.value=true):zjN m 67:=by
 refine ⟨fun args w=>Tryz.call67 args w,fun D Pre n0 N T f w r A c FA fc TA tc hE hP hX hn0 hN8 hN hA hcap hF hT hm hr=>?_⟩;obtain ⟨g,lb,rfl,he,hc⟩:=hX;have HC:=hid (zdH fc tc hE hP hc hF hT hr);have HL:=hid hE.low;have HG:=hid (fun W h=>hE.globC (W:=W) h);have HN0:=hid hn0;have HN8:=hid hN8;have HN:=hid hN;have HA6:=hid (zw3 (r:=r) hkd);have HB:=hid (fun y=>zfB (r:=r) y (.inr (.inr (.inl hkd))));have HPA:=hid (fun (W:World) (h:Below w.heap.size w W)=>T5.Parse_any r.method r.target W (Nat.le_trans hr.target (by decide)) (hE.globC h).five);have HCQ:=hid (fun (hs:zb9 m.value r.method r.target=true)=>zdH fc tc (r:={r with target:=zdX m.value r.method r.target}) hE hP hc hF hT ⟨hr.method,Nat.le_trans (zhH hv hs) hr.target,hr.fields,hr.body⟩);have HNO:=hid (fun t i e=>zuJ (v:=m.value) (m:=r.method) (s:=r.target) (t:=t) (i:=i) (e:=e));have HYE:=hid (fun t i e=>zr9 (v:=m.value) (m:=r.method) (s:=r.target) (t:=t) (j:=i) (e:=e) hv);have HTZ:=hid hr.target;have HSS:=hid (fun h=>zhH (v:=m.value) (m:=r.method) (s:=r.target) hv h);have HPL:=hid (fun W hg=>zdV 404 none 0 [] W (Row.nil _ _) (by decide) (by decide) (by decide) hg);have HBD:=hid (show zT 404 []=⟨404,⟨#[]⟩,[ctF],zao 404⟩ from rfl);have hX0:=Below.refl (X3 w (zf m A c) (zu r FA fc TA tc)).heap.size (X3 w (zf m A c) (zu r FA fc TA tc));clear hc hE hP hn0 hN8 hN hA hcap hF hT hm hr hkd;clear hv HC;generalize zao 404=bd at *;obtain ⟨pt,hpt⟩:∃pt,T5.parseT r.method r.target=pt:=⟨_,rfl⟩;rw[hpt] at HPA;have HPT:=hid hpt;clear hpt;obtain ⟨⟨tf,th,tp,tpa,tq,thq⟩,ti,te⟩:=pt;unfold T5.tgVal T5.Tg.val at HPA;dsimp only at HPA;have HCU:=hid (fun (W:World)=>zjY tpa m.value W);unfold zL rqV at *
 cases hok:zb9 m.value r.method r.target
 ·have HAI:=hid (show zx m r= .inr (zT 404 []) by rw[HA6.out,hok];rfl)
  have hno:=HNO.out _ _ _ HPT.out hok;clear hok HA6 HNO HYE HCQ HSS;dsimp only at hno
  rcases hno with h1|⟨rfl,h2,h3⟩|⟨rfl,h2,h3⟩|⟨rfl,h2,h3,h4,h5⟩
  ·have hb0:(te !=0)=true:=bne_iff_ne.2 h1
   clear h1
   go_enter Tryz.func67,Tryz.ntmps67
   go_wp2_with fail
   refine (HPA.out (X3 w (zf m A c) (zu r FA fc TA tc)) (zl hX0)).mono ?_;rintro e w1 ⟨rfl,hb1⟩;obtain ⟨⟨⟨m0,m1,m2,m3,m4⟩,a0,a1,a2,a3,a4,a5,a6⟩,⟨r0,r1,r2,r3⟩,f0,f1,f2,f3⟩:=zh HL.out (zb.of (D:=D) hb1);have hz2:=zS hb1;have hz1:=Nat.lt_of_succ_lt hz2;have hz0:=Nat.lt_of_succ_lt hz1;have hbT:=hb1.alloc hb1.size (.cells #[.int .i64 tf,.string th,.int .i64 tp,.string tpa,.string tq,.bool thq] 114)
   go_wp2_with fail
   refine (HPL.out _ (HG.out _ (zl hbT))).mono ?_;rintro e w9 ⟨A1,c1,rfl,ho,hb⟩;have hbY:=hbT.trans (hb.mono hbT.size);clear m0 m1 m2 m3 m4 a0 a1 a2 a3 a4 a5 a6 r0 r1 r2 r3 f0 f1 f2 f3 hz2 hz1 hz0;obtain ⟨⟨⟨r0,r1,r2,r3⟩,f0,f1,f2,f3⟩,hz2⟩:=zbg HL.out hX0 (zb.of hbY);have HO:=hid (zn (b':=(X3 w (zf m A c) (zu r FA fc TA tc)).heap.size) ho hbT.size);have HBW:=hid (zl hbY);clear ho hb hbY
   go_wp2
   exact bodyPost_ret (v:=rsV ⟨404,⟨#[]⟩,[ctF],bd⟩ A1 c1) (by simp[results,Tryz.results67,go_sem,rsV,r0,r1,r2,r3]) rfl
    (zbo (b:=w.heap.size+1+1) (x:=⟨404,⟨#[]⟩,[ctF],bd⟩) HL.out (zae w (zf m A c) (zu r FA fc TA tc)) (by omega) (by rw[zaA];omega) HBW.out HO.out (by rw[HAI.out,HBD.out]) ((show zbH 8 (⟨404,⟨#[]⟩,[ctF],bd⟩:Rs) by rw[←HBD.out];exact zaJ 404 zR (by simp)).more (by have:=HN8.out;omega)) _ _ _ _)
  ·have hb0:(tf !=1)=true:=bne_iff_ne.2 h2
   have hb2:(tf !=2)=true:=bne_iff_ne.2 h3;clear h2 h3
   go_enter Tryz.func67,Tryz.ntmps67
   go_wp2_with fail
   refine (HPA.out (X3 w (zf m A c) (zu r FA fc TA tc)) (zl hX0)).mono ?_;rintro e w1 ⟨rfl,hb1⟩;obtain ⟨⟨⟨m0,m1,m2,m3,m4⟩,a0,a1,a2,a3,a4,a5,a6⟩,⟨r0,r1,r2,r3⟩,f0,f1,f2,f3⟩:=zh HL.out (zb.of (D:=D) hb1);have hz2:=zS hb1;have hz1:=Nat.lt_of_succ_lt hz2;have hz0:=Nat.lt_of_succ_lt hz1;have hbT:=hb1.alloc hb1.size (.cells #[.int .i64 tf,.string th,.int .i64 tp,.string tpa,.string tq,.bool thq] 114)
   go_wp2_with fail
   refine (HPL.out _ (HG.out _ (zl hbT))).mono ?_;rintro e w9 ⟨A1,c1,rfl,ho,hb⟩;have hbY:=hbT.trans (hb.mono hbT.size);clear m0 m1 m2 m3 m4 a0 a1 a2 a3 a4 a5 a6 r0 r1 r2 r3 f0 f1 f2 f3 hz2 hz1 hz0;obtain ⟨⟨⟨r0,r1,r2,r3⟩,f0,f1,f2,f3⟩,hz2⟩:=zbg HL.out hX0 (zb.of hbY);have HO:=hid (zn (b':=(X3 w (zf m A c) (zu r FA fc TA tc)).heap.size) ho hbT.size);have HBW:=hid (zl hbY);clear ho hb hbY
   go_wp2
   exact bodyPost_ret (v:=rsV ⟨404,⟨#[]⟩,[ctF],bd⟩ A1 c1) (by simp[results,Tryz.results67,go_sem,rsV,r0,r1,r2,r3]) rfl
    (zbo (b:=w.heap.size+1+1) (x:=⟨404,⟨#[]⟩,[ctF],bd⟩) HL.out (zae w (zf m A c) (zu r FA fc TA tc)) (by omega) (by rw[zaA];omega) HBW.out HO.out (by rw[HAI.out,HBD.out]) ((show zbH 8 (⟨404,⟨#[]⟩,[ctF],bd⟩:Rs) by rw[←HBD.out];exact zaJ 404 zR (by simp)).more (by have:=HN8.out;omega)) _ _ _ _)
  ·rw[h3] at HCU
   simp only[Bool.false_eq_true,if_false] at HCU;have hfm:(tf !=1)=false∨((tf !=1)=true∧(tf !=2)=false):=by
    rcases h2 with h|h
    ·exact .inl (by rw[h];rfl)
    ·exact .inr ⟨by rw[h];rfl,by rw[h];rfl⟩
   clear h2
   rcases hfm with hb0|⟨hb0,hb2⟩
   all_goals
    go_enter Tryz.func67,Tryz.ntmps67
    go_wp2_with fail
    refine (HPA.out (X3 w (zf m A c) (zu r FA fc TA tc)) (zl hX0)).mono ?_;rintro e w1 ⟨rfl,hb1⟩;obtain ⟨⟨⟨m0,m1,m2,m3,m4⟩,a0,a1,a2,a3,a4,a5,a6⟩,⟨r0,r1,r2,r3⟩,f0,f1,f2,f3⟩:=zh HL.out (zb.of (D:=D) hb1);have hz2:=zS hb1;have hz1:=Nat.lt_of_succ_lt hz2;have hz0:=Nat.lt_of_succ_lt hz1;have hbT:=hb1.alloc hb1.size (.cells #[.int .i64 tf,.string th,.int .i64 tp,.string tpa,.string tq,.bool thq] 114)
    go_wp2_with fail
    refine (HCU.out _).mono ?_;rintro e w2 ⟨rfl,rfl⟩
    go_wp2_with fail
    refine (HPL.out _ (HG.out _ (zl hbT))).mono ?_;rintro e w9 ⟨A1,c1,rfl,ho,hb⟩;have hbY:=hbT.trans (hb.mono hbT.size);clear m0 m1 m2 m3 m4 a0 a1 a2 a3 a4 a5 a6 r0 r1 r2 r3 f0 f1 f2 f3 hz2 hz1 hz0;obtain ⟨⟨⟨r0,r1,r2,r3⟩,f0,f1,f2,f3⟩,hz2⟩:=zbg HL.out hX0 (zb.of hbY);have HO:=hid (zn (b':=(X3 w (zf m A c) (zu r FA fc TA tc)).heap.size) ho hbT.size);have HBW:=hid (zl hbY);clear ho hb hbY
    go_wp2
    exact bodyPost_ret (v:=rsV ⟨404,⟨#[]⟩,[ctF],bd⟩ A1 c1) (by simp[results,Tryz.results67,go_sem,rsV,r0,r1,r2,r3]) rfl
     (zbo (b:=w.heap.size+1+1) (x:=⟨404,⟨#[]⟩,[ctF],bd⟩) HL.out (zae w (zf m A c) (zu r FA fc TA tc)) (by omega) (by rw[zaA];omega) HBW.out HO.out (by rw[HAI.out,HBD.out]) ((show zbH 8 (⟨404,⟨#[]⟩,[ctF],bd⟩:Rs) by rw[←HBD.out];exact zaJ 404 zR (by simp)).more (by have:=HN8.out;omega)) _ _ _ _)
  ·rw[h3] at HCU
   simp only[if_true] at HCU;generalize tpa.extract m.value.size tpa.size=rest at *;have hrz:0<rest.size:=Nat.pos_of_ne_zero h4;have hre:=zaa h4;have hq0:((rest[0]'hrz).toNat:Int)=bt rest 0:=zE hrz;have hq1:(bt rest 0!=47)=true:=bne_iff_ne.2 h5;clear h4 h5;have hfm:(tf !=1)=false∨((tf !=1)=true∧(tf !=2)=false):=by
    rcases h2 with h|h
    ·exact .inl (by rw[h];rfl)
    ·exact .inr ⟨by rw[h];rfl,by rw[h];rfl⟩
   clear h2
   rcases hfm with hb0|⟨hb0,hb2⟩
   all_goals
    go_enter Tryz.func67,Tryz.ntmps67
    go_wp2_with fail
    refine (HPA.out (X3 w (zf m A c) (zu r FA fc TA tc)) (zl hX0)).mono ?_;rintro e w1 ⟨rfl,hb1⟩;obtain ⟨⟨⟨m0,m1,m2,m3,m4⟩,a0,a1,a2,a3,a4,a5,a6⟩,⟨r0,r1,r2,r3⟩,f0,f1,f2,f3⟩:=zh HL.out (zb.of (D:=D) hb1);have hz2:=zS hb1;have hz1:=Nat.lt_of_succ_lt hz2;have hz0:=Nat.lt_of_succ_lt hz1;have hbT:=hb1.alloc hb1.size (.cells #[.int .i64 tf,.string th,.int .i64 tp,.string tpa,.string tq,.bool thq] 114)
    go_wp2_with fail
    refine (HCU.out _).mono ?_;rintro e w2 ⟨rfl,rfl⟩
    go_wp2_with fail
    refine (HPL.out _ (HG.out _ (zl hbT))).mono ?_;rintro e w9 ⟨A1,c1,rfl,ho,hb⟩;have hbY:=hbT.trans (hb.mono hbT.size);clear m0 m1 m2 m3 m4 a0 a1 a2 a3 a4 a5 a6 r0 r1 r2 r3 f0 f1 f2 f3 hz2 hz1 hz0;obtain ⟨⟨⟨r0,r1,r2,r3⟩,f0,f1,f2,f3⟩,hz2⟩:=zbg HL.out hX0 (zb.of hbY);have HO:=hid (zn (b':=(X3 w (zf m A c) (zu r FA fc TA tc)).heap.size) ho hbT.size);have HBW:=hid (zl hbY);clear ho hb hbY
    go_wp2
    exact bodyPost_ret (v:=rsV ⟨404,⟨#[]⟩,[ctF],bd⟩ A1 c1) (by simp[results,Tryz.results67,go_sem,rsV,r0,r1,r2,r3]) rfl
     (zbo (b:=w.heap.size+1+1) (x:=⟨404,⟨#[]⟩,[ctF],bd⟩) HL.out (zae w (zf m A c) (zu r FA fc TA tc)) (by omega) (by rw[zaA];omega) HBW.out HO.out (by rw[HAI.out,HBD.out]) ((show zbH 8 (⟨404,⟨#[]⟩,[ctF],bd⟩:Rs) by rw[←HBD.out];exact zaJ 404 zR (by simp)).more (by have:=HN8.out;omega)) _ _ _ _)
 ·have HAI:=hid (show zx m r= .inl {r with target:=zdX m.value r.method r.target} by rw[HA6.out,hok];rfl)
  have HC:=hid (HCQ.out hok);have hsz:=HSS.out hok;obtain ⟨h1,h2,h3,i,h4,h5,h6⟩:=HYE.out _ _ _ HPT.out hok;have HST:=hid h6;have htz:=HTZ.out;clear HA6 HNO HYE HCQ HSS hok h6 HPL HBD HTZ;dsimp only at h1 h2 h3 h4 h5 HST;subst h1;rw[h2] at HCU;simp only[if_true] at HCU;have hrs:(tpa.extract m.value.size tpa.size).size≤tpa.size:=by rw[ByteArray.size_extract];omega
  generalize tpa.extract m.value.size tpa.size=rest at *;obtain ⟨rest2,hr2⟩:∃x,(if rest.size=0 then zeJ else rest)=x:=⟨_,rfl⟩;rw[hr2] at HST;have hr2z:rest2.size≤1048576:=by
   rw[←hr2]
   split
   ·decide
   ·omega
  generalize zdX m.value r.method r.target=st at *;have hi0:(i:Int)≤(r.target.size:Int):=by omega
  have hi1:(i:Int)+(tpa.size:Int)≤(r.target.size:Int):=by omega
  have hi2:i≤r.target.size:=by omega
  have hi3:((i:Int)+(tpa.size:Int)).toNat=i+tpa.size:=by omega
  have hi4:IntKind.i64.wrap ((i:Int)+(tpa.size:Int))=(i:Int)+(tpa.size:Int):=IntWalk.i64_in _ (by omega);have hi5:(0:Int)≤(i:Int)+(tpa.size:Int):=by omega
  have hi6:i+tpa.size≤r.target.size:=h4;have HR2:=hid hr2;have HI:=hid (show (rest.size=0∨bt rest 0=47)∧(tf=1∧i=0∨tf=2∧7≤i∧7≤r.target.size∧za7 (r.target.extract 7 r.target.size) 47=((i - 7:Nat):Int)) from ⟨h3,h5⟩);have HW:=hid (show IntKind.i64.wrap ((i:Int)+(tpa.size:Int))=(i:Int)+(tpa.size:Int)∧((i:Int)+(tpa.size:Int)).toNat=i+tpa.size from ⟨hi4,hi3⟩);have HIB:=hid (fun W=>za2 (r.target.extract 7 r.target.size) 47 W (by omega) (by omega));have HRE:=hid (fun (h:rest.size=0)=>zaR h);have HRN:=hid (fun (h:¬rest.size=0)=>zaa h);have HQ:=hid (fun (h:0<rest.size)=>(zE h:((rest[0]'h).toNat:Int)=bt rest 0));clear hr2 h2 h3 h4 h5 hi3 hi4;have hfm:(tf=1∧i=0)∨(tf=2∧7≤i∧7≤r.target.size∧za7 (r.target.extract 7 r.target.size) 47=((i - 7:Nat):Int)):=HI.out.2
  rcases hfm with ⟨rfl,hi⟩|⟨rfl,hi,hi7,hfb⟩
  ·have HZ:=hid (show (0:Int)=(i:Int) by omega)
   clear hi
   go_enter Tryz.func67,Tryz.ntmps67
   go_wp2_with fail
   refine (HPA.out (X3 w (zf m A c) (zu r FA fc TA tc)) (zl hX0)).mono ?_;rintro e w1 ⟨rfl,hb1⟩;obtain ⟨⟨⟨m0,m1,m2,m3,m4⟩,a0,a1,a2,a3,a4,a5,a6⟩,⟨r0,r1,r2,r3⟩,f0,f1,f2,f3⟩:=zh HL.out (zb.of (D:=D) hb1);have hz2:=zS hb1;have hz1:=Nat.lt_of_succ_lt hz2;have hz0:=Nat.lt_of_succ_lt hz1;have hbT:=hb1.alloc hb1.size (.cells #[.int .i64 1,.string th,.int .i64 tp,.string tpa,.string tq,.bool thq] 114);have hqf:=zq9 HL.out (zb.of (D:=D) hb1)
   go_wp2_with fail
   refine (HCU.out _).mono ?_;rintro e w2 ⟨rfl,rfl⟩
   by_cases hz:rest.size=0
   ·have hre:=HRE.out hz
    have HZ2:=hid (show rest2=zeJ by rw[←HR2.out,if_pos hz]);clear hz HRN HQ HR2
    go_upto_region 12 with (first|(go_at_call 101;(with_reducible refine (HIB.out _).mono ?_);rintro e w3 ⟨rfl,rfl⟩)|fail)
    obtain ⟨hi4,hi3⟩:=HW.out;have hi0':i=0:=by have:=HZ.out;omega
    have hp4:IntKind.i64.wrap (tpa.size:Int)=(tpa.size:Int):=IntWalk.i64_in _ (by omega);have hp5:(tpa.size:Int)≤(r.target.size:Int):=by omega
    have hp6:tpa.size≤r.target.size:=by omega
    clear hi4 hi3;have hs1:¬9223372036854775807<1:=by omega
    have hs2:¬9223372036854775807<1+(r.target.size - tpa.size):=by omega
    have hS0:(w1.alloc (.cells #[.int .i64 1,.string th,.int .i64 tp,.string tpa,.string tq,.bool thq] 114)).drew.cell? ⟨w.heap.size+1,1,none⟩=some (.string r.target)∧(w1.alloc (.cells #[.int .i64 1,.string th,.int .i64 tp,.string tpa,.string tq,.bool thq] 114)).drew.cell? ⟨w1.heap.size,3,none⟩=some (.string tpa):=⟨(World.cell?_alloc_lt _ _ _ hz1).trans a1,World.cell?_alloc_at _ _ _ _ rfl⟩;refine zO (t:=16) (S:=fun W=>W.cell? ⟨w.heap.size+1,1,none⟩=some (.string r.target)∧W.cell? ⟨w1.heap.size,3,none⟩=some (.string tpa)) (by kernel_rfl) hS0 (fun hHeld=>?_);refine za 0 (s:=hHeld) (h:=?_);refine za 1 (y:=fun w hSw=>by (try dsimp only at hSw);obtain ⟨s0,s1⟩:=hSw;exact yl) (s:=hHeld) (h:=?_);refine za 2 (s:=hHeld) (h:=?_);refine za 3 (s:=hHeld) (h:=?_);refine za 4 (s:=hHeld) (h:=?_);refine za 5 (s:=hHeld) (h:=?_);refine za 6 (s:=hHeld) (h:=?_);refine za 7 (y:=fun w hSw=>by (try dsimp only at hSw);obtain ⟨s0,s1⟩:=hSw;exact yl) (s:=hHeld) (h:=?_);refine za 8 (s:=hHeld) (h:=?_);refine za 9 (s:=hHeld) (h:=?_);refine za 10 (y:=fun w hSw=>by (try dsimp only at hSw);obtain ⟨s0,s1⟩:=hSw;exact yl) (s:=hHeld) (h:=?_);refine za 11 (s:=hHeld) (h:=?_);refine za 12 (s:=hHeld) (h:=?_);refine za 13 (s:=hHeld) (h:=?_);refine za 14 (s:=hHeld) (h:=?_);refine za 15 (s:=hHeld) (h:=?_);clear hS0;refine zc 16 (h:=fun K hK=>?_)
    go_simp
    have hst:(⟨#[47]⟩:ByteArray)++r.target.extract tpa.size r.target.size=st:=by rw[HST.out,HZ2.out,hi0'];simp[zeJ]
    rw[hst];clear hst;refine hK.out _ _ (.inl (by rfl)) (fun _=>nm ?_);clear hK K;refine zy (by kernel_rfl) ?_ _;have hbW:Below w.heap.size w (((w1.setCell ⟨w.heap.size+1,1,none⟩ (.string st)).alloc (.cells #[.int .i64 1,.string th,.int .i64 tp,.string tpa,.string tq,.bool thq] 114)).drew):=zaM (((zl hb1).setCell (by simp) _).alloc (by simp;omega) _);have hx0:=zbE (v:=.string st) (o:=(.cells #[.int .i64 1,.string th,.int .i64 tp,.string tpa,.string tq,.bool thq] 114)) (j:=0) hz2 (Nat.succ_ne_self (w.heap.size+1));have hx1:=zbE (v:=.string st) (o:=(.cells #[.int .i64 1,.string th,.int .i64 tp,.string tpa,.string tq,.bool thq] 114)) (j:=1) hz2 (Nat.succ_ne_self (w.heap.size+1));have hx2:=zbE (v:=.string st) (o:=(.cells #[.int .i64 1,.string th,.int .i64 tp,.string tpa,.string tq,.bool thq] 114)) (j:=2) hz2 (Nat.succ_ne_self (w.heap.size+1));have hx3:=zbE (v:=.string st) (o:=(.cells #[.int .i64 1,.string th,.int .i64 tp,.string tpa,.string tq,.bool thq] 114)) (j:=3) hz2 (Nat.succ_ne_self (w.heap.size+1));rw[r0,f0] at hx0;rw[r1,f1] at hx1;rw[r2,f2] at hx2;rw[r3,f3] at hx3;have HXX:=hid (And.intro hx0 (And.intro hx1 (And.intro hx2 hx3)));clear hx0 hx1 hx2 hx3 hHeld;have HLT:=hid (show w.heap.size+1+1<(((w1.setCell ⟨w.heap.size+1,1,none⟩ (.string st)).alloc (.cells #[.int .i64 1,.string th,.int .i64 tp,.string tpa,.string tq,.bool thq] 114)).drew).heap.size by simp;omega)
    go_wp2_with fail
    refine (HC.out _ hbW).mono ?_;rintro e w9 ⟨y,A1,c1,rfl,hrow,hfit,hTT,hk⟩;clear m0 m1 m2 m3 m4 a0 a1 a2 a3 a4 a5 a6 r0 r1 r2 r3 f0 f1 f2 f3 hz2 hz1 hz0;obtain ⟨⟨x0,y0⟩,⟨x1,y1⟩,⟨x2,y2⟩,x3,y3⟩:=HXX.out;have hlt:=HLT.out;have hnd:¬D (w.heap.size+1+1):=fun hd=>by have:=HL.out _ hd;omega
    have r0:=(hk.cell (p:=⟨w.heap.size+1+1,0,none⟩) hlt hnd).trans x0;have f0:=(hk.frozen (p:=⟨w.heap.size+1+1,0,none⟩) hlt hnd).trans y0;have r1:=(hk.cell (p:=⟨w.heap.size+1+1,1,none⟩) hlt hnd).trans x1;have f1:=(hk.frozen (p:=⟨w.heap.size+1+1,1,none⟩) hlt hnd).trans y1;have r2:=(hk.cell (p:=⟨w.heap.size+1+1,2,none⟩) hlt hnd).trans x2;have f2:=(hk.frozen (p:=⟨w.heap.size+1+1,2,none⟩) hlt hnd).trans y2;have r3:=(hk.cell (p:=⟨w.heap.size+1+1,3,none⟩) hlt hnd).trans x3;have f3:=(hk.frozen (p:=⟨w.heap.size+1+1,3,none⟩) hlt hnd).trans y3;have hz9:w.heap.size+1+1<w9.heap.size:=Nat.lt_of_lt_of_le hlt hk.size;have HE:=hid (zdN (F:=zB m r) (b:=w.heap.size+1+1) (M:=N+2) HN0.out hbW (by omega) hlt hrow hfit (by omega) hTT hk (HB.out y) (.int .i64 y.status) (.string y.reason) (.slice A1 y.fields.length c1) (.string y.body));clear hrow hfit hTT hk HC x0 x1 x2 x3 y0 y1 y2 y3 hlt hnd hbW hb1 hbT hqf;unfold rsV at *
    go_wp2
    exact bodyPost_ret (v:=rsV y A1 c1) (by simp[results,Tryz.results67,go_sem,rsV,r0,r1,r2,r3]) rfl (HE.out.imp (Nat.le_refl _) fun _ _ _ h=>zbc HAI.out h)
   ·have hre:=HRN.out hz
    have hrz:0<rest.size:=Nat.pos_of_ne_zero hz;have hq0:=HQ.out hrz;have hq1:(bt rest 0!=47)=false:=by
     rcases HI.out.1 with h|h
     ·exact absurd h hz
     ·rw[h];rfl
    have HZ2:=hid (show rest2=rest by rw[←HR2.out,if_neg hz]);clear hz HRE HQ HR2
    go_upto_region 12 with (first|(go_at_call 101;(with_reducible refine (HIB.out _).mono ?_);rintro e w3 ⟨rfl,rfl⟩)|fail)
    obtain ⟨hi4,hi3⟩:=HW.out;have hi0':i=0:=by have:=HZ.out;omega
    have hp4:IntKind.i64.wrap (tpa.size:Int)=(tpa.size:Int):=IntWalk.i64_in _ (by omega);have hp5:(tpa.size:Int)≤(r.target.size:Int):=by omega
    have hp6:tpa.size≤r.target.size:=by omega
    clear hi4 hi3;have hs1:¬9223372036854775807<rest.size:=by omega
    have hs2:¬9223372036854775807<rest.size+(r.target.size - tpa.size):=by omega
    have hS0:(w1.alloc (.cells #[.int .i64 1,.string th,.int .i64 tp,.string tpa,.string tq,.bool thq] 114)).drew.cell? ⟨w.heap.size+1,1,none⟩=some (.string r.target)∧(w1.alloc (.cells #[.int .i64 1,.string th,.int .i64 tp,.string tpa,.string tq,.bool thq] 114)).drew.cell? ⟨w1.heap.size,3,none⟩=some (.string tpa):=⟨(World.cell?_alloc_lt _ _ _ hz1).trans a1,World.cell?_alloc_at _ _ _ _ rfl⟩;refine zO (t:=16) (S:=fun W=>W.cell? ⟨w.heap.size+1,1,none⟩=some (.string r.target)∧W.cell? ⟨w1.heap.size,3,none⟩=some (.string tpa)) (by kernel_rfl) hS0 (fun hHeld=>?_);refine za 0 (s:=hHeld) (h:=?_);refine za 1 (y:=fun w hSw=>by (try dsimp only at hSw);obtain ⟨s0,s1⟩:=hSw;exact yl) (s:=hHeld) (h:=?_);refine za 2 (s:=hHeld) (h:=?_);refine za 3 (s:=hHeld) (h:=?_);refine za 4 (s:=hHeld) (h:=?_);refine za 5 (s:=hHeld) (h:=?_);refine za 6 (s:=hHeld) (h:=?_);refine za 7 (y:=fun w hSw=>by (try dsimp only at hSw);obtain ⟨s0,s1⟩:=hSw;exact yl) (s:=hHeld) (h:=?_);refine za 8 (s:=hHeld) (h:=?_);refine za 9 (s:=hHeld) (h:=?_);refine za 10 (y:=fun w hSw=>by (try dsimp only at hSw);obtain ⟨s0,s1⟩:=hSw;exact yl) (s:=hHeld) (h:=?_);refine za 11 (s:=hHeld) (h:=?_);refine za 12 (s:=hHeld) (h:=?_);refine za 13 (s:=hHeld) (h:=?_);refine za 14 (s:=hHeld) (h:=?_);refine za 15 (s:=hHeld) (h:=?_);clear hS0;refine zc 16 (h:=fun K hK=>?_)
    go_simp
    have hst:rest++r.target.extract tpa.size r.target.size=st:=by rw[HST.out,HZ2.out,hi0'];simp
    rw[hst];clear hst;refine hK.out _ _ (.inl (by rfl)) (fun _=>nm ?_);clear hK K;refine zy (by kernel_rfl) ?_ _;have hbW:Below w.heap.size w (((w1.setCell ⟨w.heap.size+1,1,none⟩ (.string st)).alloc (.cells #[.int .i64 1,.string th,.int .i64 tp,.string tpa,.string tq,.bool thq] 114)).drew):=zaM (((zl hb1).setCell (by simp) _).alloc (by simp;omega) _);have hx0:=zbE (v:=.string st) (o:=(.cells #[.int .i64 1,.string th,.int .i64 tp,.string tpa,.string tq,.bool thq] 114)) (j:=0) hz2 (Nat.succ_ne_self (w.heap.size+1));have hx1:=zbE (v:=.string st) (o:=(.cells #[.int .i64 1,.string th,.int .i64 tp,.string tpa,.string tq,.bool thq] 114)) (j:=1) hz2 (Nat.succ_ne_self (w.heap.size+1));have hx2:=zbE (v:=.string st) (o:=(.cells #[.int .i64 1,.string th,.int .i64 tp,.string tpa,.string tq,.bool thq] 114)) (j:=2) hz2 (Nat.succ_ne_self (w.heap.size+1));have hx3:=zbE (v:=.string st) (o:=(.cells #[.int .i64 1,.string th,.int .i64 tp,.string tpa,.string tq,.bool thq] 114)) (j:=3) hz2 (Nat.succ_ne_self (w.heap.size+1));rw[r0,f0] at hx0;rw[r1,f1] at hx1;rw[r2,f2] at hx2;rw[r3,f3] at hx3;have HXX:=hid (And.intro hx0 (And.intro hx1 (And.intro hx2 hx3)));clear hx0 hx1 hx2 hx3 hHeld;have HLT:=hid (show w.heap.size+1+1<(((w1.setCell ⟨w.heap.size+1,1,none⟩ (.string st)).alloc (.cells #[.int .i64 1,.string th,.int .i64 tp,.string tpa,.string tq,.bool thq] 114)).drew).heap.size by simp;omega)
    go_wp2_with fail
    refine (HC.out _ hbW).mono ?_;rintro e w9 ⟨y,A1,c1,rfl,hrow,hfit,hTT,hk⟩;clear m0 m1 m2 m3 m4 a0 a1 a2 a3 a4 a5 a6 r0 r1 r2 r3 f0 f1 f2 f3 hz2 hz1 hz0;obtain ⟨⟨x0,y0⟩,⟨x1,y1⟩,⟨x2,y2⟩,x3,y3⟩:=HXX.out;have hlt:=HLT.out;have hnd:¬D (w.heap.size+1+1):=fun hd=>by have:=HL.out _ hd;omega
    have r0:=(hk.cell (p:=⟨w.heap.size+1+1,0,none⟩) hlt hnd).trans x0;have f0:=(hk.frozen (p:=⟨w.heap.size+1+1,0,none⟩) hlt hnd).trans y0;have r1:=(hk.cell (p:=⟨w.heap.size+1+1,1,none⟩) hlt hnd).trans x1;have f1:=(hk.frozen (p:=⟨w.heap.size+1+1,1,none⟩) hlt hnd).trans y1;have r2:=(hk.cell (p:=⟨w.heap.size+1+1,2,none⟩) hlt hnd).trans x2;have f2:=(hk.frozen (p:=⟨w.heap.size+1+1,2,none⟩) hlt hnd).trans y2;have r3:=(hk.cell (p:=⟨w.heap.size+1+1,3,none⟩) hlt hnd).trans x3;have f3:=(hk.frozen (p:=⟨w.heap.size+1+1,3,none⟩) hlt hnd).trans y3;have hz9:w.heap.size+1+1<w9.heap.size:=Nat.lt_of_lt_of_le hlt hk.size;have HE:=hid (zdN (F:=zB m r) (b:=w.heap.size+1+1) (M:=N+2) HN0.out hbW (by omega) hlt hrow hfit (by omega) hTT hk (HB.out y) (.int .i64 y.status) (.string y.reason) (.slice A1 y.fields.length c1) (.string y.body));clear hrow hfit hTT hk HC x0 x1 x2 x3 y0 y1 y2 y3 hlt hnd hbW hb1 hbT hqf;unfold rsV at *
    go_wp2
    exact bodyPost_ret (v:=rsV y A1 c1) (by simp[results,Tryz.results67,go_sem,rsV,r0,r1,r2,r3]) rfl (HE.out.imp (Nat.le_refl _) fun _ _ _ h=>zbc HAI.out h)
  ·have HZ:=hid (show (7:Int)+((i - 7:Nat):Int)=(i:Int) by omega)
   rw[hfb] at HIB;have hw7:IntKind.i64.wrap (7+((i - 7:Nat):Int))=7+((i - 7:Nat):Int):=IntWalk.i64_in _ (by omega);have hj0:(0:Int)≤((i - 7:Nat):Int):=by omega
   have hj1:((i - 7:Nat):Int)≤1048576:=by omega
   have hi7':(7:Int)≤(r.target.size:Int):=by omega
   generalize i - 7=j at *;clear hi hfb
   go_enter Tryz.func67,Tryz.ntmps67
   go_wp2_with fail
   refine (HPA.out (X3 w (zf m A c) (zu r FA fc TA tc)) (zl hX0)).mono ?_;rintro e w1 ⟨rfl,hb1⟩;obtain ⟨⟨⟨m0,m1,m2,m3,m4⟩,a0,a1,a2,a3,a4,a5,a6⟩,⟨r0,r1,r2,r3⟩,f0,f1,f2,f3⟩:=zh HL.out (zb.of (D:=D) hb1);have hz2:=zS hb1;have hz1:=Nat.lt_of_succ_lt hz2;have hz0:=Nat.lt_of_succ_lt hz1;have hbT:=hb1.alloc hb1.size (.cells #[.int .i64 2,.string th,.int .i64 tp,.string tpa,.string tq,.bool thq] 114);have hqf:=zq9 HL.out (zb.of (D:=D) hb1)
   go_wp2_with fail
   refine (HCU.out _).mono ?_;rintro e w2 ⟨rfl,rfl⟩
   by_cases hz:rest.size=0
   ·have hre:=HRE.out hz
    have HZ2:=hid (show rest2=zeJ by rw[←HR2.out,if_pos hz]);clear hz HRN HQ HR2
    go_upto_region 12 with (first|(go_at_call 101;(with_reducible refine (HIB.out _).mono ?_);rintro e w3 ⟨rfl,rfl⟩)|fail)
    rw[HZ.out];obtain ⟨hi4,hi3⟩:=HW.out;have hs1:¬9223372036854775807<i+1:=by omega
    have hs2:¬9223372036854775807<i+1+(r.target.size - (i+tpa.size)):=by omega
    have hS0:(w1.alloc (.cells #[.int .i64 2,.string th,.int .i64 tp,.string tpa,.string tq,.bool thq] 114)).drew.cell? ⟨w.heap.size+1,1,none⟩=some (.string r.target)∧(w1.alloc (.cells #[.int .i64 2,.string th,.int .i64 tp,.string tpa,.string tq,.bool thq] 114)).drew.cell? ⟨w1.heap.size,3,none⟩=some (.string tpa):=⟨(World.cell?_alloc_lt _ _ _ hz1).trans a1,World.cell?_alloc_at _ _ _ _ rfl⟩;refine zO (t:=16) (S:=fun W=>W.cell? ⟨w.heap.size+1,1,none⟩=some (.string r.target)∧W.cell? ⟨w1.heap.size,3,none⟩=some (.string tpa)) (by kernel_rfl) hS0 (fun hHeld=>?_);refine za 0 (s:=hHeld) (h:=?_);refine za 1 (y:=fun w hSw=>by (try dsimp only at hSw);obtain ⟨s0,s1⟩:=hSw;exact yl) (s:=hHeld) (h:=?_);refine za 2 (s:=hHeld) (h:=?_);refine za 3 (s:=hHeld) (h:=?_);refine za 4 (s:=hHeld) (h:=?_);refine za 5 (s:=hHeld) (h:=?_);refine za 6 (s:=hHeld) (h:=?_);refine za 7 (y:=fun w hSw=>by (try dsimp only at hSw);obtain ⟨s0,s1⟩:=hSw;exact yl) (s:=hHeld) (h:=?_);refine za 8 (s:=hHeld) (h:=?_);refine za 9 (s:=hHeld) (h:=?_);refine za 10 (y:=fun w hSw=>by (try dsimp only at hSw);obtain ⟨s0,s1⟩:=hSw;exact yl) (s:=hHeld) (h:=?_);refine za 11 (s:=hHeld) (h:=?_);refine za 12 (s:=hHeld) (h:=?_);refine za 13 (s:=hHeld) (h:=?_);refine za 14 (s:=hHeld) (h:=?_);refine za 15 (s:=hHeld) (h:=?_);clear hS0;refine zc 16 (h:=fun K hK=>?_)
    go_simp
    have hst:r.target.extract 0 i++(⟨#[47]⟩:ByteArray)++r.target.extract (i+tpa.size) r.target.size=st:=by rw[HST.out,HZ2.out];rfl
    rw[hst];clear hst;refine hK.out _ _ (.inl (by rfl)) (fun _=>nm ?_);clear hK K;refine zy (by kernel_rfl) ?_ _;have hbW:Below w.heap.size w (((w1.setCell ⟨w.heap.size+1,1,none⟩ (.string st)).alloc (.cells #[.int .i64 2,.string th,.int .i64 tp,.string tpa,.string tq,.bool thq] 114)).drew):=zaM (((zl hb1).setCell (by simp) _).alloc (by simp;omega) _);have hx0:=zbE (v:=.string st) (o:=(.cells #[.int .i64 2,.string th,.int .i64 tp,.string tpa,.string tq,.bool thq] 114)) (j:=0) hz2 (Nat.succ_ne_self (w.heap.size+1));have hx1:=zbE (v:=.string st) (o:=(.cells #[.int .i64 2,.string th,.int .i64 tp,.string tpa,.string tq,.bool thq] 114)) (j:=1) hz2 (Nat.succ_ne_self (w.heap.size+1));have hx2:=zbE (v:=.string st) (o:=(.cells #[.int .i64 2,.string th,.int .i64 tp,.string tpa,.string tq,.bool thq] 114)) (j:=2) hz2 (Nat.succ_ne_self (w.heap.size+1));have hx3:=zbE (v:=.string st) (o:=(.cells #[.int .i64 2,.string th,.int .i64 tp,.string tpa,.string tq,.bool thq] 114)) (j:=3) hz2 (Nat.succ_ne_self (w.heap.size+1));rw[r0,f0] at hx0;rw[r1,f1] at hx1;rw[r2,f2] at hx2;rw[r3,f3] at hx3;have HXX:=hid (And.intro hx0 (And.intro hx1 (And.intro hx2 hx3)));clear hx0 hx1 hx2 hx3 hHeld;have HLT:=hid (show w.heap.size+1+1<(((w1.setCell ⟨w.heap.size+1,1,none⟩ (.string st)).alloc (.cells #[.int .i64 2,.string th,.int .i64 tp,.string tpa,.string tq,.bool thq] 114)).drew).heap.size by simp;omega)
    go_wp2_with fail
    refine (HC.out _ hbW).mono ?_;rintro e w9 ⟨y,A1,c1,rfl,hrow,hfit,hTT,hk⟩;clear m0 m1 m2 m3 m4 a0 a1 a2 a3 a4 a5 a6 r0 r1 r2 r3 f0 f1 f2 f3 hz2 hz1 hz0;obtain ⟨⟨x0,y0⟩,⟨x1,y1⟩,⟨x2,y2⟩,x3,y3⟩:=HXX.out;have hlt:=HLT.out;have hnd:¬D (w.heap.size+1+1):=fun hd=>by have:=HL.out _ hd;omega
    have r0:=(hk.cell (p:=⟨w.heap.size+1+1,0,none⟩) hlt hnd).trans x0;have f0:=(hk.frozen (p:=⟨w.heap.size+1+1,0,none⟩) hlt hnd).trans y0;have r1:=(hk.cell (p:=⟨w.heap.size+1+1,1,none⟩) hlt hnd).trans x1;have f1:=(hk.frozen (p:=⟨w.heap.size+1+1,1,none⟩) hlt hnd).trans y1;have r2:=(hk.cell (p:=⟨w.heap.size+1+1,2,none⟩) hlt hnd).trans x2;have f2:=(hk.frozen (p:=⟨w.heap.size+1+1,2,none⟩) hlt hnd).trans y2;have r3:=(hk.cell (p:=⟨w.heap.size+1+1,3,none⟩) hlt hnd).trans x3;have f3:=(hk.frozen (p:=⟨w.heap.size+1+1,3,none⟩) hlt hnd).trans y3;have hz9:w.heap.size+1+1<w9.heap.size:=Nat.lt_of_lt_of_le hlt hk.size;have HE:=hid (zdN (F:=zB m r) (b:=w.heap.size+1+1) (M:=N+2) HN0.out hbW (by omega) hlt hrow hfit (by omega) hTT hk (HB.out y) (.int .i64 y.status) (.string y.reason) (.slice A1 y.fields.length c1) (.string y.body));clear hrow hfit hTT hk HC x0 x1 x2 x3 y0 y1 y2 y3 hlt hnd hbW hb1 hbT hqf;unfold rsV at *
    go_wp2
    exact bodyPost_ret (v:=rsV y A1 c1) (by simp[results,Tryz.results67,go_sem,rsV,r0,r1,r2,r3]) rfl (HE.out.imp (Nat.le_refl _) fun _ _ _ h=>zbc HAI.out h)
   ·have hre:=HRN.out hz
    have hrz:0<rest.size:=Nat.pos_of_ne_zero hz;have hq0:=HQ.out hrz;have hq1:(bt rest 0!=47)=false:=by
     rcases HI.out.1 with h|h
     ·exact absurd h hz
     ·rw[h];rfl
    have HZ2:=hid (show rest2=rest by rw[←HR2.out,if_neg hz]);clear hz HRE HQ HR2
    go_upto_region 12 with (first|(go_at_call 101;(with_reducible refine (HIB.out _).mono ?_);rintro e w3 ⟨rfl,rfl⟩)|fail)
    rw[HZ.out];obtain ⟨hi4,hi3⟩:=HW.out;have hs1:¬9223372036854775807<i+rest.size:=by omega
    have hs2:¬9223372036854775807<i+rest.size+(r.target.size - (i+tpa.size)):=by omega
    have hS0:(w1.alloc (.cells #[.int .i64 2,.string th,.int .i64 tp,.string tpa,.string tq,.bool thq] 114)).drew.cell? ⟨w.heap.size+1,1,none⟩=some (.string r.target)∧(w1.alloc (.cells #[.int .i64 2,.string th,.int .i64 tp,.string tpa,.string tq,.bool thq] 114)).drew.cell? ⟨w1.heap.size,3,none⟩=some (.string tpa):=⟨(World.cell?_alloc_lt _ _ _ hz1).trans a1,World.cell?_alloc_at _ _ _ _ rfl⟩;refine zO (t:=16) (S:=fun W=>W.cell? ⟨w.heap.size+1,1,none⟩=some (.string r.target)∧W.cell? ⟨w1.heap.size,3,none⟩=some (.string tpa)) (by kernel_rfl) hS0 (fun hHeld=>?_);refine za 0 (s:=hHeld) (h:=?_);refine za 1 (y:=fun w hSw=>by (try dsimp only at hSw);obtain ⟨s0,s1⟩:=hSw;exact yl) (s:=hHeld) (h:=?_);refine za 2 (s:=hHeld) (h:=?_);refine za 3 (s:=hHeld) (h:=?_);refine za 4 (s:=hHeld) (h:=?_);refine za 5 (s:=hHeld) (h:=?_);refine za 6 (s:=hHeld) (h:=?_);refine za 7 (y:=fun w hSw=>by (try dsimp only at hSw);obtain ⟨s0,s1⟩:=hSw;exact yl) (s:=hHeld) (h:=?_);refine za 8 (s:=hHeld) (h:=?_);refine za 9 (s:=hHeld) (h:=?_);refine za 10 (y:=fun w hSw=>by (try dsimp only at hSw);obtain ⟨s0,s1⟩:=hSw;exact yl) (s:=hHeld) (h:=?_);refine za 11 (s:=hHeld) (h:=?_);refine za 12 (s:=hHeld) (h:=?_);refine za 13 (s:=hHeld) (h:=?_);refine za 14 (s:=hHeld) (h:=?_);refine za 15 (s:=hHeld) (h:=?_);clear hS0;refine zc 16 (h:=fun K hK=>?_)
    go_simp
    have hst:r.target.extract 0 i++rest++r.target.extract (i+tpa.size) r.target.size=st:=by rw[HST.out,HZ2.out]
    rw[hst];clear hst;refine hK.out _ _ (.inl (by rfl)) (fun _=>nm ?_);clear hK K;refine zy (by kernel_rfl) ?_ _;have hbW:Below w.heap.size w (((w1.setCell ⟨w.heap.size+1,1,none⟩ (.string st)).alloc (.cells #[.int .i64 2,.string th,.int .i64 tp,.string tpa,.string tq,.bool thq] 114)).drew):=zaM (((zl hb1).setCell (by simp) _).alloc (by simp;omega) _);have hx0:=zbE (v:=.string st) (o:=(.cells #[.int .i64 2,.string th,.int .i64 tp,.string tpa,.string tq,.bool thq] 114)) (j:=0) hz2 (Nat.succ_ne_self (w.heap.size+1));have hx1:=zbE (v:=.string st) (o:=(.cells #[.int .i64 2,.string th,.int .i64 tp,.string tpa,.string tq,.bool thq] 114)) (j:=1) hz2 (Nat.succ_ne_self (w.heap.size+1));have hx2:=zbE (v:=.string st) (o:=(.cells #[.int .i64 2,.string th,.int .i64 tp,.string tpa,.string tq,.bool thq] 114)) (j:=2) hz2 (Nat.succ_ne_self (w.heap.size+1));have hx3:=zbE (v:=.string st) (o:=(.cells #[.int .i64 2,.string th,.int .i64 tp,.string tpa,.string tq,.bool thq] 114)) (j:=3) hz2 (Nat.succ_ne_self (w.heap.size+1));rw[r0,f0] at hx0;rw[r1,f1] at hx1;rw[r2,f2] at hx2;rw[r3,f3] at hx3;have HXX:=hid (And.intro hx0 (And.intro hx1 (And.intro hx2 hx3)));clear hx0 hx1 hx2 hx3 hHeld;have HLT:=hid (show w.heap.size+1+1<(((w1.setCell ⟨w.heap.size+1,1,none⟩ (.string st)).alloc (.cells #[.int .i64 2,.string th,.int .i64 tp,.string tpa,.string tq,.bool thq] 114)).drew).heap.size by simp;omega)
    go_wp2_with fail
    refine (HC.out _ hbW).mono ?_;rintro e w9 ⟨y,A1,c1,rfl,hrow,hfit,hTT,hk⟩;clear m0 m1 m2 m3 m4 a0 a1 a2 a3 a4 a5 a6 r0 r1 r2 r3 f0 f1 f2 f3 hz2 hz1 hz0;obtain ⟨⟨x0,y0⟩,⟨x1,y1⟩,⟨x2,y2⟩,x3,y3⟩:=HXX.out;have hlt:=HLT.out;have hnd:¬D (w.heap.size+1+1):=fun hd=>by have:=HL.out _ hd;omega
    have r0:=(hk.cell (p:=⟨w.heap.size+1+1,0,none⟩) hlt hnd).trans x0;have f0:=(hk.frozen (p:=⟨w.heap.size+1+1,0,none⟩) hlt hnd).trans y0;have r1:=(hk.cell (p:=⟨w.heap.size+1+1,1,none⟩) hlt hnd).trans x1;have f1:=(hk.frozen (p:=⟨w.heap.size+1+1,1,none⟩) hlt hnd).trans y1;have r2:=(hk.cell (p:=⟨w.heap.size+1+1,2,none⟩) hlt hnd).trans x2;have f2:=(hk.frozen (p:=⟨w.heap.size+1+1,2,none⟩) hlt hnd).trans y2;have r3:=(hk.cell (p:=⟨w.heap.size+1+1,3,none⟩) hlt hnd).trans x3;have f3:=(hk.frozen (p:=⟨w.heap.size+1+1,3,none⟩) hlt hnd).trans y3;have hz9:w.heap.size+1+1<w9.heap.size:=Nat.lt_of_lt_of_le hlt hk.size;have HE:=hid (zdN (F:=zB m r) (b:=w.heap.size+1+1) (M:=N+2) HN0.out hbW (by omega) hlt hrow hfit (by omega) hTT hk (HB.out y) (.int .i64 y.status) (.string y.reason) (.slice A1 y.fields.length c1) (.string y.body));clear hrow hfit hTT hk HC x0 x1 x2 x3 y0 y1 y2 y3 hlt hnd hbW hb1 hbT hqf;unfold rsV at *
    go_wp2
    exact bodyPost_ret (v:=rsV y A1 c1) (by simp[results,Tryz.results67,go_sem,rsV,r0,r1,r2,r3]) rfl (HE.out.imp (Nat.le_refl _) fun _ _ _ h=>zbc HAI.out h)
end Go.Proofs.YtbnafbdhomdcoaaGreatDoor
