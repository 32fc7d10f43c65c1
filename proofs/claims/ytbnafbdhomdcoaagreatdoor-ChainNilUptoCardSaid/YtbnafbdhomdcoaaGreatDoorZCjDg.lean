/-
 CjDg, without what this claim does not reach.
-/
import Derived.Test.YtbnafbdhomdcoaaGreatDoorZCjDf
import Derived.Test.YtbnafbdhomdcoaaGreatDoorZm7
namespace Go.Proofs.YtbnafbdhomdcoaaGreatDoor
open Go.RowKit Go.Shelf Go.Lib
theorem zuL {m:zY} {r:Rq} (hk:m.kind=7):zx m r=if zie m r=true then .inl r else .inr (zT 401 [(zbw,zM++zcM m.name++zN)]):=by
 unfold zx;rw[if_neg (by omega),if_neg (by omega),if_neg (by omega),if_pos hk]
theorem zk9:zfy.size≤maxLen:=by unfold maxLen;decide +kernel
theorem zew:zbw.size≤maxLen:=by unfold maxLen;decide +kernel
theorem zjn:zeg.size≤maxLen:=by unfold maxLen;decide +kernel
theorem zrZ (l:List UInt8) (c:UInt8):Lib.trimLeftB l c=Lib.trimLeftS l [c]:=by
 unfold Lib.trimLeftB Lib.trimLeftS
 congr 1
 funext x
 rw[Bool.eq_iff_iff];simp
theorem zuV (l:List UInt8) (c:UInt8):(Lib.trimLeftS l [c]).length≤l.length:=by
 unfold Lib.trimLeftS;exact (List.dropWhile_suffix _).length_le
theorem zug (s:ByteArray) (w:World):
  Calls Tryz.prog 107 #[.string s,.string ⟨#[32]⟩] w fun e w'=>e= .returned (.string ⟨(Lib.trimLeftS s.data.toList [32]).toArray⟩)∧w=w':=
 (Tryz.strings_TrimLeft_one s 32 (by decide) w).mono fun _ _ ⟨h1,h2⟩=>⟨by rw[h1,zrZ],h2.symm⟩
theorem znT {m:zY} {r:Rq} (h:zaD r.fields zfy=none):zie m r=false:=by unfold zie;rw[h]
theorem zq6 {m:zY} {r:Rq} {s:ByteArray} (h:zaD r.fields zfy=some s) (hc:zjj s=none):zie m r=false:=by unfold zie;rw[h];dsimp only;rw[hc]
theorem zoI {m:zY} {r:Rq} {s t:ByteArray} (h:zaD r.fields zfy=some s) (hc:zjj s=some t):zie m r=zb5 m.list t:=by unfold zie;rw[h];dsimp only;rw[hc]
theorem zmi (s:ByteArray):(¬5<s.size∧zjj s=none)∨(5<s.size∧zbu (s.extract 0 5) zeg=false∧zjj s=none)∨(5<s.size∧zbu (s.extract 0 5) zeg=true∧¬bt s 5=32∧zjj s=none)∨
  (5<s.size∧zbu (s.extract 0 5) zeg=true∧bt s 5=32∧zjj s=(b64 (Lib.trimLeftS (s.extract 5 s.size).data.toList [32])).map fun l=>⟨l.toArray⟩):=by
 unfold zjj
 by_cases h1:5<s.size
 ·cases h2:zbu (s.extract 0 5) zeg
  ·exact .inr (.inl ⟨h1,rfl,by rw[if_neg];rintro ⟨_,h,_⟩;cases h⟩)
  ·by_cases h3:bt s 5=32
   ·exact .inr (.inr (.inr ⟨h1,rfl,h3,by rw[if_pos ⟨h1,rfl,h3⟩]⟩))
   ·exact .inr (.inr (.inl ⟨h1,rfl,h3,by rw[if_neg];rintro ⟨_,_,h⟩;exact h3 h⟩))
 ·exact .inl ⟨h1,by rw[if_neg];rintro ⟨h,_⟩;exact h1 h⟩
set_option maxRecDepth 20000 in
set_option maxHeartbeats 8000000 in
theorem zud {m:zY} (hkd:m.kind=7) (hv:zcb m.name=true):zjN m 69:=by
 refine ⟨fun args w=>Tryz.call69 args w,fun D Pre n0 N T f w r A c FA fc TA tc hE hP hX hn0 hN8 hN hA hcap hF hT hm hr=>?_⟩;obtain ⟨g,lb,rfl,he,hc⟩:=hX;have HC:=hid (zdH fc tc hE hP hc hF hT hr);have HL:=hid hE.low;have HG:=hid (fun W h=>hE.globC (W:=W) h);have HN0:=hid hn0;have HN8:=hid hN8;have HN:=hid hN;have HA7:=hid (zuL (r:=r) hkd);have HB:=hid (fun y=>zfB (r:=r) y (.inr (.inr (.inr (.inl hkd)))));have HON:=hid (fun (W:World) (h:Below w.heap.size w W)=>zgq r FA fc TA tc zfy W (hF.below h).row hr zk9);have HOZ:=hid (fun s (h:zaD r.fields zfy=some s)=>zdS hr.fields h);have HCT:=hid (fun (s:ByteArray) (W:World) (h:Below w.heap.size w W)=>zcC A c m.list s W (hA.below h).row (zg2 hm.list).1);have HQT:=hid (fun (W:World)=>zrE m.name W hv (Nat.le_trans hm.name (by decide)));have HQZ:=hid (show (zcM m.name).size≤4194304 by have:=zgC m.name;have:=hm.name;omega);have HL1:=hid (znT (m:=m) (r:=r));have HL2:=hid (fun s=>zq6 (m:=m) (r:=r) (s:=s));have HL3:=hid (fun s t=>zoI (m:=m) (r:=r) (s:=s) (t:=t));have HPL:=hid (fun W Z hr hg=>zdV 401 (some ⟨Z,0,none⟩) 1 [(zbw,zM++zcM m.name++zN)] W hr (by simp) (by decide) (by decide) hg);have HBD:=hid (show zT 401 [(zbw,zM++zcM m.name++zN)]=⟨401,⟨#[]⟩,[ctF,(zbw,zM++zcM m.name++zN)],zao 401⟩ from rfl);have hX0:=Below.refl (X3 w (zf m A c) (zu r FA fc TA tc)).heap.size (X3 w (zf m A c) (zu r FA fc TA tc));clear hc hE hP hn0 hN8 hN hA hcap hF hT hm hr hkd;clear hv;generalize zcM m.name=qt at *;generalize zao 401=bd at *;have hqz:=HQZ.out;have hqs:¬9223372036854775807<12+qt.size:=by omega
 have hqs2:¬9223372036854775807<12+qt.size+17:=by omega
 unfold zL rqV at *;have key:zie m r=false∨zie m r=true:=by cases zie m r<;>simp
 cases hon:zaD r.fields zfy with
 |none=>
  have hno:=HL1.out hon;clear key;have HAI:=hid (show zx m r= .inr (zT 401 [(zbw,zM++qt++zN)]) by rw[HA7.out,hno];rfl);rw[hon] at HON;unfold zbO zfy at HON;clear hno HA7 HC HL1 HL2 HL3 HOZ HCT hon
  go_enter Tryz.func69,Tryz.ntmps69
  go_wp2_with fail
  refine (HON.out (X3 w (zf m A c) (zu r FA fc TA tc)) (zl hX0)).mono ?_;rintro e w1 ⟨rfl,hb1⟩;obtain ⟨⟨⟨m0,m1,m2,m3,m4⟩,a0,a1,a2,a3,a4,a5,a6⟩,⟨r0,r1,r2,r3⟩,f0,f1,f2,f3⟩:=zh HL.out (zb.of (D:=D) hb1);have hz2:=zS hb1;have hz1:=Nat.lt_of_succ_lt hz2;have hz0:=Nat.lt_of_succ_lt hz1
  go_wp2_with fail
  refine (HQT.out _).mono ?_;rintro e w7 ⟨rfl,hbq⟩;have hb7:=hb1.trans (hbq.mono hb1.size);clear m0 m1 m2 m3 m4 a0 a1 a2 a3 a4 a5 a6 r0 r1 r2 r3 f0 f1 f2 f3 hz2 hz1 hz0;obtain ⟨⟨⟨m0,m1,m2,m3,m4⟩,a0,a1,a2,a3,a4,a5,a6⟩,⟨r0,r1,r2,r3⟩,f0,f1,f2,f3⟩:=zh HL.out (zb.of (D:=D) hb7);have hz2:=zS hb7;have hz1:=Nat.lt_of_succ_lt hz2;have hz0:=Nat.lt_of_succ_lt hz1;have hb8:=hb7.alloc hb7.size (.cells #[.string zbw,.string (zM++qt++zN)] 59);have hrf:=zaV w7 zbw (zM++qt++zN) rfl;clear hbq;have HPM:=hid (HPL.out _ _ hrf (HG.out _ (zl hb8)));unfold zbw zM zN at HPM
  go_wp2_with fail
  refine HPM.out.mono ?_;rintro e w9 ⟨A1,c1,rfl,ho,hb⟩;have hbY:=hb8.trans (hb.mono hb8.size);clear m0 m1 m2 m3 m4 a0 a1 a2 a3 a4 a5 a6 r0 r1 r2 r3 f0 f1 f2 f3 hz2 hz1 hz0;obtain ⟨⟨⟨r0,r1,r2,r3⟩,f0,f1,f2,f3⟩,hz2⟩:=zbg HL.out hX0 (zb.of hbY);have HO:=hid (zn (b':=(X3 w (zf m A c) (zu r FA fc TA tc)).heap.size) ho hb8.size);have HBW:=hid (zl hbY);clear ho hb hbY
  go_wp2
  exact bodyPost_ret (v:=rsV ⟨401,⟨#[]⟩,[ctF,(zbw,zM++qt++zN)],bd⟩ A1 c1) (by simp[results,Tryz.results69,go_sem,rsV,r0,r1,r2,r3]) rfl
   (zbo (b:=w.heap.size+1+1) (x:=⟨401,⟨#[]⟩,[ctF,(zbw,zM++qt++zN)],bd⟩) HL.out (zae w (zf m A c) (zu r FA fc TA tc)) (by omega) (by rw[zaA];omega) HBW.out HO.out (by rw[HAI.out,HBD.out]) ((show zbH 8 (⟨401,⟨#[]⟩,[ctF,(zbw,zM++qt++zN)],bd⟩:Rs) by rw[←HBD.out];exact zaJ 401 (zah zew (by have h1:zM.size=12:=rfl;have h2:zN.size=17:=rfl;unfold maxLen;show (zM++qt++zN).size≤_;rw[ByteArray.size_append,ByteArray.size_append];omega) zR) (by simp)).more (by have:=HN8.out;omega)) _ _ _ _)
 |some s=>
  rw[hon] at HON;unfold zbO zfy at HON;have hsz:=HOZ.out s hon;clear key HL1 HOZ;have hi5:(5:Int)≤6:=by decide
  clear hi5;have HSM:=hid (fun W=>zfz (s.extract 0 5) zeg W (by unfold maxLen;rw[ByteArray.size_extract];omega) zjn)
  rcases zmi s with ⟨h1,hc⟩|⟨h1,h2,hc⟩|⟨h1,h2,h3,hc⟩|⟨h1,h2,h3,hc⟩
  ·skip
   have hno:=HL2.out _ hon hc;have HAI:=hid (show zx m r= .inr (zT 401 [(zbw,zM++qt++zN)]) by rw[HA7.out,hno];rfl);clear hno HA7 HC HL2 HL3 HCT hon hc;have hl5:decide ((5:Int)<(s.size:Int))=false:=decide_eq_false (by omega);have hl5':¬5<s.size:=h1;clear h1 HSM
   go_enter Tryz.func69,Tryz.ntmps69
   go_wp2_with fail
   refine (HON.out (X3 w (zf m A c) (zu r FA fc TA tc)) (zl hX0)).mono ?_;rintro e w1 ⟨rfl,hb1⟩;obtain ⟨⟨⟨m0,m1,m2,m3,m4⟩,a0,a1,a2,a3,a4,a5,a6⟩,⟨r0,r1,r2,r3⟩,f0,f1,f2,f3⟩:=zh HL.out (zb.of (D:=D) hb1);have hz2:=zS hb1;have hz1:=Nat.lt_of_succ_lt hz2;have hz0:=Nat.lt_of_succ_lt hz1
   go_wp2_with fail
   refine (HQT.out _).mono ?_;rintro e w7 ⟨rfl,hbq⟩;have hb7:=hb1.trans (hbq.mono hb1.size);clear m0 m1 m2 m3 m4 a0 a1 a2 a3 a4 a5 a6 r0 r1 r2 r3 f0 f1 f2 f3 hz2 hz1 hz0;obtain ⟨⟨⟨m0,m1,m2,m3,m4⟩,a0,a1,a2,a3,a4,a5,a6⟩,⟨r0,r1,r2,r3⟩,f0,f1,f2,f3⟩:=zh HL.out (zb.of (D:=D) hb7);have hz2:=zS hb7;have hz1:=Nat.lt_of_succ_lt hz2;have hz0:=Nat.lt_of_succ_lt hz1;have hb8:=hb7.alloc hb7.size (.cells #[.string zbw,.string (zM++qt++zN)] 59);have hrf:=zaV w7 zbw (zM++qt++zN) rfl;clear hbq;have HPM:=hid (HPL.out _ _ hrf (HG.out _ (zl hb8)));unfold zbw zM zN at HPM
   go_wp2_with fail
   refine HPM.out.mono ?_;rintro e w9 ⟨A1,c1,rfl,ho,hb⟩;have hbY:=hb8.trans (hb.mono hb8.size);clear m0 m1 m2 m3 m4 a0 a1 a2 a3 a4 a5 a6 r0 r1 r2 r3 f0 f1 f2 f3 hz2 hz1 hz0;obtain ⟨⟨⟨r0,r1,r2,r3⟩,f0,f1,f2,f3⟩,hz2⟩:=zbg HL.out hX0 (zb.of hbY);have HO:=hid (zn (b':=(X3 w (zf m A c) (zu r FA fc TA tc)).heap.size) ho hb8.size);have HBW:=hid (zl hbY);clear ho hb hbY
   go_wp2
   exact bodyPost_ret (v:=rsV ⟨401,⟨#[]⟩,[ctF,(zbw,zM++qt++zN)],bd⟩ A1 c1) (by simp[results,Tryz.results69,go_sem,rsV,r0,r1,r2,r3]) rfl
    (zbo (b:=w.heap.size+1+1) (x:=⟨401,⟨#[]⟩,[ctF,(zbw,zM++qt++zN)],bd⟩) HL.out (zae w (zf m A c) (zu r FA fc TA tc)) (by omega) (by rw[zaA];omega) HBW.out HO.out (by rw[HAI.out,HBD.out]) ((show zbH 8 (⟨401,⟨#[]⟩,[ctF,(zbw,zM++qt++zN)],bd⟩:Rs) by rw[←HBD.out];exact zaJ 401 (zah zew (by have h1:zM.size=12:=rfl;have h2:zN.size=17:=rfl;unfold maxLen;show (zM++qt++zN).size≤_;rw[ByteArray.size_append,ByteArray.size_append];omega) zR) (by simp)).more (by have:=HN8.out;omega)) _ _ _ _)
  ·skip
   have hno:=HL2.out _ hon hc;have HAI:=hid (show zx m r= .inr (zT 401 [(zbw,zM++qt++zN)]) by rw[HA7.out,hno];rfl);clear hno HA7 HC HL2 HL3 HCT hon hc;have hl5:decide ((5:Int)<(s.size:Int))=true:=decide_eq_true (by omega);have hl6:(5:Int)≤(s.size:Int):=by omega
   have hl7:(5:Int)<(s.size:Int):=by omega
   have hl8:5≤s.size:=by omega
   rw[h2] at HSM;unfold zeg at HSM;clear h2
   go_enter Tryz.func69,Tryz.ntmps69
   go_wp2_with fail
   refine (HON.out (X3 w (zf m A c) (zu r FA fc TA tc)) (zl hX0)).mono ?_;rintro e w1 ⟨rfl,hb1⟩;obtain ⟨⟨⟨m0,m1,m2,m3,m4⟩,a0,a1,a2,a3,a4,a5,a6⟩,⟨r0,r1,r2,r3⟩,f0,f1,f2,f3⟩:=zh HL.out (zb.of (D:=D) hb1);have hz2:=zS hb1;have hz1:=Nat.lt_of_succ_lt hz2;have hz0:=Nat.lt_of_succ_lt hz1
   go_wp2_with fail
   refine (HSM.out _).mono ?_;rintro e w2 ⟨rfl,hbs⟩;have hb2:=hb1.trans (hbs.mono hb1.size);clear m0 m1 m2 m3 m4 a0 a1 a2 a3 a4 a5 a6 r0 r1 r2 r3 f0 f1 f2 f3 hz2 hz1 hz0;obtain ⟨⟨⟨m0,m1,m2,m3,m4⟩,a0,a1,a2,a3,a4,a5,a6⟩,⟨r0,r1,r2,r3⟩,f0,f1,f2,f3⟩:=zh HL.out (zb.of (D:=D) hb2);have hz2:=zS hb2;have hz1:=Nat.lt_of_succ_lt hz2;have hz0:=Nat.lt_of_succ_lt hz1;clear hbs
   go_wp2_with fail
   refine (HQT.out _).mono ?_;rintro e w7 ⟨rfl,hbq⟩;have hb7:=hb2.trans (hbq.mono hb2.size);clear m0 m1 m2 m3 m4 a0 a1 a2 a3 a4 a5 a6 r0 r1 r2 r3 f0 f1 f2 f3 hz2 hz1 hz0;obtain ⟨⟨⟨m0,m1,m2,m3,m4⟩,a0,a1,a2,a3,a4,a5,a6⟩,⟨r0,r1,r2,r3⟩,f0,f1,f2,f3⟩:=zh HL.out (zb.of (D:=D) hb7);have hz2:=zS hb7;have hz1:=Nat.lt_of_succ_lt hz2;have hz0:=Nat.lt_of_succ_lt hz1;have hb8:=hb7.alloc hb7.size (.cells #[.string zbw,.string (zM++qt++zN)] 59);have hrf:=zaV w7 zbw (zM++qt++zN) rfl;clear hbq;have HPM:=hid (HPL.out _ _ hrf (HG.out _ (zl hb8)));unfold zbw zM zN at HPM
   go_wp2_with fail
   refine HPM.out.mono ?_;rintro e w9 ⟨A1,c1,rfl,ho,hb⟩;have hbY:=hb8.trans (hb.mono hb8.size);clear m0 m1 m2 m3 m4 a0 a1 a2 a3 a4 a5 a6 r0 r1 r2 r3 f0 f1 f2 f3 hz2 hz1 hz0;obtain ⟨⟨⟨r0,r1,r2,r3⟩,f0,f1,f2,f3⟩,hz2⟩:=zbg HL.out hX0 (zb.of hbY);have HO:=hid (zn (b':=(X3 w (zf m A c) (zu r FA fc TA tc)).heap.size) ho hb8.size);have HBW:=hid (zl hbY);clear ho hb hbY
   go_wp2
   exact bodyPost_ret (v:=rsV ⟨401,⟨#[]⟩,[ctF,(zbw,zM++qt++zN)],bd⟩ A1 c1) (by simp[results,Tryz.results69,go_sem,rsV,r0,r1,r2,r3]) rfl
    (zbo (b:=w.heap.size+1+1) (x:=⟨401,⟨#[]⟩,[ctF,(zbw,zM++qt++zN)],bd⟩) HL.out (zae w (zf m A c) (zu r FA fc TA tc)) (by omega) (by rw[zaA];omega) HBW.out HO.out (by rw[HAI.out,HBD.out]) ((show zbH 8 (⟨401,⟨#[]⟩,[ctF,(zbw,zM++qt++zN)],bd⟩:Rs) by rw[←HBD.out];exact zaJ 401 (zah zew (by have h1:zM.size=12:=rfl;have h2:zN.size=17:=rfl;unfold maxLen;show (zM++qt++zN).size≤_;rw[ByteArray.size_append,ByteArray.size_append];omega) zR) (by simp)).more (by have:=HN8.out;omega)) _ _ _ _)
  ·skip
   have hno:=HL2.out _ hon hc;have HAI:=hid (show zx m r= .inr (zT 401 [(zbw,zM++qt++zN)]) by rw[HA7.out,hno];rfl);clear hno HA7 HC HL2 HL3 HCT hon hc;have hl5:decide ((5:Int)<(s.size:Int))=true:=decide_eq_true (by omega);have hl6:(5:Int)≤(s.size:Int):=by omega
   have hl7:(5:Int)<(s.size:Int):=by omega
   have hl8:5≤s.size:=by omega
   rw[h2] at HSM;unfold zeg at HSM;have hq:=@zE s 5 h1;have h32:(bt s 5==32)=false:=beq_eq_false_iff_ne.2 h3;clear h2 h3
   go_enter Tryz.func69,Tryz.ntmps69
   go_wp2_with fail
   refine (HON.out (X3 w (zf m A c) (zu r FA fc TA tc)) (zl hX0)).mono ?_;rintro e w1 ⟨rfl,hb1⟩;obtain ⟨⟨⟨m0,m1,m2,m3,m4⟩,a0,a1,a2,a3,a4,a5,a6⟩,⟨r0,r1,r2,r3⟩,f0,f1,f2,f3⟩:=zh HL.out (zb.of (D:=D) hb1);have hz2:=zS hb1;have hz1:=Nat.lt_of_succ_lt hz2;have hz0:=Nat.lt_of_succ_lt hz1
   go_wp2_with fail
   refine (HSM.out _).mono ?_;rintro e w2 ⟨rfl,hbs⟩;have hb2:=hb1.trans (hbs.mono hb1.size);clear m0 m1 m2 m3 m4 a0 a1 a2 a3 a4 a5 a6 r0 r1 r2 r3 f0 f1 f2 f3 hz2 hz1 hz0;obtain ⟨⟨⟨m0,m1,m2,m3,m4⟩,a0,a1,a2,a3,a4,a5,a6⟩,⟨r0,r1,r2,r3⟩,f0,f1,f2,f3⟩:=zh HL.out (zb.of (D:=D) hb2);have hz2:=zS hb2;have hz1:=Nat.lt_of_succ_lt hz2;have hz0:=Nat.lt_of_succ_lt hz1;clear hbs
   go_wp2_with fail
   refine (HQT.out _).mono ?_;rintro e w7 ⟨rfl,hbq⟩;have hb7:=hb2.trans (hbq.mono hb2.size);clear m0 m1 m2 m3 m4 a0 a1 a2 a3 a4 a5 a6 r0 r1 r2 r3 f0 f1 f2 f3 hz2 hz1 hz0;obtain ⟨⟨⟨m0,m1,m2,m3,m4⟩,a0,a1,a2,a3,a4,a5,a6⟩,⟨r0,r1,r2,r3⟩,f0,f1,f2,f3⟩:=zh HL.out (zb.of (D:=D) hb7);have hz2:=zS hb7;have hz1:=Nat.lt_of_succ_lt hz2;have hz0:=Nat.lt_of_succ_lt hz1;have hb8:=hb7.alloc hb7.size (.cells #[.string zbw,.string (zM++qt++zN)] 59);have hrf:=zaV w7 zbw (zM++qt++zN) rfl;clear hbq;have HPM:=hid (HPL.out _ _ hrf (HG.out _ (zl hb8)));unfold zbw zM zN at HPM
   go_wp2_with fail
   refine HPM.out.mono ?_;rintro e w9 ⟨A1,c1,rfl,ho,hb⟩;have hbY:=hb8.trans (hb.mono hb8.size);clear m0 m1 m2 m3 m4 a0 a1 a2 a3 a4 a5 a6 r0 r1 r2 r3 f0 f1 f2 f3 hz2 hz1 hz0;obtain ⟨⟨⟨r0,r1,r2,r3⟩,f0,f1,f2,f3⟩,hz2⟩:=zbg HL.out hX0 (zb.of hbY);have HO:=hid (zn (b':=(X3 w (zf m A c) (zu r FA fc TA tc)).heap.size) ho hb8.size);have HBW:=hid (zl hbY);clear ho hb hbY
   go_wp2
   exact bodyPost_ret (v:=rsV ⟨401,⟨#[]⟩,[ctF,(zbw,zM++qt++zN)],bd⟩ A1 c1) (by simp[results,Tryz.results69,go_sem,rsV,r0,r1,r2,r3]) rfl
    (zbo (b:=w.heap.size+1+1) (x:=⟨401,⟨#[]⟩,[ctF,(zbw,zM++qt++zN)],bd⟩) HL.out (zae w (zf m A c) (zu r FA fc TA tc)) (by omega) (by rw[zaA];omega) HBW.out HO.out (by rw[HAI.out,HBD.out]) ((show zbH 8 (⟨401,⟨#[]⟩,[ctF,(zbw,zM++qt++zN)],bd⟩:Rs) by rw[←HBD.out];exact zaJ 401 (zah zew (by have h1:zM.size=12:=rfl;have h2:zN.size=17:=rfl;unfold maxLen;show (zM++qt++zN).size≤_;rw[ByteArray.size_append,ByteArray.size_append];omega) zR) (by simp)).more (by have:=HN8.out;omega)) _ _ _ _)
  ·skip
   have hl5:decide ((5:Int)<(s.size:Int))=true:=decide_eq_true (by omega);have hl6:(5:Int)≤(s.size:Int):=by omega
   have hl7:(5:Int)<(s.size:Int):=by omega
   have hl8:5≤s.size:=by omega
   rw[h2] at HSM;unfold zeg at HSM;have hq:=@zE s 5 h1;have h32:(bt s 5==32)=true:=beq_iff_eq.2 h3;clear h2 h3;have HTL:=hid (fun W=>zug (s.extract 5 s.size) W);have HDC:=hid (fun W=>zp2 ⟨(Lib.trimLeftS (s.extract 5 s.size).data.toList [32]).toArray⟩ W (by show (Lib.trimLeftS (s.extract 5 s.size).data.toList [32]).length≤_;have h:=zuV (s.extract 5 s.size).data.toList 32;have h2:(s.extract 5 s.size).data.toList.length=(s.extract 5 s.size).size:=rfl;rw[h2,ByteArray.size_extract] at h;omega));rw[show (⟨(Lib.trimLeftS (s.extract 5 s.size).data.toList [32]).toArray⟩:ByteArray).data.toList=Lib.trimLeftS (s.extract 5 s.size).data.toList [32] from rfl] at HDC;generalize Lib.trimLeftS (s.extract 5 s.size).data.toList [32]=tl at *;unfold zil at HDC
   cases h64:b64 tl with
   |none=>
    rw[h64] at hc HDC;dsimp only[Option.map] at hc HDC;have hno:=HL2.out _ hon hc;have HAI:=hid (show zx m r= .inr (zT 401 [(zbw,zM++qt++zN)]) by rw[HA7.out,hno];rfl);clear hno HA7 HC HL2 HL3 HCT hon hc;clear h64 HB
    go_enter Tryz.func69,Tryz.ntmps69
    go_wp2_with fail
    refine (HON.out (X3 w (zf m A c) (zu r FA fc TA tc)) (zl hX0)).mono ?_;rintro e w1 ⟨rfl,hb1⟩;obtain ⟨⟨⟨m0,m1,m2,m3,m4⟩,a0,a1,a2,a3,a4,a5,a6⟩,⟨r0,r1,r2,r3⟩,f0,f1,f2,f3⟩:=zh HL.out (zb.of (D:=D) hb1);have hz2:=zS hb1;have hz1:=Nat.lt_of_succ_lt hz2;have hz0:=Nat.lt_of_succ_lt hz1
    go_wp2_with fail
    refine (HSM.out _).mono ?_;rintro e w2 ⟨rfl,hbs⟩;have hb2:=hb1.trans (hbs.mono hb1.size);clear m0 m1 m2 m3 m4 a0 a1 a2 a3 a4 a5 a6 r0 r1 r2 r3 f0 f1 f2 f3 hz2 hz1 hz0;obtain ⟨⟨⟨m0,m1,m2,m3,m4⟩,a0,a1,a2,a3,a4,a5,a6⟩,⟨r0,r1,r2,r3⟩,f0,f1,f2,f3⟩:=zh HL.out (zb.of (D:=D) hb2);have hz2:=zS hb2;have hz1:=Nat.lt_of_succ_lt hz2;have hz0:=Nat.lt_of_succ_lt hz1;clear hbs
    go_wp2_with fail
    refine (HTL.out _).mono ?_;rintro e w3 ⟨rfl,rfl⟩
    go_wp2_with fail
    refine (HDC.out _).mono ?_;rintro e w4 ⟨dt,di,dx,rfl,hdx,hbd⟩;have hb4:=hb2.trans (hbd.mono hb2.size);subst hdx;clear m0 m1 m2 m3 m4 a0 a1 a2 a3 a4 a5 a6 r0 r1 r2 r3 f0 f1 f2 f3 hz2 hz1 hz0;obtain ⟨⟨⟨m0,m1,m2,m3,m4⟩,a0,a1,a2,a3,a4,a5,a6⟩,⟨r0,r1,r2,r3⟩,f0,f1,f2,f3⟩:=zh HL.out (zb.of (D:=D) hb4);have hz2:=zS hb4;have hz1:=Nat.lt_of_succ_lt hz2;have hz0:=Nat.lt_of_succ_lt hz1;clear hbd
    go_wp2_with fail
    refine (HQT.out _).mono ?_;rintro e w7 ⟨rfl,hbq⟩;have hb7:=hb4.trans (hbq.mono hb4.size);clear m0 m1 m2 m3 m4 a0 a1 a2 a3 a4 a5 a6 r0 r1 r2 r3 f0 f1 f2 f3 hz2 hz1 hz0;obtain ⟨⟨⟨m0,m1,m2,m3,m4⟩,a0,a1,a2,a3,a4,a5,a6⟩,⟨r0,r1,r2,r3⟩,f0,f1,f2,f3⟩:=zh HL.out (zb.of (D:=D) hb7);have hz2:=zS hb7;have hz1:=Nat.lt_of_succ_lt hz2;have hz0:=Nat.lt_of_succ_lt hz1;have hb8:=hb7.alloc hb7.size (.cells #[.string zbw,.string (zM++qt++zN)] 59);have hrf:=zaV w7 zbw (zM++qt++zN) rfl;clear hbq;have HPM:=hid (HPL.out _ _ hrf (HG.out _ (zl hb8)));unfold zbw zM zN at HPM
    go_wp2_with fail
    refine HPM.out.mono ?_;rintro e w9 ⟨A1,c1,rfl,ho,hb⟩;have hbY:=hb8.trans (hb.mono hb8.size);clear m0 m1 m2 m3 m4 a0 a1 a2 a3 a4 a5 a6 r0 r1 r2 r3 f0 f1 f2 f3 hz2 hz1 hz0;obtain ⟨⟨⟨r0,r1,r2,r3⟩,f0,f1,f2,f3⟩,hz2⟩:=zbg HL.out hX0 (zb.of hbY);have HO:=hid (zn (b':=(X3 w (zf m A c) (zu r FA fc TA tc)).heap.size) ho hb8.size);have HBW:=hid (zl hbY);clear ho hb hbY
    go_wp2
    exact bodyPost_ret (v:=rsV ⟨401,⟨#[]⟩,[ctF,(zbw,zM++qt++zN)],bd⟩ A1 c1) (by simp[results,Tryz.results69,go_sem,rsV,r0,r1,r2,r3]) rfl
     (zbo (b:=w.heap.size+1+1) (x:=⟨401,⟨#[]⟩,[ctF,(zbw,zM++qt++zN)],bd⟩) HL.out (zae w (zf m A c) (zu r FA fc TA tc)) (by omega) (by rw[zaA];omega) HBW.out HO.out (by rw[HAI.out,HBD.out]) ((show zbH 8 (⟨401,⟨#[]⟩,[ctF,(zbw,zM++qt++zN)],bd⟩:Rs) by rw[←HBD.out];exact zaJ 401 (zah zew (by have h1:zM.size=12:=rfl;have h2:zN.size=17:=rfl;unfold maxLen;show (zM++qt++zN).size≤_;rw[ByteArray.size_append,ByteArray.size_append];omega) zR) (by simp)).more (by have:=HN8.out;omega)) _ _ _ _)
   |some dl=>
    rw[h64] at hc HDC;dsimp only[Option.map] at hc HDC;have hlet:=HL3.out _ _ hon hc;have HCS:=hid (fun W h=>HCT.out (⟨dl.toArray⟩:ByteArray) W h);clear HL2 HL3 hon hc h64 HCT
    cases hi:zb5 m.list (⟨dl.toArray⟩:ByteArray)
    all_goals
     rw[hi] at hlet HCS;clear hi
    ·have hno:=hlet
     have HAI:=hid (show zx m r= .inr (zT 401 [(zbw,zM++qt++zN)]) by rw[HA7.out,hno];rfl);clear hno hlet HA7 HC HB
     go_enter Tryz.func69,Tryz.ntmps69
     go_wp2_with fail
     refine (HON.out (X3 w (zf m A c) (zu r FA fc TA tc)) (zl hX0)).mono ?_;rintro e w1 ⟨rfl,hb1⟩;obtain ⟨⟨⟨m0,m1,m2,m3,m4⟩,a0,a1,a2,a3,a4,a5,a6⟩,⟨r0,r1,r2,r3⟩,f0,f1,f2,f3⟩:=zh HL.out (zb.of (D:=D) hb1);have hz2:=zS hb1;have hz1:=Nat.lt_of_succ_lt hz2;have hz0:=Nat.lt_of_succ_lt hz1
     go_wp2_with fail
     refine (HSM.out _).mono ?_;rintro e w2 ⟨rfl,hbs⟩;have hb2:=hb1.trans (hbs.mono hb1.size);clear m0 m1 m2 m3 m4 a0 a1 a2 a3 a4 a5 a6 r0 r1 r2 r3 f0 f1 f2 f3 hz2 hz1 hz0;obtain ⟨⟨⟨m0,m1,m2,m3,m4⟩,a0,a1,a2,a3,a4,a5,a6⟩,⟨r0,r1,r2,r3⟩,f0,f1,f2,f3⟩:=zh HL.out (zb.of (D:=D) hb2);have hz2:=zS hb2;have hz1:=Nat.lt_of_succ_lt hz2;have hz0:=Nat.lt_of_succ_lt hz1;clear hbs
     go_wp2_with fail
     refine (HTL.out _).mono ?_;rintro e w3 ⟨rfl,rfl⟩
     go_wp2_with fail
     refine (HDC.out _).mono ?_;rintro e w4 ⟨dt,di,dx,rfl,⟨hdx,hdt⟩,hbd⟩;have hb4:=hb2.trans (hbd.mono hb2.size);subst hdx;subst hdt;clear m0 m1 m2 m3 m4 a0 a1 a2 a3 a4 a5 a6 r0 r1 r2 r3 f0 f1 f2 f3 hz2 hz1 hz0;obtain ⟨⟨⟨m0,m1,m2,m3,m4⟩,a0,a1,a2,a3,a4,a5,a6⟩,⟨r0,r1,r2,r3⟩,f0,f1,f2,f3⟩:=zh HL.out (zb.of (D:=D) hb4);have hz2:=zS hb4;have hz1:=Nat.lt_of_succ_lt hz2;have hz0:=Nat.lt_of_succ_lt hz1;clear hbd
     go_wp2_with fail
     refine (HCS.out _ (zl hb4)).mono ?_;rintro e w5 ⟨rfl,rfl⟩
     go_wp2_with fail
     refine (HQT.out _).mono ?_;rintro e w7 ⟨rfl,hbq⟩;have hb7:=hb4.trans (hbq.mono hb4.size);clear m0 m1 m2 m3 m4 a0 a1 a2 a3 a4 a5 a6 r0 r1 r2 r3 f0 f1 f2 f3 hz2 hz1 hz0;obtain ⟨⟨⟨m0,m1,m2,m3,m4⟩,a0,a1,a2,a3,a4,a5,a6⟩,⟨r0,r1,r2,r3⟩,f0,f1,f2,f3⟩:=zh HL.out (zb.of (D:=D) hb7);have hz2:=zS hb7;have hz1:=Nat.lt_of_succ_lt hz2;have hz0:=Nat.lt_of_succ_lt hz1;have hb8:=hb7.alloc hb7.size (.cells #[.string zbw,.string (zM++qt++zN)] 59);have hrf:=zaV w7 zbw (zM++qt++zN) rfl;clear hbq;have HPM:=hid (HPL.out _ _ hrf (HG.out _ (zl hb8)));unfold zbw zM zN at HPM
     go_wp2_with fail
     refine HPM.out.mono ?_;rintro e w9 ⟨A1,c1,rfl,ho,hb⟩;have hbY:=hb8.trans (hb.mono hb8.size);clear m0 m1 m2 m3 m4 a0 a1 a2 a3 a4 a5 a6 r0 r1 r2 r3 f0 f1 f2 f3 hz2 hz1 hz0;obtain ⟨⟨⟨r0,r1,r2,r3⟩,f0,f1,f2,f3⟩,hz2⟩:=zbg HL.out hX0 (zb.of hbY);have HO:=hid (zn (b':=(X3 w (zf m A c) (zu r FA fc TA tc)).heap.size) ho hb8.size);have HBW:=hid (zl hbY);clear ho hb hbY
     go_wp2
     exact bodyPost_ret (v:=rsV ⟨401,⟨#[]⟩,[ctF,(zbw,zM++qt++zN)],bd⟩ A1 c1) (by simp[results,Tryz.results69,go_sem,rsV,r0,r1,r2,r3]) rfl
      (zbo (b:=w.heap.size+1+1) (x:=⟨401,⟨#[]⟩,[ctF,(zbw,zM++qt++zN)],bd⟩) HL.out (zae w (zf m A c) (zu r FA fc TA tc)) (by omega) (by rw[zaA];omega) HBW.out HO.out (by rw[HAI.out,HBD.out]) ((show zbH 8 (⟨401,⟨#[]⟩,[ctF,(zbw,zM++qt++zN)],bd⟩:Rs) by rw[←HBD.out];exact zaJ 401 (zah zew (by have h1:zM.size=12:=rfl;have h2:zN.size=17:=rfl;unfold maxLen;show (zM++qt++zN).size≤_;rw[ByteArray.size_append,ByteArray.size_append];omega) zR) (by simp)).more (by have:=HN8.out;omega)) _ _ _ _)
    ·have HAI:=hid (show zx m r= .inl r by rw[HA7.out,hlet];rfl)
     clear hlet HA7 HPL HBD HQT
     go_enter Tryz.func69,Tryz.ntmps69
     go_wp2_with fail
     refine (HON.out (X3 w (zf m A c) (zu r FA fc TA tc)) (zl hX0)).mono ?_;rintro e w1 ⟨rfl,hb1⟩;obtain ⟨⟨⟨m0,m1,m2,m3,m4⟩,a0,a1,a2,a3,a4,a5,a6⟩,⟨r0,r1,r2,r3⟩,f0,f1,f2,f3⟩:=zh HL.out (zb.of (D:=D) hb1);have hz2:=zS hb1;have hz1:=Nat.lt_of_succ_lt hz2;have hz0:=Nat.lt_of_succ_lt hz1
     go_wp2_with fail
     refine (HSM.out _).mono ?_;rintro e w2 ⟨rfl,hbs⟩;have hb2:=hb1.trans (hbs.mono hb1.size);clear m0 m1 m2 m3 m4 a0 a1 a2 a3 a4 a5 a6 r0 r1 r2 r3 f0 f1 f2 f3 hz2 hz1 hz0;obtain ⟨⟨⟨m0,m1,m2,m3,m4⟩,a0,a1,a2,a3,a4,a5,a6⟩,⟨r0,r1,r2,r3⟩,f0,f1,f2,f3⟩:=zh HL.out (zb.of (D:=D) hb2);have hz2:=zS hb2;have hz1:=Nat.lt_of_succ_lt hz2;have hz0:=Nat.lt_of_succ_lt hz1;clear hbs
     go_wp2_with fail
     refine (HTL.out _).mono ?_;rintro e w3 ⟨rfl,rfl⟩
     go_wp2_with fail
     refine (HDC.out _).mono ?_;rintro e w4 ⟨dt,di,dx,rfl,⟨hdx,hdt⟩,hbd⟩;have hb4:=hb2.trans (hbd.mono hb2.size);subst hdx;subst hdt;clear m0 m1 m2 m3 m4 a0 a1 a2 a3 a4 a5 a6 r0 r1 r2 r3 f0 f1 f2 f3 hz2 hz1 hz0;obtain ⟨⟨⟨m0,m1,m2,m3,m4⟩,a0,a1,a2,a3,a4,a5,a6⟩,⟨r0,r1,r2,r3⟩,f0,f1,f2,f3⟩:=zh HL.out (zb.of (D:=D) hb4);have hz2:=zS hb4;have hz1:=Nat.lt_of_succ_lt hz2;have hz0:=Nat.lt_of_succ_lt hz1;clear hbd
     go_wp2_with fail
     refine (HCS.out _ (zl hb4)).mono ?_;rintro e w5 ⟨rfl,rfl⟩
     go_wp2_with fail
     refine (HC.out _ (zl hb4)).mono ?_;rintro e w9 ⟨y,A1,c1,rfl,hrow,hfit,hTT,hk⟩;clear m0 m1 m2 m3 m4 a0 a1 a2 a3 a4 a5 a6 r0 r1 r2 r3 f0 f1 f2 f3 hz2 hz1 hz0;obtain ⟨⟨⟨r0,r1,r2,r3⟩,f0,f1,f2,f3⟩,hz2⟩:=zbg HL.out hb4 hk;have HE:=hid (zdN (F:=zB m r) (b:=w.heap.size+1+1) (M:=N+2) HN0.out (zl hb4) (by omega) (zS hb4) hrow hfit (by omega) hTT hk (HB.out y) (.int .i64 y.status) (.string y.reason) (.slice A1 y.fields.length c1) (.string y.body));clear hrow hfit hTT hk HC;unfold rsV at *
     go_wp2
     exact bodyPost_ret (v:=rsV y A1 c1) (by simp[results,Tryz.results69,go_sem,rsV,r0,r1,r2,r3]) rfl (HE.out.imp (Nat.le_refl _) fun _ _ _ h=>zbc HAI.out h)
end Go.Proofs.YtbnafbdhomdcoaaGreatDoor
