/-
  CkS, ChLawNil, without what the claim does not reach.
-/
import Derived.Test.YtbnafbdhomdcoaaGreatDoorZn6
import Derived.Test.YtbnafbdhomdcoaaGreatDoorZCkR
import Derived.Test.YtbnafbdhomdcoaaGreatDoorZn3
import Derived.Test.YtbnafbdhomdcoaaGreatDoorZn4
import Derived.Test.YtbnafbdhomdcoaaGreatDoorZm9
namespace Go.Proofs.YtbnafbdhomdcoaaGreatDoor
open Go.RowKit Go.Shelf Go.Lib
structure zwP (w3 W:World) (bx:Nat) (n:Nat) (QA:Option Addr) (qn qc:Nat) (x0:Rs) (OA:Option Addr) (oc:Nat) (eb:Bool) (x:Rs) (XA:Option Addr) (xc:Nat):Prop where
 low:Below w3.heap.size w3 W
 lt:w3.heap.size<W.heap.size∧bx<W.heap.size
 way:zp6 W w3.heap.size n QA qn qc x0 OA oc eb
 want:zhZ W bx (.int .i64 x.status) (.string x.reason) (.slice XA x.fields.length xc) (.string x.body)
 row:Row W XA (zj x.fields)
theorem ztI (w:World) (t:TypeId) (v0 v1 v2 v3:Value):zhZ (w.alloc (.cells #[v0,v1,v2,v3] t)) w.heap.size v0 v1 v2 v3∧((w.alloc (.cells #[v0,v1,v2,v3] t)).frozen? ⟨w.heap.size,0,none⟩=false∧(w.alloc (.cells #[v0,v1,v2,v3] t)).frozen? ⟨w.heap.size,1,none⟩=false∧(w.alloc (.cells #[v0,v1,v2,v3] t)).frozen? ⟨w.heap.size,2,none⟩=false∧(w.alloc (.cells #[v0,v1,v2,v3] t)).frozen? ⟨w.heap.size,3,none⟩=false):=by
 have g:=fun j=>zhz w [.cells #[v0,v1,v2,v3] t] (i:=0) rfl j
 exact ⟨⟨(g 0).1,(g 1).1,(g 2).1,(g 3).1⟩,(g 0).2,(g 1).2,(g 2).2,(g 3).2⟩
set_option maxRecDepth 20000 in
set_option maxHeartbeats 8000000 in
theorem znj (ls:List Ma) (MA:Option Addr) (mc:Nat) (w:World) (r:Rq) (FA:Option Addr) (fc:Nat) (TA:Option Addr) (tc:Nat) (hg:zdF w)
  (hM:Row w MA (zbU ls)) (hO:∀y∈ls,Row w y.2.1 (y.1.list.map .string)∧y.1.list.length≤y.2.2∧zaY y.1) (hll:ls.length≤1048570) (hF:Row w FA (zj r.fields)) (hT:Row w TA (zj r.trailers)) (hr:zcO r) (hfl:r.fields.length≤1048576) (htl:r.trailers.length≤1048576):
  Calls Tryz.prog 4 #[.slice MA ls.length mc,rqV r FA fc TA tc] w fun e w'=>e= .returned (.bool true)∧Below w.heap.size w w':=by
 have HMS:=hid (fun (W:World) (h:Below w.heap.size w W)=>zpr ls MA mc W (hM.below h) (fun y hy=>⟨(hO y hy).1.below h,(hO y hy).2⟩) (by omega));have HRQ:=hid (fun (W:World) (h:Below w.heap.size w W)=>znY r FA fc TA tc W (hF.below h) (hT.below h) (by omega) (by omega));have HRN:=hid (fun (W:World) (h:Below w.heap.size w W)=>zpf ls MA mc W r FA fc TA tc (hg.beyond h) (hM.below h) (fun y hy=>⟨(hO y hy).1.below h,(hO y hy).2⟩) (by omega) (hF.below h) (hT.below h) hr);have HAW:=hid (fun (W:World) (h:Below w.heap.size w W)=>zr8 W (hg.beyond h));have HFM:Hid (∀m∈ls.map (·.1),zaY m):=hid (fun m hm=>by
  obtain ⟨y,hy,rfl⟩:=List.mem_map.1 hm;exact (hO y hy).2.2)
 have HFW:=hid (zuA HFM.out hr);have HR:=hid hr;have HLS:=hid (show (zbD (ls.map (·.1)) r).1.length≤ls.length+1 by have h:=zvM (ls.map (·.1)) r;rw[List.length_map] at h;exact h);clear hg hM hO hF hT hr;unfold rqV at *
 go_enter Tryz.func4,Tryz.ntmps4
 go_wp2_with fail
 refine (HMS.out _ ((Below.refl _ w).alloc (Nat.le_refl _) _)).mono ?_;rintro e w1 ⟨DA,dc,ts,rfl,hsame,hdr,hdo,hb1⟩;have hb1':Below (w.heap.size+1) (w.alloc (.cells (zu r FA fc TA tc) 27)) w1:=by unfold zu;simpa using hb1
 have hs1:w.heap.size+1≤w1.heap.size:=by have h:=hb1'.size;simpa using h
 have HBX:=hid (fun (W:World) (h:Below w1.heap.size w1 W)=>zjT (hb1'.trans (h.mono hs1)));have hbw1:Below w.heap.size w w1:=((Below.refl _ w).alloc (Nat.le_refl _) _).trans (hb1.mono (by simp));have HSAME:=hid hsame;have hdl:ts.length=ls.length:=by have h:=congrArg List.length hsame;rw[List.length_map,List.length_map] at h;exact h
 have HDL:=hid hdl;have HDR:=hid hdr;have HDO:=hid hdo;clear hb1 hb1' hs1 hsame hdr hdo hdl;obtain ⟨a0,a1,a2,a3,a4,a5,a6⟩:=HBX.out w1 (Below.refl _ _)
 go_wp2_with fail
 refine (HRQ.out _ hbw1).mono ?_;rintro e w2 ⟨RA,rc,RB,rd,rfl,hrf,hrt,hb2⟩;clear a0 a1 a2 a3 a4 a5 a6;have hbw2:=hbw1.trans (hb2.mono hbw1.size);have HGO:=hid (zvx ts DA dc r RA rc RB rd w2 (HDR.out.below hb2) (fun y hy=>⟨(HDO.out y hy).1.below hb2,(HDO.out y hy).2⟩) hrf HR.out (by have:=HDL.out;omega));rw[HSAME.out] at HGO;have HRF:=hid hrf;clear hrf hrt;unfold rqV at *
 go_wp2_with fail
 refine HGO.out.mono ?_;rintro e w3 ⟨n,QA,qc,x0,OA,oc,hqn,rfl,hQ,hb3,hown⟩;have HQR:=hid hQ;have HQN:=hid hqn;have hnl:n≤ls.length:=by have:=HLS.out;omega
 have hql:(zbD (ls.map (·.1)) r).1.length≤1048576:=by have:=HLS.out;omega
 have HOW:=hid hown;have HQF:=hid (fun (q:Rq) (hq:q∈(zbD (ls.map (·.1)) r).1)=>(⟨zlp _ r q hq,zrz _ HR.out q hq⟩:q.fields=r.fields∧zcO q));have hbw3:=hbw2.trans (hb3.mono hbw2.size);have HRF3:=hid (HRF.out.below hb3);have HDR3:=hid (HDR.out.below (hb2.trans (hb3.mono hb2.size)));have HDO3:=hid (fun y (hy:y∈ts)=>(⟨(HDO.out y hy).1.below (hb2.trans (hb3.mono hb2.size)),(HDO.out y hy).2⟩:Row w3 y.2.1 (y.1.list.map .string)∧y.1.list.length≤y.2.2∧zaY y.1));have HBX3:=hid (fun (W:World) (h:Below w3.heap.size w3 W)=>HBX.out W ((hb2.trans (hb3.mono hb2.size)).trans (h.mono (Nat.le_trans hb2.size hb3.size))));clear HGO HMS HRQ hqn hQ hown HLS HRF HDR HDO HBX hb2 hb3 hbw1 hbw2;unfold zgl;obtain ⟨x,hx⟩:∃x,x=zlY (ls.map (·.1)) r:=⟨_,rfl⟩;have HX:=hid hx;have HNP:=hid (show ztM (ls.map (·.1)) r=ze6 (ts.map (·.1)) (zbD (ls.map (·.1)) r).1 x by rw[HSAME.out,hx];rfl);rw[←hx] at HFW;clear hx;unfold zlY at HX;generalize (zbD (ls.map (·.1)) r).1=qs at *;generalize (zbD (ls.map (·.1)) r).2=ob at *;have HPL:=hid (fun W=>zdT 404 none 0 [] W (Row.nil _ _) (by decide) (by decide) (by decide) (zfS 404));have HBD:=hid (show zT 404 []=⟨404,⟨#[]⟩,[ctF],zao 404⟩ from rfl);generalize zao 404=bd at *;generalize ztM (ls.map (·.1)) r=y at *
 go_upto_region 3 with (fail)
 have HW4:=hid (zog w3 41 (.int .i64 n) (.slice QA qs.length qc) (.int .i64 x0.status) (.string x0.reason) (.slice OA x0.fields.length oc) (.string x0.body) (.bool ob.isSome));have HB4:=hid ((Below.refl w3.heap.size w3).alloc (Nat.le_refl _) (.cells #[.int .i64 n,.slice QA qs.length qc,.int .i64 x0.status,.string x0.reason,.slice OA x0.fields.length oc,.string x0.body,.bool ob.isSome] 41));have hz4:w3.heap.size<(w3.alloc (.cells #[.int .i64 n,.slice QA qs.length qc,.int .i64 x0.status,.string x0.reason,.slice OA x0.fields.length oc,.string x0.body,.bool ob.isSome] 41)).heap.size:=by simp
 generalize w3.alloc (.cells #[.int .i64 n,.slice QA qs.length qc,.int .i64 x0.status,.string x0.reason,.slice OA x0.fields.length oc,.string x0.body,.bool ob.isSome] 41)=w4 at *;obtain ⟨d0,d1,d2,d3,d4,d5,d6,_⟩:=HW4.out
 go_upto_region 4 with (fail)
 clear d0 d1 d2 d3 d4 d5 d6;have HR5:=hid (ztI w4 39 (.int .i64 x0.status) (.string x0.reason) (.slice OA x0.fields.length oc) (.string x0.body));have HB5:=hid ((Below.refl w4.heap.size w4).alloc (Nat.le_refl _) (.cells #[.int .i64 x0.status,.string x0.reason,.slice OA x0.fields.length oc,.string x0.body] 39));have hz5:w4.heap.size<(w4.alloc (.cells #[.int .i64 x0.status,.string x0.reason,.slice OA x0.fields.length oc,.string x0.body] 39)).heap.size:=by simp
 have HW5:=hid (HW4.out.below HB5.out hz4);generalize w4.alloc (.cells #[.int .i64 x0.status,.string x0.reason,.slice OA x0.fields.length oc,.string x0.body] 39)=w5 at *;have HB35:=hid (HB4.out.trans (HB5.out.mono HB4.out.size));clear HW4;obtain ⟨d0,d1,d2,d3,d4,d5,d6,_⟩:=HW5.out
 go_upto_if 18 with (fail)
 go_cut [7] (fun v wx=>v= .pointer (some ⟨w4.heap.size,0,none⟩)∧∃XA xc,Hid (zwP w3 wx w4.heap.size n QA qs.length qc x0 OA oc ob.isSome x XA xc))
 case first=>
  cases ob with
  |some o=>
   obtain ⟨h1,h2⟩:=HOW.out o rfl;have HXE:=hid (show x0=x from h1.trans HX.out.symm);have HNW:=hid (⟨HB35.out,⟨Nat.lt_trans hz4 hz5,hz5⟩,HW5.out,HR5.out.1,h2.below HB35.out⟩:zwP w3 w5 w4.heap.size n QA qs.length qc x0 OA oc (some o:Option Rs).isSome x0 OA oc);clear h1 h2;dsimp only[Option.isSome]
   go_wp2_with fail
   go_meet
   exact ⟨rfl,OA,oc,by rw[←HXE.out];exact HNW⟩
  |none=>
   obtain ⟨⟨r0,r1,r2,r3⟩,f0,f1,f2,f3⟩:=HR5.out;clear r0 r1 r2 r3 f0 f1 f2 f3;dsimp only[Option.isSome]
   go_wp2_with fail
   refine (HPL.out _).mono ?_;rintro e w6 ⟨A1,c1,rfl,ho,hb⟩;have HO6:=hid ho;have HB6:=hid hb;have HRS:=hid (HR5.out.1.keep (E:=fun _=>False) (zb.of hb) hz5 (fun h=>h));have HFR:=hid (⟨(hb.frozen (p:=⟨w4.heap.size,0,none⟩) hz5).trans HR5.out.2.1,(hb.frozen (p:=⟨w4.heap.size,1,none⟩) hz5).trans HR5.out.2.2.1,(hb.frozen (p:=⟨w4.heap.size,2,none⟩) hz5).trans HR5.out.2.2.2.1,(hb.frozen (p:=⟨w4.heap.size,3,none⟩) hz5).trans HR5.out.2.2.2.2⟩:w6.frozen? ⟨w4.heap.size,0,none⟩=false∧w6.frozen? ⟨w4.heap.size,1,none⟩=false∧w6.frozen? ⟨w4.heap.size,2,none⟩=false∧w6.frozen? ⟨w4.heap.size,3,none⟩=false);have hz6:=hb.size;clear ho hb d0 d1 d2 d3 d4 d5 d6;obtain ⟨r0,r1,r2,r3⟩:=HRS.out;obtain ⟨f0,f1,f2,f3⟩:=HFR.out;have HKP:=hid (z7 (E:=fun k=>k=w4.heap.size) w6 rfl (.int .i64 404) (.string ⟨#[]⟩) (.slice A1 [ctF].length c1) (.string bd));have hz7:=HKP.out.size;have HNW:=hid (⟨zt HKP.out (fun k h=>by omega) (HB35.out.trans (HB6.out.mono HB35.out.size)),⟨by omega,by omega⟩,(HW5.out.below HB6.out (Nat.lt_trans hz4 hz5)).keep HKP.out (by omega) (by omega),zhM _ _ _ _ r0 r1 r2 r3,zak (zP HO6.out HKP.out (fun k h=>by omega))⟩:
    zwP w3 (zal w6 w4.heap.size (.int .i64 404) (.string ⟨#[]⟩) (.slice A1 [ctF].length c1) (.string bd)) w4.heap.size n QA qs.length qc x0 OA oc (none:Option Rs).isSome ⟨404,⟨#[]⟩,[ctF],bd⟩ A1 c1)
   have HXE:=hid (show x=⟨404,⟨#[]⟩,[ctF],bd⟩ from HX.out.trans HBD.out);clear HKP hz7
   go_wp2
   go_meet
   exact ⟨rfl,A1,c1,by rw[HXE.out];exact HNW⟩
 obtain ⟨hu7,XA,xc,HN⟩:=hcut;rw[hu7];clear hu7 d0 d1 d2 d3 d4 d5 d6 HW5 HB35 HB5 HB4 HR5 hz4 hz5 HPL HBD HX HOW;have hlow:=hbw3.trans (HN.out.low.mono hbw3.size);have HBR:=hid (fun (W:World) (h:Below wc.heap.size wc W)=>HBX3.out W (HN.out.low.trans (h.mono HN.out.low.size)));have HBW:=hid (fun (W:World) (h:Below wc.heap.size wc W)=>HN.out.way.below h HN.out.lt.1);have HBN:=hid (fun (W:World) (h:Below wc.heap.size wc W)=>HN.out.want.keep (E:=fun _=>False) (zb.of h) HN.out.lt.2 (fun h=>h));have HBK:=hid (fun (W:World) (h:Below wc.heap.size wc W)=>zsS ts DA dc qs n QA qc RA rc RB rd x0 OA oc ob.isSome x XA xc W (HDR3.out.below (HN.out.low.trans (h.mono HN.out.low.size))) (fun y hy=>⟨(HDO3.out y hy).1.below (HN.out.low.trans (h.mono HN.out.low.size)),(HDO3.out y hy).2⟩) (HQR.out.below (HN.out.low.trans (h.mono HN.out.low.size)))
  (fun q hq=>⟨by rw[(HQF.out q hq).1];exact HRF3.out.below (HN.out.low.trans (h.mono HN.out.low.size)),(HQF.out q hq).2⟩) HQN.out (by rw[HDL.out];exact hnl) (by rw[HDL.out];omega) (HN.out.row.below h) HFW.out)
 rw[←HNP.out] at HBK;have HEND:=hid (fun (W:World) (h:Below wc.heap.size wc W)=>hlow.trans (h.mono hlow.size));clear HN hlow HBX3 HDR3 HDO3 HQR HQF HRF3 HQN HNP HFW hbw3 HR HFM HSAME HDL;unfold rsV zgl at *;have hHeld0:=zaM (Below.refl wc.heap.size wc)
 go_wp2_with fail
 refine zO (t:=11) (S:=fun W=>Below wc.heap.size wc W) (by kernel_rfl) hHeld0 (fun hHeld=>?_);clear hHeld0;generalize wc.drew=w0 at *;refine zc 0 (h:=fun K hK=>?_)
 (try rw[if_pos (by rfl)])
 go_simp
 go_at_call 8
 refine (HAW.out _ (HEND.out _ hHeld)).mono ?_;rintro e w5 ⟨rfl,b5⟩;have hb5:=hHeld.trans (b5.mono hHeld.size);clear hHeld b5
 (try go_wp2_with fail)
 refine hK.out _ _ (.inr hb5) (fun _=>nm ?_);clear hK K;refine za 1 (s:=hb5) (h:=?_);refine za 2 (s:=hb5) (h:=?_);refine za 3 (y:=fun v hSw=>by (try dsimp only at hSw);obtain ⟨d0,d1,d2,d3,d4,d5,d6⟩:=HBR.out v hSw;exact yl) (s:=hb5) (h:=?_);refine za 5 (s:=hb5) (h:=?_);refine za 6 (y:=fun v hSw=>by (try dsimp only at hSw);obtain ⟨d0,d1,d2,d3,d4,d5,d6,_⟩:=HBW.out v hSw;exact yl) (s:=hb5) (h:=?_);refine za 7 (y:=fun v hSw=>by (try dsimp only at hSw);obtain ⟨d0,d1,d2,d3⟩:=HBN.out v hSw;exact yl) (s:=hb5) (h:=?_);refine zc 4 (h:=fun K hK=>?_)
 (try rw[if_pos (by rfl)])
 go_simp
 go_at_call 15
 refine (HRN.out _ (HEND.out _ hb5)).mono ?_;rintro e w6 ⟨A6,c6,rfl,r6,l6,b6⟩;have hb6:=hb5.trans (b6.mono hb5.size);clear hb5 b6
 (try go_wp2_with fail)
 refine hK.out _ _ (.inr hb6) (fun _=>nm ?_);clear hK K;refine zc 8 (h:=fun K hK=>?_)
 (try rw[if_pos (by rfl)])
 go_simp
 go_at_call 16
 refine (HBK.out _ hb6).mono ?_;rintro e w7 ⟨A7,c7,rfl,r7,b7⟩;have hb7:=hb6.trans (b7.mono hb6.size);have r67:=r6.below b7;clear hb6 b7 r6
 (try go_wp2_with fail)
 refine hK.out _ _ (.inr hb7) (fun _=>nm ?_);clear hK K;refine zc 9 (h:=fun K hK=>?_)
 (try rw[if_pos (by rfl)])
 go_simp
 go_at_call 14
 refine (zsB y A6 A7 c6 c7 _ r67 r7.row l6).mono ?_;rintro e w8 ⟨rfl,b8⟩;have hb8:=hb7.trans (b8.mono hb7.size);clear hb7 b8 r67 r7
 (try go_wp2_with fail)
 refine hK.out _ _ (.inr hb8) (fun _=>nm ?_);clear hK K;refine za 10 (s:=hb8) (h:=?_);refine zc 11 (h:=fun K hK=>?_)
 (try go_simp)
 refine hK.out _ _ (.inl (by rfl)) (fun _=>nm ?_);clear hK K;refine zy (by kernel_rfl) ?_ _;have HZ:=hid (HEND.out _ hb8)
 go_wp2
 go_ret
 exact ⟨rfl,HZ.out⟩
theorem zlM (MA:Option Addr) (mc:Nat) (ls:List Ma) (r:Rq) (FA:Option Addr) (fc:Nat) (TA:Option Addr) (tc:Nat) (w:World)
  (hM:Row w MA (zbU ls)) (hO:zvo w ls) (_hc:ls.length≤mc) (hF:Row w FA (zj r.fields)∧Row w TA (zj r.trailers))
  (hkk:zff ls+(r.method.size+r.target.size+zbT r.fields+r.body.size+zbT r.trailers)≤1048576) (hg:zdF w):
  Calls Tryz.prog 4 #[.slice MA ls.length mc,rqV r FA fc TA tc] w fun e w'=>e= .returned (.bool true)∧Below w.heap.size w w':=
 znj ls MA mc w r FA fc TA tc hg hM (hO.fit (by omega)) (by have:=zlP ls;omega) hF.1 hF.2 ⟨by omega,by omega,by omega,by unfold maxLen;omega⟩ (by have:=zmG r.fields;omega) (by have:=zmG r.trailers;omega)
end Go.Proofs.YtbnafbdhomdcoaaGreatDoor
