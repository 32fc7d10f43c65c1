/-
  CkMg, without what the claim does not reach.
-/
import Derived.Test.YtbnafbdhomdcoaaGreatDoorZn1
import Derived.Test.YtbnafbdhomdcoaaGreatDoorZm7
import Derived.Test.YtbnafbdhomdcoaaGreatDoorZCjDh
namespace Go.Proofs.YtbnafbdhomdcoaaGreatDoor
open Go.RowKit Go.Shelf Go.Lib
theorem zn9 {w4 w5:World} {a b c d:ByteArray} (hb:Below (w4.alloc (.cells #[.string a,.string b,.string c,.string d] 69)).heap.size (w4.alloc (.cells #[.string a,.string b,.string c,.string d] 69)) w5):
  Below w4.heap.size w4 w5∧w5.ownsRow w4.heap.size 69 2 (.slice (some ⟨w4.heap.size,0,none⟩) 2 2) 2 (zj [(a,b),(c,d)]):=
 ⟨((Below.refl w4.heap.size w4).alloc (Nat.le_refl _) _).trans (hb.mono (by simp)),zW (World.ownsRow_lit w4 #[.string a,.string b,.string c,.string d] 2 (Nat.le_refl _) (by unfold maxLen;omega) rfl) hb⟩
set_option maxRecDepth 20000 in
set_option maxHeartbeats 8000000 in
theorem zvZ (m:zY) (A:Option Addr) (c:Nat) (r:Rq) (FA:Option Addr) (fc:Nat) (TA:Option Addr) (tc:Nat) (w:World) (hcm:zr m=true) (hk:m.kind=8) (hs:zgs w m A c r FA):
  Calls Tryz.prog 30 #[zL m A c,rqV r FA fc TA tc] w (zcR FA fc TA tc w r (zx m r)):=by
 have HCK:=hid (za8 m A c (A5 w (zf m A c) (zu r FA fc TA tc)) (hs.list.below (z8 w _ _)) hs.cap hs.mid);rw[hcm] at HCK;have HXB:=hid (z8 w (zf m A c) (zu r FA fc TA tc));have HS0:=hid (zfe w (zf m A c) (zu r FA fc TA tc));have q4:(m.kind==4)=false:=by rw[hk];rfl
 have q5:(m.kind==5)=false:=by rw[hk];rfl
 have q6:(m.kind==6)=false:=by rw[hk];rfl
 have q7:(m.kind==7)=false:=by rw[hk];rfl
 have q10:(m.kind==10)=false:=by rw[hk];rfl
 have q8:(m.kind==8)=true:=by rw[hk];rfl
 have h0:0<m.list.length:=by
  have h:=hcm;unfold zr at h;rw[Bool.and_eq_true,Bool.and_eq_true,znw hk,Bool.and_eq_true,Bool.and_eq_true] at h;have h2:=h.2.2.2.2;unfold zbX at h2;rw[Bool.and_eq_true] at h2;exact of_decide_eq_true h2.2
 have HA:=hid (show zx m r=(match zcV m r with|none=>.inl r|some x=>.inr (zeB m r x)) by unfold zx;rw[if_neg (by omega),if_neg (by omega),if_neg (by omega),if_neg (by omega),if_pos hk];cases zcV m r<;>rfl);have HON:=hid (fun (W:World) (h:Below w.heap.size w W)=>zgE r FA fc TA tc zaT W (hs.fields.below h) hs.req (by unfold maxLen;decide +kernel));have HOA:=hid (fun (W:World) (h:Below w.heap.size w W)=>zgE r FA fc TA tc zd5 W (hs.fields.below h) hs.req (by unfold maxLen;decide +kernel));have HAL:=hid (fun f (W:World) (h:Below w.heap.size w W)=>zix m A c f W (hs.list.below h) h0);have HVA:=hid (fun (W:World) (h:Below w.heap.size w W)=>zmE m A c W (hs.list.below h) h0);have HJO:=hid (fun (W:World) (h:Below w.heap.size w W)=>zoS FA fc r.fields zcF W (hs.fields.below h) hs.req.fields (by unfold maxLen;decide +kernel));have HDG:=hid (fun (W:World)=>zjz m.n W hs.mid.n0 hs.mid.n1);have HI0:=hid (fun s (W:World) (h:Below w.heap.size w W)=>zhi A c m.list s W (hs.list.below h) (by have h:=(zdi hs.mid).1;omega));have HFR:=hid (show zcq m r=(match zaD r.fields zaT with|none=>none|some s=>if zaW m=true then some zcl else if zb5 m.list s=true then some s else none) from rfl);have HFL:=hid (show zcV m r=(match zcq m r with|none=>none|some o=>match zaD r.fields zd5 with|none=>none|some wanted=>if r.method=zdI then some (o,if m.value.size=0 then wanted else m.value) else none) from rfl);obtain ⟨s0,hs0⟩:=zD h0;obtain ⟨b0,off0,rfl,hb0,hc0⟩:=hs.list.str hs0;rw[Nat.add_zero] at hc0;have HRW:=hid (fun (W:World) (h:Below w.heap.size w W)=>(h.cell (p:=⟨b0,off0,none⟩) hb0).trans hc0);have hst:=ze5 s0;have HFS:=hid (zfM hs0);have hmo:(r.method.toList==[79,84,83,84,73,79,78])=(r.method.toList==[79,84,83,84,73,79,78]):=rfl;have hmt:(r.method.toList==[79,80,84,73,79,78,83])=decide (r.method=zdI):=by
  have e:=zi0 r.method zdI;rw[show zdI.data.toList=[79,80,84,73,79,78,83] from rfl] at e;exact e
 clear hmo;unfold zaT at HON HFR;unfold zd5 at HOA HFL;clear hcm hk hs hs0;generalize hmm:decide (r.method=zdI)=mo at *;have HMO:=hid hmm;clear hmm;generalize decide (s0=zcl)=st at *
 cases ho1:zaD r.fields ⟨#[79,114,105,103,105,110]⟩ with
 |none=>
  have HSR:=hid (show zx m r= .inl r by rw[HA.out,HFL.out,HFR.out,ho1]);rw[ho1] at HON;unfold zbO at HON HOA;generalize (zaD r.fields ⟨#[65,99,99,101,115,115,45,67,111,110,116,114,111,108,45,82,101,113,117,101,115,116,45,77,101,116,104,111,100]⟩).getD ⟨#[]⟩=v2 at *;generalize (zaD r.fields ⟨#[65,99,99,101,115,115,45,67,111,110,116,114,111,108,45,82,101,113,117,101,115,116,45,77,101,116,104,111,100]⟩).isSome=b2 at *;clear ho1 HAL HVA HJO HDG HI0 HFR HFL HA;unfold zL rqV at *
  go_enter Tryz.func30,Tryz.ntmps30
  go_wp2_with fail
  rw[zem];refine HCK.out.mono ?_;rintro e w1 ⟨rfl,b1⟩;rw[show zaq true=0 from rfl];have HK1:=hid (show zb (fun _=>False) (A5 w (zf m (some ⟨b0,off0,none⟩) c) (zu r FA fc TA tc)) w1 from zb.of b1);clear b1 HCK;obtain ⟨m0,m1,m2,m3,m4⟩:=zaL HK1.out (fun h=>h);obtain ⟨a0,a1,a2,a3,a4,a5,a6⟩:=zac HK1.out (fun h=>h)
  go_wp2_with fail
  refine (HON.out _ (HXB.out.trans (HK1.out.below.mono HXB.out.size))).mono ?_;rintro e w2 ⟨rfl,b2⟩;have HK2:=hid (HK1.out.step b2);clear b2;clear m0 m1 m2 m3 m4;clear a0 a1 a2 a3 a4 a5 a6;obtain ⟨m0,m1,m2,m3,m4⟩:=zaL HK2.out (fun h=>h);obtain ⟨a0,a1,a2,a3,a4,a5,a6⟩:=zac HK2.out (fun h=>h)
  go_wp2_with fail
  refine (HOA.out _ (HXB.out.trans (HK2.out.below.mono HXB.out.size))).mono ?_;rintro e w3 ⟨rfl,b3⟩;have HK3:=hid (HK2.out.step b3);clear b3;clear m0 m1 m2 m3 m4;clear a0 a1 a2 a3 a4 a5 a6;dsimp only[Option.getD,Option.isSome];obtain ⟨m0,m1,m2,m3,m4⟩:=zaL HK3.out (fun h=>h);obtain ⟨a0,a1,a2,a3,a4,a5,a6⟩:=zac HK3.out (fun h=>h);have HB:=hid (show zb (fun k=>k=w.heap.size+1+1∨k=w.heap.size+1+1+1) (A5 w (zf m (some ⟨b0,off0,none⟩) c) (zu r FA fc TA tc)) w3.drew from (HK3.out.wider (fun _ _ h=>h.elim)).drew);have H4:=hid (zcK (HK3.out.drew) (fun h=>h));have H5:=hid (zcJ (HK3.out.drew) (fun h=>h))
  go_wp2_with fail
  clear m0 m1 m2 m3 m4;clear a0 a1 a2 a3 a4 a5 a6;refine zO (t:=4) (S:=fun W=>zb (fun k=>k=w.heap.size+1+1∨k=w.heap.size+1+1+1) (A5 w (zf m (some ⟨b0,off0,none⟩) c) (zu r FA fc TA tc)) W) (by kernel_rfl) HB.out (fun hHeld=>?_);generalize w3.drew=wr0 at *;refine za 0 (y:=fun w hSw=>by (try dsimp only at hSw);obtain ⟨a0,a1,a2,a3,a4,a5,a6⟩:=zac hSw (fun h=>by rcases h with h|h<;>omega);exact yl) (s:=hHeld) (h:=?_);refine za 1 (y:=fun w hSw=>by (try dsimp only at hSw);obtain ⟨y0,y1,y2,y3⟩:=zge hSw (fun h=>by rcases h with h|h<;>omega);exact yl) (s:=hHeld) (h:=?_);have HQ:=hid (zbG (r:=r) (FA:=FA) (fc:=fc) (TA:=TA) (tc:=tc) HB.out H4.out H5.out (.inl rfl) (.inr rfl) (by omega) (by have h:=HB.out.size;rw[HS0.out] at h;omega) (by have h:=HB.out.size;rw[HS0.out] at h;omega) (.int .i64 0) (.string ⟨#[]⟩) (.slice none 0 0) (.string ⟨#[]⟩));refine zc 2 (h:=fun K hK=>?_);obtain ⟨⟨p0,p1,p2,p3,p4,p5,p6⟩,z0,z1,z2,z3,z4,z5,z6⟩:=H4.out
  go_simp
  clear p0 p1 p2 p3 p4 p5 p6 z0 z1 z2 z3 z4 z5 z6;show K _ (rqP wr0 (w.heap.size+1+1) r FA fc TA tc);generalize (rqP wr0 (w.heap.size+1+1) r FA fc TA tc)=wy1 at *;refine hK.out _ _ (.inr HQ.out.1) (fun _=>nm ?_);clear hK K;refine zc 3 (h:=fun K hK=>?_);obtain ⟨⟨p0,p1,p2,p3⟩,z0,z1,z2,z3⟩:=HQ.out.2.1
  go_simp
  clear p0 p1 p2 p3 z0 z1 z2 z3;show K _ (zal wy1 (w.heap.size+1+1+1) (.int .i64 0) (.string ⟨#[]⟩) (.slice none 0 0) (.string ⟨#[]⟩));obtain ⟨HB9,H49,H59⟩:=HQ.out.2.2.2;clear HQ HB H4 H5;have HB:=hid HB9;have H4:=hid H49;have H5:=hid H59;clear HB9 H49 H59;generalize (zal wy1 (w.heap.size+1+1+1) (.int .i64 0) (.string ⟨#[]⟩) (.slice none 0 0) (.string ⟨#[]⟩))=wn1 at *;refine hK.out _ _ (.inr HB.out) (fun _=>nm ?_);clear hK K;refine zc 4 (h:=fun K hK=>?_)
  (try go_simp)
  refine hK.out _ _ (.inl (by rfl)) (fun _=>nm ?_);clear hK K;refine zy (by kernel_rfl) ?_ _;have HW:=hid (zt HB.out (fun k h=>by rcases h with h|h<;>omega) (z8 w _ _));obtain ⟨a0,a1,a2,a3,a4,a5,a6⟩:=H4.out;obtain ⟨x0,x1,x2,x3⟩:=H5.out;clear HB H4 H5 hHeld
  go_wp2
  exact bodyPost_ret (v:=.tuple #[rqV r FA fc TA tc,rsZ,.bool false]) (by simp[results,Tryz.results30,go_sem,rqV,rsZ,a0,a1,a2,a3,a4,a5,a6,x0,x1,x2,x3]) rfl (by first|(rw[HSR.out];exact ⟨rfl,HW.out⟩)|exact ⟨rfl,HW.out⟩)
 |some s=>
  have HFR2:=hid (show zcq m r=if st=true then some zcl else if zb5 m.list s=true then some s else none by rw[HFR.out,ho1,HFS.out]);have HIN:=hid (fun (W:World) (h:Below w.heap.size w W)=>HI0.out s W h);rw[ho1] at HON;clear ho1 HFR HI0;generalize zb5 m.list s=ii at *
  cases ho2:zaD r.fields ⟨#[65,99,99,101,115,115,45,67,111,110,116,114,111,108,45,82,101,113,117,101,115,116,45,77,101,116,104,111,100]⟩ with
  |none=>
   have HSR:=hid (show zx m r= .inl r by rw[HA.out,HFL.out,ho2];cases zcq m r<;>rfl);rw[ho2] at HOA;unfold zbO at HON HOA;clear ho2 HAL HVA HJO HDG HFR2 HFL HA;obtain ⟨ob,hob⟩:∃ob:Bool,ob=false:=⟨_,rfl⟩;unfold zL rqV at *
   go_enter Tryz.func30,Tryz.ntmps30
   go_wp2_with fail
   rw[zem];refine HCK.out.mono ?_;rintro e w1 ⟨rfl,b1⟩;rw[show zaq true=0 from rfl];have HK1:=hid (show zb (fun _=>False) (A5 w (zf m (some ⟨b0,off0,none⟩) c) (zu r FA fc TA tc)) w1 from zb.of b1);clear b1 HCK;obtain ⟨m0,m1,m2,m3,m4⟩:=zaL HK1.out (fun h=>h);obtain ⟨a0,a1,a2,a3,a4,a5,a6⟩:=zac HK1.out (fun h=>h)
   go_wp2_with fail
   refine (HON.out _ (HXB.out.trans (HK1.out.below.mono HXB.out.size))).mono ?_;rintro e w2 ⟨rfl,b2⟩;have HK2:=hid (HK1.out.step b2);clear b2;clear m0 m1 m2 m3 m4;clear a0 a1 a2 a3 a4 a5 a6;obtain ⟨m0,m1,m2,m3,m4⟩:=zaL HK2.out (fun h=>h);obtain ⟨a0,a1,a2,a3,a4,a5,a6⟩:=zac HK2.out (fun h=>h)
   go_wp2_with fail
   refine (HOA.out _ (HXB.out.trans (HK2.out.below.mono HXB.out.size))).mono ?_;rintro e w3 ⟨rfl,b3⟩;have HK3:=hid (HK2.out.step b3);clear b3;clear m0 m1 m2 m3 m4;clear a0 a1 a2 a3 a4 a5 a6;dsimp only[Option.getD,Option.isSome];obtain ⟨m0,m1,m2,m3,m4⟩:=zaL HK3.out (fun h=>h);obtain ⟨a0,a1,a2,a3,a4,a5,a6⟩:=zac HK3.out (fun h=>h)
   go_upto_region 24 with (fail)
   go_cut [130] (fun x wx=>x= .bool ((st||ii)&&(mo&&false))∧wx=w3)
   case first=>
    have hd:=(HRW.out w3 (HXB.out.trans (HK3.out.below.mono HXB.out.size)));have hi0:(0:Int)<(m.list.length:Int):=by omega
    cases st
    ·cases ii
     all_goals
      cases mo
      all_goals
       go_wp2_with fail
       refine (HIN.out _ (HXB.out.trans (HK3.out.below.mono HXB.out.size))).mono ?_;rintro e w4 ⟨rfl,rfl⟩
       go_wp2
       go_meet
       exact ⟨by simp,rfl⟩
    ·cases mo
     all_goals
      go_wp2_with fail
      go_meet
      exact ⟨by simp,rfl⟩
   obtain ⟨hu130,rfl⟩:=hcut;rw[hu130];clear hu130;rw[show ((st||ii)&&(mo&&false))=false by simp];clear hob;have HB:=hid (show zb (fun k=>k=w.heap.size+1+1∨k=w.heap.size+1+1+1) (A5 w (zf m (some ⟨b0,off0,none⟩) c) (zu r FA fc TA tc)) wc.drew from (HK3.out.wider (fun _ _ h=>h.elim)).drew);have H4:=hid (zcK (HK3.out.drew) (fun h=>h));have H5:=hid (zcJ (HK3.out.drew) (fun h=>h))
   go_wp2_with fail
   clear m0 m1 m2 m3 m4;clear a0 a1 a2 a3 a4 a5 a6;refine zO (t:=4) (S:=fun W=>zb (fun k=>k=w.heap.size+1+1∨k=w.heap.size+1+1+1) (A5 w (zf m (some ⟨b0,off0,none⟩) c) (zu r FA fc TA tc)) W) (by kernel_rfl) HB.out (fun hHeld=>?_);generalize wc.drew=wr0 at *;refine za 0 (y:=fun w hSw=>by (try dsimp only at hSw);obtain ⟨a0,a1,a2,a3,a4,a5,a6⟩:=zac hSw (fun h=>by rcases h with h|h<;>omega);exact yl) (s:=hHeld) (h:=?_);refine za 1 (y:=fun w hSw=>by (try dsimp only at hSw);obtain ⟨y0,y1,y2,y3⟩:=zge hSw (fun h=>by rcases h with h|h<;>omega);exact yl) (s:=hHeld) (h:=?_);have HQ:=hid (zbG (r:=r) (FA:=FA) (fc:=fc) (TA:=TA) (tc:=tc) HB.out H4.out H5.out (.inl rfl) (.inr rfl) (by omega) (by have h:=HB.out.size;rw[HS0.out] at h;omega) (by have h:=HB.out.size;rw[HS0.out] at h;omega) (.int .i64 0) (.string ⟨#[]⟩) (.slice none 0 0) (.string ⟨#[]⟩));refine zc 2 (h:=fun K hK=>?_);obtain ⟨⟨p0,p1,p2,p3,p4,p5,p6⟩,z0,z1,z2,z3,z4,z5,z6⟩:=H4.out
   go_simp
   clear p0 p1 p2 p3 p4 p5 p6 z0 z1 z2 z3 z4 z5 z6;show K _ (rqP wr0 (w.heap.size+1+1) r FA fc TA tc);generalize (rqP wr0 (w.heap.size+1+1) r FA fc TA tc)=wy1 at *;refine hK.out _ _ (.inr HQ.out.1) (fun _=>nm ?_);clear hK K;refine zc 3 (h:=fun K hK=>?_);obtain ⟨⟨p0,p1,p2,p3⟩,z0,z1,z2,z3⟩:=HQ.out.2.1
   go_simp
   clear p0 p1 p2 p3 z0 z1 z2 z3;show K _ (zal wy1 (w.heap.size+1+1+1) (.int .i64 0) (.string ⟨#[]⟩) (.slice none 0 0) (.string ⟨#[]⟩));obtain ⟨HB9,H49,H59⟩:=HQ.out.2.2.2;clear HQ HB H4 H5;have HB:=hid HB9;have H4:=hid H49;have H5:=hid H59;clear HB9 H49 H59;generalize (zal wy1 (w.heap.size+1+1+1) (.int .i64 0) (.string ⟨#[]⟩) (.slice none 0 0) (.string ⟨#[]⟩))=wn1 at *;refine hK.out _ _ (.inr HB.out) (fun _=>nm ?_);clear hK K;refine zc 4 (h:=fun K hK=>?_)
   (try go_simp)
   refine hK.out _ _ (.inl (by rfl)) (fun _=>nm ?_);clear hK K;refine zy (by kernel_rfl) ?_ _;have HW:=hid (zt HB.out (fun k h=>by rcases h with h|h<;>omega) (z8 w _ _));obtain ⟨a0,a1,a2,a3,a4,a5,a6⟩:=H4.out;obtain ⟨x0,x1,x2,x3⟩:=H5.out;clear HB H4 H5 hHeld
   go_wp2
   exact bodyPost_ret (v:=.tuple #[rqV r FA fc TA tc,rsZ,.bool false]) (by simp[results,Tryz.results30,go_sem,rqV,rsZ,a0,a1,a2,a3,a4,a5,a6,x0,x1,x2,x3]) rfl (by first|(rw[HSR.out];exact ⟨rfl,HW.out⟩)|exact ⟨rfl,HW.out⟩)
  |some v=>
   have HFL2:=hid (show zcV m r=(match zcq m r with|none=>none|some o=>if r.method=zdI then some (o,if m.value.size=0 then v else m.value) else none) by rw[HFL.out,ho2]);rw[ho2] at HOA;unfold zbO at HON HOA;clear ho2 HFL;obtain ⟨cb,hcb⟩:∃cb:Bool,cb=((st||ii)&&(mo&&true)):=⟨_,rfl⟩;have HCB:=hid hcb;clear hcb;unfold zL rqV at *
   go_enter Tryz.func30,Tryz.ntmps30
   go_wp2_with fail
   rw[zem];refine HCK.out.mono ?_;rintro e w1 ⟨rfl,b1⟩;rw[show zaq true=0 from rfl];have HK1:=hid (show zb (fun _=>False) (A5 w (zf m (some ⟨b0,off0,none⟩) c) (zu r FA fc TA tc)) w1 from zb.of b1);clear b1 HCK;obtain ⟨m0,m1,m2,m3,m4⟩:=zaL HK1.out (fun h=>h);obtain ⟨a0,a1,a2,a3,a4,a5,a6⟩:=zac HK1.out (fun h=>h)
   go_wp2_with fail
   refine (HON.out _ (HXB.out.trans (HK1.out.below.mono HXB.out.size))).mono ?_;rintro e w2 ⟨rfl,b2⟩;have HK2:=hid (HK1.out.step b2);clear b2;clear m0 m1 m2 m3 m4;clear a0 a1 a2 a3 a4 a5 a6;obtain ⟨m0,m1,m2,m3,m4⟩:=zaL HK2.out (fun h=>h);obtain ⟨a0,a1,a2,a3,a4,a5,a6⟩:=zac HK2.out (fun h=>h)
   go_wp2_with fail
   refine (HOA.out _ (HXB.out.trans (HK2.out.below.mono HXB.out.size))).mono ?_;rintro e w3 ⟨rfl,b3⟩;have HK3:=hid (HK2.out.step b3);clear b3;clear m0 m1 m2 m3 m4;clear a0 a1 a2 a3 a4 a5 a6;dsimp only[Option.getD,Option.isSome];obtain ⟨m0,m1,m2,m3,m4⟩:=zaL HK3.out (fun h=>h);obtain ⟨a0,a1,a2,a3,a4,a5,a6⟩:=zac HK3.out (fun h=>h)
   go_upto_region 24 with (fail)
   go_cut [130] (fun x wx=>x= .bool ((st||ii)&&(mo&&true))∧wx=w3)
   case first=>
    have hd:=(HRW.out w3 (HXB.out.trans (HK3.out.below.mono HXB.out.size)));have hi0:(0:Int)<(m.list.length:Int):=by omega
    cases st
    ·cases ii
     all_goals
      cases mo
      all_goals
       go_wp2_with fail
       refine (HIN.out _ (HXB.out.trans (HK3.out.below.mono HXB.out.size))).mono ?_;rintro e w4 ⟨rfl,rfl⟩
       go_wp2
       go_meet
       exact ⟨by simp,rfl⟩
    ·cases mo
     all_goals
      go_wp2_with fail
      go_meet
      exact ⟨by simp,rfl⟩
   obtain ⟨hu130,rfl⟩:=hcut;rw[hu130];clear hu130;rw[←HCB.out];have HKC:=hid HK3.out;clear m0 m1 m2 m3 m4 a0 a1 a2 a3 a4 a5 a6 HK3
   cases cb
   ·have HSR:=hid (show zx m r= .inl r by
     have h:(st=false∧ii=false)∨mo=false:=by
      have:=HCB.out
      revert this
      cases st<;>cases ii<;>cases mo<;>simp
     rw[HA.out,HFL2.out,HFR2.out]
     rcases h with ⟨h1,h2⟩|h1
     ·rw[h1,h2];rfl
     ·have hne:¬r.method=zdI:=of_decide_eq_false (HMO.out.trans h1)
      cases (if st=true then some zcl else if ii=true then some s else none) with
      |none=>rfl
      |some o=>simp only[if_neg hne])
    clear HAL HVA HJO HDG HFR2 HFL2 HA HCB;have HB:=hid (show zb (fun k=>k=w.heap.size+1+1∨k=w.heap.size+1+1+1) (A5 w (zf m (some ⟨b0,off0,none⟩) c) (zu r FA fc TA tc)) wc.drew from (HKC.out.wider (fun _ _ h=>h.elim)).drew);have H4:=hid (zcK (HKC.out.drew) (fun h=>h));have H5:=hid (zcJ (HKC.out.drew) (fun h=>h))
    go_wp2_with fail
    refine zO (t:=4) (S:=fun W=>zb (fun k=>k=w.heap.size+1+1∨k=w.heap.size+1+1+1) (A5 w (zf m (some ⟨b0,off0,none⟩) c) (zu r FA fc TA tc)) W) (by kernel_rfl) HB.out (fun hHeld=>?_);generalize wc.drew=wr0 at *;refine za 0 (y:=fun w hSw=>by (try dsimp only at hSw);obtain ⟨a0,a1,a2,a3,a4,a5,a6⟩:=zac hSw (fun h=>by rcases h with h|h<;>omega);exact yl) (s:=hHeld) (h:=?_);refine za 1 (y:=fun w hSw=>by (try dsimp only at hSw);obtain ⟨y0,y1,y2,y3⟩:=zge hSw (fun h=>by rcases h with h|h<;>omega);exact yl) (s:=hHeld) (h:=?_);have HQ:=hid (zbG (r:=r) (FA:=FA) (fc:=fc) (TA:=TA) (tc:=tc) HB.out H4.out H5.out (.inl rfl) (.inr rfl) (by omega) (by have h:=HB.out.size;rw[HS0.out] at h;omega) (by have h:=HB.out.size;rw[HS0.out] at h;omega) (.int .i64 0) (.string ⟨#[]⟩) (.slice none 0 0) (.string ⟨#[]⟩));refine zc 2 (h:=fun K hK=>?_);obtain ⟨⟨p0,p1,p2,p3,p4,p5,p6⟩,z0,z1,z2,z3,z4,z5,z6⟩:=H4.out
    go_simp
    clear p0 p1 p2 p3 p4 p5 p6 z0 z1 z2 z3 z4 z5 z6;show K _ (rqP wr0 (w.heap.size+1+1) r FA fc TA tc);generalize (rqP wr0 (w.heap.size+1+1) r FA fc TA tc)=wy1 at *;refine hK.out _ _ (.inr HQ.out.1) (fun _=>nm ?_);clear hK K;refine zc 3 (h:=fun K hK=>?_);obtain ⟨⟨p0,p1,p2,p3⟩,z0,z1,z2,z3⟩:=HQ.out.2.1
    go_simp
    clear p0 p1 p2 p3 z0 z1 z2 z3;show K _ (zal wy1 (w.heap.size+1+1+1) (.int .i64 0) (.string ⟨#[]⟩) (.slice none 0 0) (.string ⟨#[]⟩));obtain ⟨HB9,H49,H59⟩:=HQ.out.2.2.2;clear HQ HB H4 H5;have HB:=hid HB9;have H4:=hid H49;have H5:=hid H59;clear HB9 H49 H59;generalize (zal wy1 (w.heap.size+1+1+1) (.int .i64 0) (.string ⟨#[]⟩) (.slice none 0 0) (.string ⟨#[]⟩))=wn1 at *;refine hK.out _ _ (.inr HB.out) (fun _=>nm ?_);clear hK K;refine zc 4 (h:=fun K hK=>?_)
    (try go_simp)
    refine hK.out _ _ (.inl (by rfl)) (fun _=>nm ?_);clear hK K;refine zy (by kernel_rfl) ?_ _;have HW:=hid (zt HB.out (fun k h=>by rcases h with h|h<;>omega) (z8 w _ _));obtain ⟨a0,a1,a2,a3,a4,a5,a6⟩:=H4.out;obtain ⟨x0,x1,x2,x3⟩:=H5.out;clear HB H4 H5 hHeld
    go_wp2
    exact bodyPost_ret (v:=.tuple #[rqV r FA fc TA tc,rsZ,.bool false]) (by simp[results,Tryz.results30,go_sem,rqV,rsZ,a0,a1,a2,a3,a4,a5,a6,x0,x1,x2,x3]) rfl (by first|(rw[HSR.out];exact ⟨rfl,HW.out⟩)|exact ⟨rfl,HW.out⟩)
   ·have HSR0:=hid (show zx m r= .inr (zeB m r (zef m s,if m.value.size=0 then v else m.value)) by
     have h:(st=true∨ii=true)∧mo=true:=by
      have:=HCB.out
      revert this
      cases st<;>cases ii<;>cases mo<;>simp
     obtain ⟨h1,h2⟩:=h;have hyes:r.method=zdI:=of_decide_eq_true (HMO.out.trans h2);have hf:zcq m r=some (zef m s):=by
      rw[HFR2.out];unfold zef;rw[HFS.out]
      cases st
      ·rw[h1.resolve_left (by decide)];rfl
      ·rfl
     rw[HA.out,HFL2.out,hf];simp only[if_pos hyes])
    clear HFR2 HFL2 HA HCB HMO;have HALs:=hid (fun (W:World) (h:Below w.heap.size w W)=>HAL.out s W h);clear HAL;unfold zcF at HJO;have hjz:((za9 r.fields ⟨#[65,99,99,101,115,115,45,67,111,110,116,114,111,108,45,82,101,113,117,101,115,116,45,72,101,97,100,101,114,115]⟩)).length=(za9 r.fields zcF).length:=rfl;clear hjz;have HFS9:=hid (show zeB m r (zef m s,if m.value.size=0 then v else m.value)=⟨204,⟨#[]⟩,[(za0,zef m s),(zgj,if m.value.size=0 then v else m.value)]++(if 0<(za9 r.fields zcF).length then [(zkJ,zaw (za9 r.fields zcF))] else [])++[(zmS,za3 m.n)]++zb2 m,⟨#[]⟩⟩ from rfl);have HVZ:=hid (show (zb2 m).length≤1 by unfold zb2;split<;>simp);unfold zcF za0 zgj zkJ zmS at *;generalize zb2 m=vp at *;generalize hjr:zaw (za9 r.fields ⟨#[65,99,99,101,115,115,45,67,111,110,116,114,111,108,45,82,101,113,117,101,115,116,45,72,101,97,100,101,114,115]⟩)=jr at *;clear hjr;generalize (za9 r.fields ⟨#[65,99,99,101,115,115,45,67,111,110,116,114,111,108,45,82,101,113,117,101,115,116,45,72,101,97,100,101,114,115]⟩).length=jn at *;generalize za3 m.n=dg at *;generalize zef m s=ov at *;obtain ⟨i0,hi0,hz0,hz1,hz2⟩:=info_parts zbQ;obtain ⟨wv,hwv⟩:∃x,x=if m.value.size=0 then v else m.value:=⟨_,rfl⟩
    rw[←hwv] at HSR0 HFS9
    by_cases hv0:m.value.size=0
    all_goals
     (first|(have hve:=zaR hv0;have hw1:=hid (hwv.trans (if_pos hv0)))|(have hve:=zaa hv0;have hw2:=hid (hwv.trans (if_neg hv0))))
     clear hv0 hwv
     by_cases hj0:0<jn
     ·rw[decide_eq_true hj0] at HJO
      rw[if_pos hj0] at HFS9;clear hj0;obtain ⟨m0,m1,m2,m3,m4⟩:=zaL HKC.out (fun h=>h);obtain ⟨a0,a1,a2,a3,a4,a5,a6⟩:=zac HKC.out (fun h=>h)
      go_wp2_with fail
      refine (HALs.out _ (HXB.out.trans (HKC.out.below.mono HXB.out.size))).mono ?_;rintro e w4 ⟨rfl,b4⟩;have HK4:=hid (HKC.out.step b4);have hz4:w.heap.size+5≤w4.heap.size:=by have h:=HK4.out.size;rw[HS0.out] at h;exact h
      have hz4a:w.heap.size<w4.heap.size:=by omega
      have hz4b:w.heap.size+1<w4.heap.size:=by omega
      clear b4;clear m0 m1 m2 m3 m4;clear a0 a1 a2 a3 a4 a5 a6;obtain ⟨m0,m1,m2,m3,m4⟩:=zaL HK4.out (fun h=>h);obtain ⟨a0,a1,a2,a3,a4,a5,a6⟩:=zac HK4.out (fun h=>h)
      go_wp2_with fail
      refine (HJO.out _ (HXB.out.trans ((HK4.out.alloc _).below.mono HXB.out.size))).mono ?_;rintro e w5 ⟨rfl,b5⟩;obtain ⟨HW40,ho5⟩:=zn9 b5
      (first|rw[←hw1.out] at ho5|rw[←hw2.out] at ho5)
      have ho5:w5.ownsRow w4.heap.size 69 2 (.slice (some ⟨w4.heap.size,0,none⟩) 2 2) 2 (zj [(⟨#[65,99,99,101,115,115,45,67,111,110,116,114,111,108,45,65,108,108,111,119,45,79,114,105,103,105,110]⟩,ov),(⟨#[65,99,99,101,115,115,45,67,111,110,116,114,111,108,45,65,108,108,111,119,45,77,101,116,104,111,100,115]⟩,wv)]):=ho5;have HW4:=hid HW40;clear b5 HW40;clear m0 m1 m2 m3 m4;clear a0 a1 a2 a3 a4 a5 a6
      go_wp2_with (at_builtin;refine zq _ rfl _ _ 37 rfl w4.heap.size 69 i0 (.agg #[.string ⟨#[]⟩,.string ⟨#[]⟩]) 2 32 Tryz.underlying37 hi0 hz0 hz1 hz2 rfl (by decide) _ 2 (zj ([(⟨#[65,99,99,101,115,115,45,67,111,110,116,114,111,108,45,65,108,108,111,119,45,79,114,105,103,105,110]⟩,ov),(⟨#[65,99,99,101,115,115,45,67,111,110,116,114,111,108,45,65,108,108,111,119,45,77,101,116,104,111,100,115]⟩,wv)])) rfl (ho5.alloc _) _ (some ⟨w5.heap.size,0,none⟩) 1 1 (zj ([(⟨#[65,99,99,101,115,115,45,67,111,110,116,114,111,108,45,65,108,108,111,119,45,72,101,97,100,101,114,115]⟩,jr)])) rfl (zv (za1 w5 #[.string ⟨#[65,99,99,101,115,115,45,67,111,110,116,114,111,108,45,65,108,108,111,119,45,72,101,97,100,101,114,115]⟩,.string jr] 69 rfl) (zK _) (by decide)) (zA _) (by unfold maxLen;omega) (by omega) (by simp;have:=HW4.out.size;omega) ?_)
      intro v' w6 hown hg _;have HW5:Hid (Below w4.heap.size w4 w6):=hid ((HW4.out.alloc HW4.out.size (.cells #[.string ⟨#[65,99,99,101,115,115,45,67,111,110,116,114,111,108,45,65,108,108,111,119,45,72,101,97,100,101,114,115]⟩,.string jr] 69)).grown hg (by simp;have:=HW4.out.size;omega) (zI ho5));have how6:w6.ownsRow w4.heap.size 69 2 v' (2+1) (zj ([(⟨#[65,99,99,101,115,115,45,67,111,110,116,114,111,108,45,65,108,108,111,119,45,79,114,105,103,105,110]⟩,ov),(⟨#[65,99,99,101,115,115,45,67,111,110,116,114,111,108,45,65,108,108,111,119,45,77,101,116,104,111,100,115]⟩,wv)]++[(⟨#[65,99,99,101,115,115,45,67,111,110,116,114,111,108,45,65,108,108,111,119,45,72,101,97,100,101,114,115]⟩,jr)])):=by rw[zX];exact hown
      clear hown hg HW4 ho5;have HW4:=HW5;clear HW5;obtain ⟨Aw6,cw6,rfl⟩:=zC how6;have HK5:=hid (HK4.out.step HW4.out);obtain ⟨m0,m1,m2,m3,m4⟩:=zaL HK5.out (fun h=>h);obtain ⟨a0,a1,a2,a3,a4,a5,a6⟩:=zac HK5.out (fun h=>h)
      go_wp2_with fail
      refine (HDG.out _).mono ?_;rintro e w7 ⟨rfl,b7⟩;have ho7:=zW how6 b7;have HW7:=hid (HW4.out.trans (b7.mono HW4.out.size));clear b7 HW4 how6;have HW4:=HW7;clear HW7;clear m0 m1 m2 m3 m4;clear a0 a1 a2 a3 a4 a5 a6
      go_wp2_with (at_builtin;refine zq _ rfl _ _ 37 rfl w4.heap.size 69 i0 (.agg #[.string ⟨#[]⟩,.string ⟨#[]⟩]) 2 32 Tryz.underlying37 hi0 hz0 hz1 hz2 rfl (by decide) _ 3 (zj (([(⟨#[65,99,99,101,115,115,45,67,111,110,116,114,111,108,45,65,108,108,111,119,45,79,114,105,103,105,110]⟩,ov),(⟨#[65,99,99,101,115,115,45,67,111,110,116,114,111,108,45,65,108,108,111,119,45,77,101,116,104,111,100,115]⟩,wv)]++[(⟨#[65,99,99,101,115,115,45,67,111,110,116,114,111,108,45,65,108,108,111,119,45,72,101,97,100,101,114,115]⟩,jr)]))) rfl (ho7.alloc _) _ (some ⟨w7.heap.size,0,none⟩) 1 1 (zj ([(⟨#[65,99,99,101,115,115,45,67,111,110,116,114,111,108,45,77,97,120,45,65,103,101]⟩,dg)])) rfl (zv (za1 w7 #[.string ⟨#[65,99,99,101,115,115,45,67,111,110,116,114,111,108,45,77,97,120,45,65,103,101]⟩,.string dg] 69 rfl) (zK _) (by decide)) (zA _) (by unfold maxLen;omega) (by omega) (by simp;have:=HW4.out.size;omega) ?_)
      intro v' w8 hown hg _;have HW5:Hid (Below w4.heap.size w4 w8):=hid ((HW4.out.alloc HW4.out.size (.cells #[.string ⟨#[65,99,99,101,115,115,45,67,111,110,116,114,111,108,45,77,97,120,45,65,103,101]⟩,.string dg] 69)).grown hg (by simp;have:=HW4.out.size;omega) (zI ho7));have how8:w8.ownsRow w4.heap.size 69 2 v' (3+1) (zj (([(⟨#[65,99,99,101,115,115,45,67,111,110,116,114,111,108,45,65,108,108,111,119,45,79,114,105,103,105,110]⟩,ov),(⟨#[65,99,99,101,115,115,45,67,111,110,116,114,111,108,45,65,108,108,111,119,45,77,101,116,104,111,100,115]⟩,wv)]++[(⟨#[65,99,99,101,115,115,45,67,111,110,116,114,111,108,45,65,108,108,111,119,45,72,101,97,100,101,114,115]⟩,jr)])++[(⟨#[65,99,99,101,115,115,45,67,111,110,116,114,111,108,45,77,97,120,45,65,103,101]⟩,dg)])):=by rw[zX];exact hown
      clear hown hg HW4 ho7;have HW4:=HW5;clear HW5;obtain ⟨Aw8,cw8,rfl⟩:=zC how8;have HK8:=hid (HK4.out.step HW4.out);obtain ⟨l8,hl8⟩:∃l8:List Fl,l8=([(⟨#[65,99,99,101,115,115,45,67,111,110,116,114,111,108,45,65,108,108,111,119,45,79,114,105,103,105,110]⟩,ov),(⟨#[65,99,99,101,115,115,45,67,111,110,116,114,111,108,45,65,108,108,111,119,45,77,101,116,104,111,100,115]⟩,wv)]++[(⟨#[65,99,99,101,115,115,45,67,111,110,116,114,111,108,45,65,108,108,111,119,45,72,101,97,100,101,114,115]⟩,jr)])++[(⟨#[65,99,99,101,115,115,45,67,111,110,116,114,111,108,45,77,97,120,45,65,103,101]⟩,dg)]:=⟨_,rfl⟩;rw[←hl8] at how8;have hln:l8.length=4:=by rw[hl8];try rfl
      have HSR:=hid (show zx m r= .inr ⟨204,⟨#[]⟩,l8++vp,⟨#[]⟩⟩ by rw[HSR0.out,HFS9.out,hl8];try simp);clear hl8 HSR0 HFS9;have hl8z:l8.length≤4:=by omega
      have hv1:=HVZ.out;have OE:=hid (show w8.drew.ownsRow w4.heap.size 69 2 (.slice Aw8 4 cw8) 4 (zj l8) from World.ownsRow.drew how8);have hw48:=HW4.out.size;clear how8;obtain ⟨m0,m1,m2,m3,m4⟩:=zaL HK8.out (fun h=>h);obtain ⟨a0,a1,a2,a3,a4,a5,a6⟩:=zac HK8.out (fun h=>h);have HB:=hid (show zb (fun k=>k=w.heap.size+1+1∨k=w.heap.size+1+1+1) (A5 w (zf m (some ⟨b0,off0,none⟩) c) (zu r FA fc TA tc)) w8.drew from (HK8.out.wider (fun _ _ h=>h.elim)).drew);have H4:=hid (zcK (HK8.out.drew) (fun h=>h));have H5:=hid (zcJ (HK8.out.drew) (fun h=>h))
      go_wp2_with fail
      clear m0 m1 m2 m3 m4;clear a0 a1 a2 a3 a4 a5 a6;refine zO (t:=8) (S:=fun W=>zb (fun k=>k=w.heap.size+1+1∨k=w.heap.size+1+1+1) (A5 w (zf m (some ⟨b0,off0,none⟩) c) (zu r FA fc TA tc)) W) (by kernel_rfl) HB.out (fun hHeld=>?_);have hwle:=hid (show w4.heap.size≤w8.drew.heap.size from HW4.out.size);generalize w8.drew=wr0 at *;refine za 0 (y:=fun w hSw=>by (try dsimp only at hSw);obtain ⟨a0,a1,a2,a3,a4,a5,a6⟩:=zac hSw (fun h=>by rcases h with h|h<;>omega);exact yl) (s:=hHeld) (h:=?_);refine za 1 (s:=hHeld) (h:=?_);refine za 2 (y:=fun w hSw=>by (try dsimp only at hSw);obtain ⟨m0,m1,m2,m3,m4⟩:=zaL hSw (fun h=>by rcases h with h|h<;>omega);exact yl) (s:=hHeld) (h:=?_);refine zc 3 (h:=fun K hK=>?_)
      (try rw[if_pos (by rfl)])
      go_simp
      go_at_call 50
      refine (HVA.out _ (zt HB.out (fun k h=>by rcases h with h|h<;>omega) HXB.out)).mono ?_;rintro e wn2 ⟨AV,cv,rfl,hov,hb⟩;have OV:=hid hov;have hwl2:=hid (Nat.le_trans hwle.out hb.size);have HB9:=hid (HB.out.step hb);have H4:=hid (H4.out.keep (zb.of (D:=fun _=>False) hb) (by have h:=HB.out.size;rw[HS0.out] at h;omega) (fun h=>h));have H5:=hid (H5.out.keep (zb.of (D:=fun _=>False) hb) (by have h:=HB.out.size;rw[HS0.out] at h;omega) (fun h=>h));have OE:=hid (zW OE.out hb);clear HB;have HB:=HB9;clear HB9;clear hb hov
      (try go_wp2_with fail)
      refine hK.out _ _ (.inr HB.out) (fun _=>nm ?_);clear hK K;refine zc 4 (h:=fun K hK=>?_);refine zaO _ rfl (.tmp 163) (.tmp 165) 37 rfl w4.heap.size 69 i0 (.agg #[.string ⟨#[]⟩,.string ⟨#[]⟩]) 2 32 Tryz.underlying37 hi0 hz0 hz1 hz2 rfl (by decide) _ 4 (zj l8) (by rfl) OE.out _ AV vp.length cv (zj vp) (by rfl) (zv (zak OV.out) (zK vp) (by decide)) (zA vp) (by unfold maxLen;omega) (by omega) (by have h:=HB.out.size;rw[HS0.out] at h;have h2:=hwl2.out;omega) ?_;intro v' wn4 hown hg alt;have hbl:Below w4.heap.size wn2 wn4:=(Below.refl w4.heap.size wn2).grown hg (by have h2:=hwl2.out;omega) (zI OE.out);have HB9:=hid (HB.out.stepL (hbl.mono (by rw[HS0.out];omega)));have H4:=hid (H4.out.keep (zb.ofB hbl) (by have h:=HB.out.size;rw[HS0.out] at h;omega) (by omega));have H5:=hid (H5.out.keep (zb.ofB hbl) (by have h:=HB.out.size;rw[HS0.out] at h;omega) (by omega));have OX0:wn4.ownsRow w4.heap.size 69 2 v' (4+vp.length) (zj (l8++vp)):=by rw[zX];exact hown
      obtain ⟨A1,c1,rfl⟩:=zC OX0;have OX:=hid (zn (b':=w.heap.size+5) OX0 hz4);clear HB hown hg alt hbl OX0 OE OV;have HB:=HB9;clear HB9;refine hK.out _ _ (.inr HB.out) (fun _=>nm ?_);clear hK K;refine za 5 (s:=HB.out) (h:=?_);have HQ:=hid (zbG (r:=r) (FA:=FA) (fc:=fc) (TA:=TA) (tc:=tc) HB.out H4.out H5.out (.inl rfl) (.inr rfl) (by omega) (by have h:=HB.out.size;rw[HS0.out] at h;omega) (by have h:=HB.out.size;rw[HS0.out] at h;omega) (.int .i64 204) (.string ⟨#[]⟩) (.slice A1 (4+vp.length) c1) (.string ⟨#[]⟩));refine zc 6 (h:=fun K hK=>?_);obtain ⟨⟨p0,p1,p2,p3,p4,p5,p6⟩,z0,z1,z2,z3,z4,z5,z6⟩:=H4.out
      go_simp
      clear p0 p1 p2 p3 p4 p5 p6 z0 z1 z2 z3 z4 z5 z6;show K _ (rqP wn4 (w.heap.size+1+1) r FA fc TA tc);generalize (rqP wn4 (w.heap.size+1+1) r FA fc TA tc)=wy5 at *;refine hK.out _ _ (.inr HQ.out.1) (fun _=>nm ?_);clear hK K;refine zc 7 (h:=fun K hK=>?_);obtain ⟨⟨p0,p1,p2,p3⟩,z0,z1,z2,z3⟩:=HQ.out.2.1
      go_simp
      clear p0 p1 p2 p3 z0 z1 z2 z3;show K _ (zal wy5 (w.heap.size+1+1+1) (.int .i64 204) (.string ⟨#[]⟩) (.slice A1 (4+vp.length) c1) (.string ⟨#[]⟩));have OX:=hid (zP OX.out HQ.out.2.2.1 (fun k hk=>by rcases hk with h|h<;>omega));obtain ⟨HB9,H49,H59⟩:=HQ.out.2.2.2;clear HQ HB H4 H5;have HB:=hid HB9;have H4:=hid H49;have H5:=hid H59;clear HB9 H49 H59;generalize (zal wy5 (w.heap.size+1+1+1) (.int .i64 204) (.string ⟨#[]⟩) (.slice A1 (4+vp.length) c1) (.string ⟨#[]⟩))=wn5 at *;refine hK.out _ _ (.inr HB.out) (fun _=>nm ?_);clear hK K;refine zc 8 (h:=fun K hK=>?_)
      (try go_simp)
      refine hK.out _ _ (.inl (by rfl)) (fun _=>nm ?_);clear hK K;refine zy (by kernel_rfl) ?_ _;have HW:=hid (zt HB.out (fun k h=>by rcases h with h|h<;>omega) (z8 w _ _));obtain ⟨a0,a1,a2,a3,a4,a5,a6⟩:=H4.out;obtain ⟨x0,x1,x2,x3⟩:=H5.out;have HO9:=hid (zn (b':=w.heap.size) OX.out (by omega));have HLE:=hid (show (l8++vp).length=4+vp.length by rw[List.length_append,hln]);clear HB H4 H5 OX hHeld
      go_wp2
      exact bodyPost_ret (v:=.tuple #[rqV r FA fc TA tc,.agg #[.int .i64 204,.string ⟨#[]⟩,.slice A1 (4+vp.length) c1,.string ⟨#[]⟩],.bool true]) (by simp[results,Tryz.results30,go_sem,rqV,a0,a1,a2,a3,a4,a5,a6,x0,x1,x2,x3]) rfl (by rw[HSR.out];exact ⟨A1,c1,by unfold rsV;rw[HLE.out],by rw[HLE.out];exact HO9.out,HW.out⟩)
     ·rw[decide_eq_false hj0] at HJO
      rw[if_neg hj0] at HFS9;clear hj0;obtain ⟨m0,m1,m2,m3,m4⟩:=zaL HKC.out (fun h=>h);obtain ⟨a0,a1,a2,a3,a4,a5,a6⟩:=zac HKC.out (fun h=>h)
      go_wp2_with fail
      refine (HALs.out _ (HXB.out.trans (HKC.out.below.mono HXB.out.size))).mono ?_;rintro e w4 ⟨rfl,b4⟩;have HK4:=hid (HKC.out.step b4);have hz4:w.heap.size+5≤w4.heap.size:=by have h:=HK4.out.size;rw[HS0.out] at h;exact h
      have hz4a:w.heap.size<w4.heap.size:=by omega
      have hz4b:w.heap.size+1<w4.heap.size:=by omega
      clear b4;clear m0 m1 m2 m3 m4;clear a0 a1 a2 a3 a4 a5 a6;obtain ⟨m0,m1,m2,m3,m4⟩:=zaL HK4.out (fun h=>h);obtain ⟨a0,a1,a2,a3,a4,a5,a6⟩:=zac HK4.out (fun h=>h)
      go_wp2_with fail
      refine (HJO.out _ (HXB.out.trans ((HK4.out.alloc _).below.mono HXB.out.size))).mono ?_;rintro e w5 ⟨rfl,b5⟩;obtain ⟨HW40,ho5⟩:=zn9 b5
      (first|rw[←hw1.out] at ho5|rw[←hw2.out] at ho5)
      have ho5:w5.ownsRow w4.heap.size 69 2 (.slice (some ⟨w4.heap.size,0,none⟩) 2 2) 2 (zj [(⟨#[65,99,99,101,115,115,45,67,111,110,116,114,111,108,45,65,108,108,111,119,45,79,114,105,103,105,110]⟩,ov),(⟨#[65,99,99,101,115,115,45,67,111,110,116,114,111,108,45,65,108,108,111,119,45,77,101,116,104,111,100,115]⟩,wv)]):=ho5;have HW4:=hid HW40;clear b5 HW40;clear m0 m1 m2 m3 m4;clear a0 a1 a2 a3 a4 a5 a6;have HK5:=hid (HK4.out.step HW4.out);obtain ⟨m0,m1,m2,m3,m4⟩:=zaL HK5.out (fun h=>h);obtain ⟨a0,a1,a2,a3,a4,a5,a6⟩:=zac HK5.out (fun h=>h)
      go_wp2_with fail
      refine (HDG.out _).mono ?_;rintro e w7 ⟨rfl,b7⟩;have ho7:=zW ho5 b7;have HW7:=hid (HW4.out.trans (b7.mono HW4.out.size));clear b7 HW4 ho5;have HW4:=HW7;clear HW7;clear m0 m1 m2 m3 m4;clear a0 a1 a2 a3 a4 a5 a6
      go_wp2_with (at_builtin;refine zq _ rfl _ _ 37 rfl w4.heap.size 69 i0 (.agg #[.string ⟨#[]⟩,.string ⟨#[]⟩]) 2 32 Tryz.underlying37 hi0 hz0 hz1 hz2 rfl (by decide) _ 2 (zj ([(⟨#[65,99,99,101,115,115,45,67,111,110,116,114,111,108,45,65,108,108,111,119,45,79,114,105,103,105,110]⟩,ov),(⟨#[65,99,99,101,115,115,45,67,111,110,116,114,111,108,45,65,108,108,111,119,45,77,101,116,104,111,100,115]⟩,wv)])) rfl (ho7.alloc _) _ (some ⟨w7.heap.size,0,none⟩) 1 1 (zj ([(⟨#[65,99,99,101,115,115,45,67,111,110,116,114,111,108,45,77,97,120,45,65,103,101]⟩,dg)])) rfl (zv (za1 w7 #[.string ⟨#[65,99,99,101,115,115,45,67,111,110,116,114,111,108,45,77,97,120,45,65,103,101]⟩,.string dg] 69 rfl) (zK _) (by decide)) (zA _) (by unfold maxLen;omega) (by omega) (by simp;have:=HW4.out.size;omega) ?_)
      intro v' w8 hown hg _;have HW5:Hid (Below w4.heap.size w4 w8):=hid ((HW4.out.alloc HW4.out.size (.cells #[.string ⟨#[65,99,99,101,115,115,45,67,111,110,116,114,111,108,45,77,97,120,45,65,103,101]⟩,.string dg] 69)).grown hg (by simp;have:=HW4.out.size;omega) (zI ho7));have how8:w8.ownsRow w4.heap.size 69 2 v' (2+1) (zj ([(⟨#[65,99,99,101,115,115,45,67,111,110,116,114,111,108,45,65,108,108,111,119,45,79,114,105,103,105,110]⟩,ov),(⟨#[65,99,99,101,115,115,45,67,111,110,116,114,111,108,45,65,108,108,111,119,45,77,101,116,104,111,100,115]⟩,wv)]++[(⟨#[65,99,99,101,115,115,45,67,111,110,116,114,111,108,45,77,97,120,45,65,103,101]⟩,dg)])):=by rw[zX];exact hown
      clear hown hg HW4 ho7;have HW4:=HW5;clear HW5;obtain ⟨Aw8,cw8,rfl⟩:=zC how8;have HK8:=hid (HK4.out.step HW4.out);obtain ⟨l8,hl8⟩:∃l8:List Fl,l8=[(⟨#[65,99,99,101,115,115,45,67,111,110,116,114,111,108,45,65,108,108,111,119,45,79,114,105,103,105,110]⟩,ov),(⟨#[65,99,99,101,115,115,45,67,111,110,116,114,111,108,45,65,108,108,111,119,45,77,101,116,104,111,100,115]⟩,wv)]++[(⟨#[65,99,99,101,115,115,45,67,111,110,116,114,111,108,45,77,97,120,45,65,103,101]⟩,dg)]:=⟨_,rfl⟩;rw[←hl8] at how8;have hln:l8.length=3:=by rw[hl8];try rfl
      have HSR:=hid (show zx m r= .inr ⟨204,⟨#[]⟩,l8++vp,⟨#[]⟩⟩ by rw[HSR0.out,HFS9.out,hl8];try simp);clear hl8 HSR0 HFS9;have hl8z:l8.length≤4:=by omega
      have hv1:=HVZ.out;have OE:=hid (show w8.drew.ownsRow w4.heap.size 69 2 (.slice Aw8 3 cw8) 3 (zj l8) from World.ownsRow.drew how8);have hw48:=HW4.out.size;clear how8;obtain ⟨m0,m1,m2,m3,m4⟩:=zaL HK8.out (fun h=>h);obtain ⟨a0,a1,a2,a3,a4,a5,a6⟩:=zac HK8.out (fun h=>h);have HB:=hid (show zb (fun k=>k=w.heap.size+1+1∨k=w.heap.size+1+1+1) (A5 w (zf m (some ⟨b0,off0,none⟩) c) (zu r FA fc TA tc)) w8.drew from (HK8.out.wider (fun _ _ h=>h.elim)).drew);have H4:=hid (zcK (HK8.out.drew) (fun h=>h));have H5:=hid (zcJ (HK8.out.drew) (fun h=>h))
      go_wp2_with fail
      clear m0 m1 m2 m3 m4;clear a0 a1 a2 a3 a4 a5 a6;refine zO (t:=8) (S:=fun W=>zb (fun k=>k=w.heap.size+1+1∨k=w.heap.size+1+1+1) (A5 w (zf m (some ⟨b0,off0,none⟩) c) (zu r FA fc TA tc)) W) (by kernel_rfl) HB.out (fun hHeld=>?_);have hwle:=hid (show w4.heap.size≤w8.drew.heap.size from HW4.out.size);generalize w8.drew=wr0 at *;refine za 0 (y:=fun w hSw=>by (try dsimp only at hSw);obtain ⟨a0,a1,a2,a3,a4,a5,a6⟩:=zac hSw (fun h=>by rcases h with h|h<;>omega);exact yl) (s:=hHeld) (h:=?_);refine za 1 (s:=hHeld) (h:=?_);refine za 2 (y:=fun w hSw=>by (try dsimp only at hSw);obtain ⟨m0,m1,m2,m3,m4⟩:=zaL hSw (fun h=>by rcases h with h|h<;>omega);exact yl) (s:=hHeld) (h:=?_);refine zc 3 (h:=fun K hK=>?_)
      (try rw[if_pos (by rfl)])
      go_simp
      go_at_call 50
      refine (HVA.out _ (zt HB.out (fun k h=>by rcases h with h|h<;>omega) HXB.out)).mono ?_;rintro e wn2 ⟨AV,cv,rfl,hov,hb⟩;have OV:=hid hov;have hwl2:=hid (Nat.le_trans hwle.out hb.size);have HB9:=hid (HB.out.step hb);have H4:=hid (H4.out.keep (zb.of (D:=fun _=>False) hb) (by have h:=HB.out.size;rw[HS0.out] at h;omega) (fun h=>h));have H5:=hid (H5.out.keep (zb.of (D:=fun _=>False) hb) (by have h:=HB.out.size;rw[HS0.out] at h;omega) (fun h=>h));have OE:=hid (zW OE.out hb);clear HB;have HB:=HB9;clear HB9;clear hb hov
      (try go_wp2_with fail)
      refine hK.out _ _ (.inr HB.out) (fun _=>nm ?_);clear hK K;refine zc 4 (h:=fun K hK=>?_);refine zaO _ rfl (.tmp 163) (.tmp 165) 37 rfl w4.heap.size 69 i0 (.agg #[.string ⟨#[]⟩,.string ⟨#[]⟩]) 2 32 Tryz.underlying37 hi0 hz0 hz1 hz2 rfl (by decide) _ 3 (zj l8) (by rfl) OE.out _ AV vp.length cv (zj vp) (by rfl) (zv (zak OV.out) (zK vp) (by decide)) (zA vp) (by unfold maxLen;omega) (by omega) (by have h:=HB.out.size;rw[HS0.out] at h;have h2:=hwl2.out;omega) ?_;intro v' wn4 hown hg alt;have hbl:Below w4.heap.size wn2 wn4:=(Below.refl w4.heap.size wn2).grown hg (by have h2:=hwl2.out;omega) (zI OE.out);have HB9:=hid (HB.out.stepL (hbl.mono (by rw[HS0.out];omega)));have H4:=hid (H4.out.keep (zb.ofB hbl) (by have h:=HB.out.size;rw[HS0.out] at h;omega) (by omega));have H5:=hid (H5.out.keep (zb.ofB hbl) (by have h:=HB.out.size;rw[HS0.out] at h;omega) (by omega));have OX0:wn4.ownsRow w4.heap.size 69 2 v' (3+vp.length) (zj (l8++vp)):=by rw[zX];exact hown
      obtain ⟨A1,c1,rfl⟩:=zC OX0;have OX:=hid (zn (b':=w.heap.size+5) OX0 hz4);clear HB hown hg alt hbl OX0 OE OV;have HB:=HB9;clear HB9;refine hK.out _ _ (.inr HB.out) (fun _=>nm ?_);clear hK K;refine za 5 (s:=HB.out) (h:=?_);have HQ:=hid (zbG (r:=r) (FA:=FA) (fc:=fc) (TA:=TA) (tc:=tc) HB.out H4.out H5.out (.inl rfl) (.inr rfl) (by omega) (by have h:=HB.out.size;rw[HS0.out] at h;omega) (by have h:=HB.out.size;rw[HS0.out] at h;omega) (.int .i64 204) (.string ⟨#[]⟩) (.slice A1 (3+vp.length) c1) (.string ⟨#[]⟩));refine zc 6 (h:=fun K hK=>?_);obtain ⟨⟨p0,p1,p2,p3,p4,p5,p6⟩,z0,z1,z2,z3,z4,z5,z6⟩:=H4.out
      go_simp
      clear p0 p1 p2 p3 p4 p5 p6 z0 z1 z2 z3 z4 z5 z6;show K _ (rqP wn4 (w.heap.size+1+1) r FA fc TA tc);generalize (rqP wn4 (w.heap.size+1+1) r FA fc TA tc)=wy5 at *;refine hK.out _ _ (.inr HQ.out.1) (fun _=>nm ?_);clear hK K;refine zc 7 (h:=fun K hK=>?_);obtain ⟨⟨p0,p1,p2,p3⟩,z0,z1,z2,z3⟩:=HQ.out.2.1
      go_simp
      clear p0 p1 p2 p3 z0 z1 z2 z3;show K _ (zal wy5 (w.heap.size+1+1+1) (.int .i64 204) (.string ⟨#[]⟩) (.slice A1 (3+vp.length) c1) (.string ⟨#[]⟩));have OX:=hid (zP OX.out HQ.out.2.2.1 (fun k hk=>by rcases hk with h|h<;>omega));obtain ⟨HB9,H49,H59⟩:=HQ.out.2.2.2;clear HQ HB H4 H5;have HB:=hid HB9;have H4:=hid H49;have H5:=hid H59;clear HB9 H49 H59;generalize (zal wy5 (w.heap.size+1+1+1) (.int .i64 204) (.string ⟨#[]⟩) (.slice A1 (3+vp.length) c1) (.string ⟨#[]⟩))=wn5 at *;refine hK.out _ _ (.inr HB.out) (fun _=>nm ?_);clear hK K;refine zc 8 (h:=fun K hK=>?_)
      (try go_simp)
      refine hK.out _ _ (.inl (by rfl)) (fun _=>nm ?_);clear hK K;refine zy (by kernel_rfl) ?_ _;have HW:=hid (zt HB.out (fun k h=>by rcases h with h|h<;>omega) (z8 w _ _));obtain ⟨a0,a1,a2,a3,a4,a5,a6⟩:=H4.out;obtain ⟨x0,x1,x2,x3⟩:=H5.out;have HO9:=hid (zn (b':=w.heap.size) OX.out (by omega));have HLE:=hid (show (l8++vp).length=3+vp.length by rw[List.length_append,hln]);clear HB H4 H5 OX hHeld
      go_wp2
      exact bodyPost_ret (v:=.tuple #[rqV r FA fc TA tc,.agg #[.int .i64 204,.string ⟨#[]⟩,.slice A1 (3+vp.length) c1,.string ⟨#[]⟩],.bool true]) (by simp[results,Tryz.results30,go_sem,rqV,a0,a1,a2,a3,a4,a5,a6,x0,x1,x2,x3]) rfl (by rw[HSR.out];exact ⟨A1,c1,by unfold rsV;rw[HLE.out],by rw[HLE.out];exact HO9.out,HW.out⟩)
end Go.Proofs.YtbnafbdhomdcoaaGreatDoor
