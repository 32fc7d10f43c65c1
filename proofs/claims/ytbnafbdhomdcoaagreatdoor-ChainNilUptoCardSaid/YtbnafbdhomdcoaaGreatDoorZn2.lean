/-
  CkMa, CkMb, CkMc, CkMd, CkMe, CkMf, without what the claim does not reach.
-/
import Derived.Test.YtbnafbdhomdcoaaGreatDoorZn1
import Derived.Test.YtbnafbdhomdcoaaGreatDoorZm7
import Derived.Test.YtbnafbdhomdcoaaGreatDoorZCjDh
namespace Go.Proofs.YtbnafbdhomdcoaaGreatDoor
open Go.RowKit Go.Shelf Go.Lib
set_option maxRecDepth 20000 in
set_option maxHeartbeats 8000000 in
theorem zq3 (m:zY) (A:Option Addr) (c:Nat) (r:Rq) (FA:Option Addr) (fc:Nat) (TA:Option Addr) (tc:Nat) (w:World) (hcm:zr m=false) (hs:zgs w m A c r FA):
  Calls Tryz.prog 30 #[zL m A c,rqV r FA fc TA tc] w (zcR FA fc TA tc w r (.inl r)):=by
 have HCK:=hid (za8 m A c (A5 w (zf m A c) (zu r FA fc TA tc)) (hs.list.below (z8 w _ _)) hs.cap hs.mid);rw[hcm] at HCK;have HXB:=hid (z8 w (zf m A c) (zu r FA fc TA tc));have HS0:=hid (zfe w (zf m A c) (zu r FA fc TA tc));clear hcm hs;have HSR:=hid (rfl:(Sum.inl r:Rq⊕Rs)= .inl r);unfold zL rqV at *
 go_enter Tryz.func30,Tryz.ntmps30
 go_wp2_with fail
 rw[zem];refine HCK.out.mono ?_;rintro e w1 ⟨rfl,b1⟩;rw[show zaq false=190 from rfl];have HK1:=hid (show zb (fun _=>False) (A5 w (zf m A c) (zu r FA fc TA tc)) w1 from zb.of b1);clear b1 HCK;have HB:=hid (show zb (fun k=>k=w.heap.size+1+1∨k=w.heap.size+1+1+1) (A5 w (zf m A c) (zu r FA fc TA tc)) w1.drew from (HK1.out.wider (fun _ _ h=>h.elim)).drew);have H4:=hid (zcK (HK1.out.drew) (fun h=>h));have H5:=hid (zcJ (HK1.out.drew) (fun h=>h))
 go_wp2_with fail
 refine zO (t:=4) (S:=fun W=>zb (fun k=>k=w.heap.size+1+1∨k=w.heap.size+1+1+1) (A5 w (zf m A c) (zu r FA fc TA tc)) W) (by kernel_rfl) HB.out (fun hHeld=>?_);generalize w1.drew=wr0 at *;refine za 0 (y:=fun w hSw=>by (try dsimp only at hSw);obtain ⟨a0,a1,a2,a3,a4,a5,a6⟩:=zac hSw (fun h=>by rcases h with h|h<;>omega);exact yl) (s:=hHeld) (h:=?_);refine za 1 (y:=fun w hSw=>by (try dsimp only at hSw);obtain ⟨y0,y1,y2,y3⟩:=zge hSw (fun h=>by rcases h with h|h<;>omega);exact yl) (s:=hHeld) (h:=?_);have HQ:=hid (zbG (r:=r) (FA:=FA) (fc:=fc) (TA:=TA) (tc:=tc) HB.out H4.out H5.out (.inl rfl) (.inr rfl) (by omega) (by have h:=HB.out.size;rw[HS0.out] at h;omega) (by have h:=HB.out.size;rw[HS0.out] at h;omega) (.int .i64 0) (.string ⟨#[]⟩) (.slice none 0 0) (.string ⟨#[]⟩));refine zc 2 (h:=fun K hK=>?_);obtain ⟨⟨p0,p1,p2,p3,p4,p5,p6⟩,z0,z1,z2,z3,z4,z5,z6⟩:=H4.out
 go_simp
 clear p0 p1 p2 p3 p4 p5 p6 z0 z1 z2 z3 z4 z5 z6;show K _ (rqP wr0 (w.heap.size+1+1) r FA fc TA tc);generalize (rqP wr0 (w.heap.size+1+1) r FA fc TA tc)=wy1 at *;refine hK.out _ _ (.inr HQ.out.1) (fun _=>nm ?_);clear hK K;refine zc 3 (h:=fun K hK=>?_);obtain ⟨⟨p0,p1,p2,p3⟩,z0,z1,z2,z3⟩:=HQ.out.2.1
 go_simp
 clear p0 p1 p2 p3 z0 z1 z2 z3;show K _ (zal wy1 (w.heap.size+1+1+1) (.int .i64 0) (.string ⟨#[]⟩) (.slice none 0 0) (.string ⟨#[]⟩));obtain ⟨HB9,H49,H59⟩:=HQ.out.2.2.2;clear HQ HB H4 H5;have HB:=hid HB9;have H4:=hid H49;have H5:=hid H59;clear HB9 H49 H59;generalize (zal wy1 (w.heap.size+1+1+1) (.int .i64 0) (.string ⟨#[]⟩) (.slice none 0 0) (.string ⟨#[]⟩))=wn1 at *;refine hK.out _ _ (.inr HB.out) (fun _=>nm ?_);clear hK K;refine zc 4 (h:=fun K hK=>?_)
 (try go_simp)
 refine hK.out _ _ (.inl (by rfl)) (fun _=>nm ?_);clear hK K;refine zy (by kernel_rfl) ?_ _;have HW:=hid (zt HB.out (fun k h=>by rcases h with h|h<;>omega) (z8 w _ _));obtain ⟨a0,a1,a2,a3,a4,a5,a6⟩:=H4.out;obtain ⟨x0,x1,x2,x3⟩:=H5.out;clear HB H4 H5 hHeld
 go_wp2
 exact bodyPost_ret (v:=.tuple #[rqV r FA fc TA tc,rsZ,.bool false]) (by simp[results,Tryz.results30,go_sem,rqV,rsZ,a0,a1,a2,a3,a4,a5,a6,x0,x1,x2,x3]) rfl (by first|(rw[HSR.out];exact ⟨rfl,HW.out⟩)|exact ⟨rfl,HW.out⟩)
set_option maxRecDepth 20000 in
set_option maxHeartbeats 8000000 in
theorem zs4 (m:zY) (A:Option Addr) (c:Nat) (r:Rq) (FA:Option Addr) (fc:Nat) (TA:Option Addr) (tc:Nat) (w:World) (hcm:zr m=true) (hk:m.kind=1∨m.kind=2∨m.kind=3∨m.kind=9) (hs:zgs w m A c r FA):
  Calls Tryz.prog 30 #[zL m A c,rqV r FA fc TA tc] w (zcR FA fc TA tc w r (zx m r)):=by
 have HCK:=hid (za8 m A c (A5 w (zf m A c) (zu r FA fc TA tc)) (hs.list.below (z8 w _ _)) hs.cap hs.mid);rw[hcm] at HCK;have HXB:=hid (z8 w (zf m A c) (zu r FA fc TA tc));have HS0:=hid (zfe w (zf m A c) (zu r FA fc TA tc));have HSR:=hid (zq2 r hk);have q4:(m.kind==4)=false:=beq_eq_false_iff_ne.2 (by omega);have q5:(m.kind==5)=false:=beq_eq_false_iff_ne.2 (by omega);have q6:(m.kind==6)=false:=beq_eq_false_iff_ne.2 (by omega);have q7:(m.kind==7)=false:=beq_eq_false_iff_ne.2 (by omega);have q10:(m.kind==10)=false:=beq_eq_false_iff_ne.2 (by omega);have q8:(m.kind==8)=false:=beq_eq_false_iff_ne.2 (by omega);clear hcm hk hs;unfold zL rqV at *
 go_enter Tryz.func30,Tryz.ntmps30
 go_wp2_with fail
 rw[zem];refine HCK.out.mono ?_;rintro e w1 ⟨rfl,b1⟩;rw[show zaq true=0 from rfl];have HK1:=hid (show zb (fun _=>False) (A5 w (zf m A c) (zu r FA fc TA tc)) w1 from zb.of b1);clear b1 HCK;obtain ⟨m0,m1,m2,m3,m4⟩:=zaL HK1.out (fun h=>h);obtain ⟨a0,a1,a2,a3,a4,a5,a6⟩:=zac HK1.out (fun h=>h);have HB:=hid (show zb (fun k=>k=w.heap.size+1+1∨k=w.heap.size+1+1+1) (A5 w (zf m A c) (zu r FA fc TA tc)) w1.drew from (HK1.out.wider (fun _ _ h=>h.elim)).drew);have H4:=hid (zcK (HK1.out.drew) (fun h=>h));have H5:=hid (zcJ (HK1.out.drew) (fun h=>h))
 go_wp2_with fail
 clear m0 m1 m2 m3 m4;clear a0 a1 a2 a3 a4 a5 a6;refine zO (t:=4) (S:=fun W=>zb (fun k=>k=w.heap.size+1+1∨k=w.heap.size+1+1+1) (A5 w (zf m A c) (zu r FA fc TA tc)) W) (by kernel_rfl) HB.out (fun hHeld=>?_);generalize w1.drew=wr0 at *;refine za 0 (y:=fun w hSw=>by (try dsimp only at hSw);obtain ⟨a0,a1,a2,a3,a4,a5,a6⟩:=zac hSw (fun h=>by rcases h with h|h<;>omega);exact yl) (s:=hHeld) (h:=?_);refine za 1 (y:=fun w hSw=>by (try dsimp only at hSw);obtain ⟨y0,y1,y2,y3⟩:=zge hSw (fun h=>by rcases h with h|h<;>omega);exact yl) (s:=hHeld) (h:=?_);have HQ:=hid (zbG (r:=r) (FA:=FA) (fc:=fc) (TA:=TA) (tc:=tc) HB.out H4.out H5.out (.inl rfl) (.inr rfl) (by omega) (by have h:=HB.out.size;rw[HS0.out] at h;omega) (by have h:=HB.out.size;rw[HS0.out] at h;omega) (.int .i64 0) (.string ⟨#[]⟩) (.slice none 0 0) (.string ⟨#[]⟩));refine zc 2 (h:=fun K hK=>?_);obtain ⟨⟨p0,p1,p2,p3,p4,p5,p6⟩,z0,z1,z2,z3,z4,z5,z6⟩:=H4.out
 go_simp
 clear p0 p1 p2 p3 p4 p5 p6 z0 z1 z2 z3 z4 z5 z6;show K _ (rqP wr0 (w.heap.size+1+1) r FA fc TA tc);generalize (rqP wr0 (w.heap.size+1+1) r FA fc TA tc)=wy1 at *;refine hK.out _ _ (.inr HQ.out.1) (fun _=>nm ?_);clear hK K;refine zc 3 (h:=fun K hK=>?_);obtain ⟨⟨p0,p1,p2,p3⟩,z0,z1,z2,z3⟩:=HQ.out.2.1
 go_simp
 clear p0 p1 p2 p3 z0 z1 z2 z3;show K _ (zal wy1 (w.heap.size+1+1+1) (.int .i64 0) (.string ⟨#[]⟩) (.slice none 0 0) (.string ⟨#[]⟩));obtain ⟨HB9,H49,H59⟩:=HQ.out.2.2.2;clear HQ HB H4 H5;have HB:=hid HB9;have H4:=hid H49;have H5:=hid H59;clear HB9 H49 H59;generalize (zal wy1 (w.heap.size+1+1+1) (.int .i64 0) (.string ⟨#[]⟩) (.slice none 0 0) (.string ⟨#[]⟩))=wn1 at *;refine hK.out _ _ (.inr HB.out) (fun _=>nm ?_);clear hK K;refine zc 4 (h:=fun K hK=>?_)
 (try go_simp)
 refine hK.out _ _ (.inl (by rfl)) (fun _=>nm ?_);clear hK K;refine zy (by kernel_rfl) ?_ _;have HW:=hid (zt HB.out (fun k h=>by rcases h with h|h<;>omega) (z8 w _ _));obtain ⟨a0,a1,a2,a3,a4,a5,a6⟩:=H4.out;obtain ⟨x0,x1,x2,x3⟩:=H5.out;clear HB H4 H5 hHeld
 go_wp2
 exact bodyPost_ret (v:=.tuple #[rqV r FA fc TA tc,rsZ,.bool false]) (by simp[results,Tryz.results30,go_sem,rqV,rsZ,a0,a1,a2,a3,a4,a5,a6,x0,x1,x2,x3]) rfl (by first|(rw[HSR.out];exact ⟨rfl,HW.out⟩)|exact ⟨rfl,HW.out⟩)
set_option maxRecDepth 20000 in
set_option maxHeartbeats 8000000 in
theorem zu5 (m:zY) (A:Option Addr) (c:Nat) (r:Rq) (FA:Option Addr) (fc:Nat) (TA:Option Addr) (tc:Nat) (w:World) (hcm:zr m=true) (hk:m.kind=5) (hs:zgs w m A c r FA):
  Calls Tryz.prog 30 #[zL m A c,rqV r FA fc TA tc] w (zcR FA fc TA tc w r (zx m r)):=by
 have HCK:=hid (za8 m A c (A5 w (zf m A c) (zu r FA fc TA tc)) (hs.list.below (z8 w _ _)) hs.cap hs.mid);rw[hcm] at HCK;have HXB:=hid (z8 w (zf m A c) (zu r FA fc TA tc));have HS0:=hid (zfe w (zf m A c) (zu r FA fc TA tc));have q4:(m.kind==4)=false:=by rw[hk];rfl
 have q5:(m.kind==5)=true:=by rw[hk];rfl
 have q6:(m.kind==6)=false:=by rw[hk];rfl
 have q7:(m.kind==7)=false:=by rw[hk];rfl
 have q10:(m.kind==10)=false:=by rw[hk];rfl
 have q8:(m.kind==8)=false:=by rw[hk];rfl
 have HPL:=hid (fun W=>zdT 413 none 0 [] W (Row.nil _ _) (by decide) (by decide) (by decide) (zfS 413));have HA:=hid (show zx m r=if m.n<r.body.size then .inr (zT 413 []) else .inl r by unfold zx;rw[if_neg (by omega),if_pos hk]);have hbz:=hs.req.body;clear hcm hk hs
 by_cases hn:m.n<(r.body.size:Int)
 ·have HSR:=hid (show zx m r= .inr ⟨413,⟨#[]⟩,[ctF],zao 413⟩ by rw[HA.out,if_pos hn];rfl)
  unfold zL rqV at *
  go_enter Tryz.func30,Tryz.ntmps30
  go_wp2_with fail
  rw[zem];refine HCK.out.mono ?_;rintro e w1 ⟨rfl,b1⟩;rw[show zaq true=0 from rfl];have HK1:=hid (show zb (fun _=>False) (A5 w (zf m A c) (zu r FA fc TA tc)) w1 from zb.of b1);clear b1 HCK;obtain ⟨m0,m1,m2,m3,m4⟩:=zaL HK1.out (fun h=>h);obtain ⟨a0,a1,a2,a3,a4,a5,a6⟩:=zac HK1.out (fun h=>h);have HB:=hid (show zb (fun k=>k=w.heap.size+1+1∨k=w.heap.size+1+1+1) (A5 w (zf m A c) (zu r FA fc TA tc)) w1.drew from (HK1.out.wider (fun _ _ h=>h.elim)).drew);have H4:=hid (zcK (HK1.out.drew) (fun h=>h));have H5:=hid (zcJ (HK1.out.drew) (fun h=>h))
  go_wp2_with fail
  clear m0 m1 m2 m3 m4;clear a0 a1 a2 a3 a4 a5 a6;refine zO (t:=4) (S:=fun W=>zb (fun k=>k=w.heap.size+1+1∨k=w.heap.size+1+1+1) (A5 w (zf m A c) (zu r FA fc TA tc)) W) (by kernel_rfl) HB.out (fun hHeld=>?_);generalize w1.drew=wr0 at *;refine za 0 (y:=fun w hSw=>by (try dsimp only at hSw);obtain ⟨a0,a1,a2,a3,a4,a5,a6⟩:=zac hSw (fun h=>by rcases h with h|h<;>omega);exact yl) (s:=hHeld) (h:=?_);refine zc 1 (h:=fun K hK=>?_)
  (try rw[if_pos (by rfl)])
  go_simp
  go_at_call 13
  refine (HPL.out _).mono ?_;rintro e wn2 ⟨A1,c1,rfl,ho,hb⟩;have HZ:=hid (show w.heap.size+5≤wr0.heap.size by have h:=HB.out.size;rw[HS0.out] at h;exact h);have OX:=hid (zn ho HZ.out);have HB9:=hid (HB.out.step hb);have H4:=hid (H4.out.keep (zb.of (D:=fun _=>False) hb) (by have h:=HB.out.size;rw[HS0.out] at h;omega) (fun h=>h));have H5:=hid (H5.out.keep (zb.of (D:=fun _=>False) hb) (by have h:=HB.out.size;rw[HS0.out] at h;omega) (fun h=>h));clear HB;have HB:=HB9;clear HB9;clear ho hb
  (try go_wp2_with fail)
  refine hK.out _ _ (.inr HB.out) (fun _=>nm ?_);clear hK K;have HQ:=hid (zbG (r:=r) (FA:=FA) (fc:=fc) (TA:=TA) (tc:=tc) HB.out H4.out H5.out (.inl rfl) (.inr rfl) (by omega) (by have h:=HB.out.size;rw[HS0.out] at h;omega) (by have h:=HB.out.size;rw[HS0.out] at h;omega) (.int .i64 413) (.string ⟨#[]⟩) (.slice A1 [ctF].length c1) (.string (zao 413)));refine zc 2 (h:=fun K hK=>?_);obtain ⟨⟨p0,p1,p2,p3,p4,p5,p6⟩,z0,z1,z2,z3,z4,z5,z6⟩:=H4.out
  go_simp
  clear p0 p1 p2 p3 p4 p5 p6 z0 z1 z2 z3 z4 z5 z6;show K _ (rqP wn2 (w.heap.size+1+1) r FA fc TA tc);generalize (rqP wn2 (w.heap.size+1+1) r FA fc TA tc)=wy3 at *;refine hK.out _ _ (.inr HQ.out.1) (fun _=>nm ?_);clear hK K;refine zc 3 (h:=fun K hK=>?_);obtain ⟨⟨p0,p1,p2,p3⟩,z0,z1,z2,z3⟩:=HQ.out.2.1
  go_simp
  clear p0 p1 p2 p3 z0 z1 z2 z3;show K _ (zal wy3 (w.heap.size+1+1+1) (.int .i64 413) (.string ⟨#[]⟩) (.slice A1 [ctF].length c1) (.string (zao 413)));have OX:=hid (zP OX.out HQ.out.2.2.1 (fun k hk=>by rcases hk with h|h<;>omega));obtain ⟨HB9,H49,H59⟩:=HQ.out.2.2.2;clear HQ HB H4 H5;have HB:=hid HB9;have H4:=hid H49;have H5:=hid H59;clear HB9 H49 H59;generalize (zal wy3 (w.heap.size+1+1+1) (.int .i64 413) (.string ⟨#[]⟩) (.slice A1 [ctF].length c1) (.string (zao 413)))=wn3 at *;refine hK.out _ _ (.inr HB.out) (fun _=>nm ?_);clear hK K;refine zc 4 (h:=fun K hK=>?_)
  (try go_simp)
  refine hK.out _ _ (.inl (by rfl)) (fun _=>nm ?_);clear hK K;refine zy (by kernel_rfl) ?_ _;have HW:=hid (zt HB.out (fun k h=>by rcases h with h|h<;>omega) (z8 w _ _));obtain ⟨a0,a1,a2,a3,a4,a5,a6⟩:=H4.out;obtain ⟨x0,x1,x2,x3⟩:=H5.out;have HO9:=hid (zn (b':=w.heap.size) OX.out (by omega));clear HB H4 H5 OX hHeld
  go_wp2
  exact bodyPost_ret (v:=.tuple #[rqV r FA fc TA tc,rsV ⟨413,⟨#[]⟩,[ctF],zao 413⟩ A1 c1,.bool true]) (by simp[results,Tryz.results30,go_sem,rqV,rsV,a0,a1,a2,a3,a4,a5,a6,x0,x1,x2,x3]) rfl (by rw[HSR.out];exact ⟨A1,c1,rfl,HO9.out,HW.out⟩)
 ·have HSR:=hid (HA.out.trans (if_neg hn))
  unfold zL rqV at *
  go_enter Tryz.func30,Tryz.ntmps30
  go_wp2_with fail
  rw[zem];refine HCK.out.mono ?_;rintro e w1 ⟨rfl,b1⟩;rw[show zaq true=0 from rfl];have HK1:=hid (show zb (fun _=>False) (A5 w (zf m A c) (zu r FA fc TA tc)) w1 from zb.of b1);clear b1 HCK;obtain ⟨m0,m1,m2,m3,m4⟩:=zaL HK1.out (fun h=>h);obtain ⟨a0,a1,a2,a3,a4,a5,a6⟩:=zac HK1.out (fun h=>h);have HB:=hid (show zb (fun k=>k=w.heap.size+1+1∨k=w.heap.size+1+1+1) (A5 w (zf m A c) (zu r FA fc TA tc)) w1.drew from (HK1.out.wider (fun _ _ h=>h.elim)).drew);have H4:=hid (zcK (HK1.out.drew) (fun h=>h));have H5:=hid (zcJ (HK1.out.drew) (fun h=>h))
  go_wp2_with fail
  clear m0 m1 m2 m3 m4;clear a0 a1 a2 a3 a4 a5 a6;refine zO (t:=4) (S:=fun W=>zb (fun k=>k=w.heap.size+1+1∨k=w.heap.size+1+1+1) (A5 w (zf m A c) (zu r FA fc TA tc)) W) (by kernel_rfl) HB.out (fun hHeld=>?_);generalize w1.drew=wr0 at *;refine za 0 (y:=fun w hSw=>by (try dsimp only at hSw);obtain ⟨a0,a1,a2,a3,a4,a5,a6⟩:=zac hSw (fun h=>by rcases h with h|h<;>omega);exact yl) (s:=hHeld) (h:=?_);refine za 1 (y:=fun w hSw=>by (try dsimp only at hSw);obtain ⟨y0,y1,y2,y3⟩:=zge hSw (fun h=>by rcases h with h|h<;>omega);exact yl) (s:=hHeld) (h:=?_);have HQ:=hid (zbG (r:=r) (FA:=FA) (fc:=fc) (TA:=TA) (tc:=tc) HB.out H4.out H5.out (.inl rfl) (.inr rfl) (by omega) (by have h:=HB.out.size;rw[HS0.out] at h;omega) (by have h:=HB.out.size;rw[HS0.out] at h;omega) (.int .i64 0) (.string ⟨#[]⟩) (.slice none 0 0) (.string ⟨#[]⟩));refine zc 2 (h:=fun K hK=>?_);obtain ⟨⟨p0,p1,p2,p3,p4,p5,p6⟩,z0,z1,z2,z3,z4,z5,z6⟩:=H4.out
  go_simp
  clear p0 p1 p2 p3 p4 p5 p6 z0 z1 z2 z3 z4 z5 z6;show K _ (rqP wr0 (w.heap.size+1+1) r FA fc TA tc);generalize (rqP wr0 (w.heap.size+1+1) r FA fc TA tc)=wy1 at *;refine hK.out _ _ (.inr HQ.out.1) (fun _=>nm ?_);clear hK K;refine zc 3 (h:=fun K hK=>?_);obtain ⟨⟨p0,p1,p2,p3⟩,z0,z1,z2,z3⟩:=HQ.out.2.1
  go_simp
  clear p0 p1 p2 p3 z0 z1 z2 z3;show K _ (zal wy1 (w.heap.size+1+1+1) (.int .i64 0) (.string ⟨#[]⟩) (.slice none 0 0) (.string ⟨#[]⟩));obtain ⟨HB9,H49,H59⟩:=HQ.out.2.2.2;clear HQ HB H4 H5;have HB:=hid HB9;have H4:=hid H49;have H5:=hid H59;clear HB9 H49 H59;generalize (zal wy1 (w.heap.size+1+1+1) (.int .i64 0) (.string ⟨#[]⟩) (.slice none 0 0) (.string ⟨#[]⟩))=wn1 at *;refine hK.out _ _ (.inr HB.out) (fun _=>nm ?_);clear hK K;refine zc 4 (h:=fun K hK=>?_)
  (try go_simp)
  refine hK.out _ _ (.inl (by rfl)) (fun _=>nm ?_);clear hK K;refine zy (by kernel_rfl) ?_ _;have HW:=hid (zt HB.out (fun k h=>by rcases h with h|h<;>omega) (z8 w _ _));obtain ⟨a0,a1,a2,a3,a4,a5,a6⟩:=H4.out;obtain ⟨x0,x1,x2,x3⟩:=H5.out;clear HB H4 H5 hHeld
  go_wp2
  exact bodyPost_ret (v:=.tuple #[rqV r FA fc TA tc,rsZ,.bool false]) (by simp[results,Tryz.results30,go_sem,rqV,rsZ,a0,a1,a2,a3,a4,a5,a6,x0,x1,x2,x3]) rfl (by first|(rw[HSR.out];exact ⟨rfl,HW.out⟩)|exact ⟨rfl,HW.out⟩)
set_option maxRecDepth 20000 in
set_option maxHeartbeats 8000000 in
theorem zuM (m:zY) (A:Option Addr) (c:Nat) (r:Rq) (FA:Option Addr) (fc:Nat) (TA:Option Addr) (tc:Nat) (w:World) (hcm:zr m=true) (hk:m.kind=10) (hs:zgs w m A c r FA):
  Calls Tryz.prog 30 #[zL m A c,rqV r FA fc TA tc] w (zcR FA fc TA tc w r (zx m r)):=by
 have HCK:=hid (za8 m A c (A5 w (zf m A c) (zu r FA fc TA tc)) (hs.list.below (z8 w _ _)) hs.cap hs.mid);rw[hcm] at HCK;have HXB:=hid (z8 w (zf m A c) (zu r FA fc TA tc));have HS0:=hid (zfe w (zf m A c) (zu r FA fc TA tc));have q4:(m.kind==4)=false:=by rw[hk];rfl
 have q5:(m.kind==5)=false:=by rw[hk];rfl
 have q6:(m.kind==6)=false:=by rw[hk];rfl
 have q7:(m.kind==7)=false:=by rw[hk];rfl
 have q10:(m.kind==10)=true:=by rw[hk];rfl
 have q8:(m.kind==8)=false:=by rw[hk];rfl
 have HPL:=hid (fun W=>zdT 421 none 0 [] W (Row.nil _ _) (by decide) (by decide) (by decide) (zfS 421));have HA:=hid (show zx m r=if zej m r=true then .inl r else .inr (zT 421 []) from zrk hk);have HHI:=hid (show zej m r=match zc9 r with|none=>false|some h=>zb5 m.list h from rfl);have HH:=hid (fun W (h:Below w.heap.size w W)=>zs3 r FA fc TA tc W (hs.fields.below h) hs.req);have HIN:=hid (fun (s:ByteArray) (W:World) (h:Below w.heap.size w W)=>zhi A c m.list s W (hs.list.below h) (by have h:=(zdi hs.mid).1;omega));clear hcm hk hs
 cases hah:zc9 r with
 |none=>
  have HSR:=hid (show zx m r= .inr ⟨421,⟨#[]⟩,[ctF],zao 421⟩ by rw[HA.out,HHI.out,hah];rfl);rw[hah] at HH;clear hah;unfold zL rqV at *
  go_enter Tryz.func30,Tryz.ntmps30
  go_wp2_with fail
  rw[zem];refine HCK.out.mono ?_;rintro e w1 ⟨rfl,b1⟩;rw[show zaq true=0 from rfl];have HK1:=hid (show zb (fun _=>False) (A5 w (zf m A c) (zu r FA fc TA tc)) w1 from zb.of b1);clear b1 HCK;obtain ⟨m0,m1,m2,m3,m4⟩:=zaL HK1.out (fun h=>h);obtain ⟨a0,a1,a2,a3,a4,a5,a6⟩:=zac HK1.out (fun h=>h)
  go_wp2_with fail
  refine (HH.out _ (HXB.out.trans (HK1.out.below.mono HXB.out.size))).mono ?_;rintro e w2 ⟨hh,bb,rfl,b2,hres⟩;have HK2:=hid (HK1.out.step b2);clear b2;obtain rfl:bb=false:=hres;clear m0 m1 m2 m3 m4;clear a0 a1 a2 a3 a4 a5 a6;have HB:=hid (show zb (fun k=>k=w.heap.size+1+1∨k=w.heap.size+1+1+1) (A5 w (zf m A c) (zu r FA fc TA tc)) w2.drew from (HK2.out.wider (fun _ _ h=>h.elim)).drew);have H4:=hid (zcK (HK2.out.drew) (fun h=>h));have H5:=hid (zcJ (HK2.out.drew) (fun h=>h))
  go_wp2_with fail
  refine zO (t:=4) (S:=fun W=>zb (fun k=>k=w.heap.size+1+1∨k=w.heap.size+1+1+1) (A5 w (zf m A c) (zu r FA fc TA tc)) W) (by kernel_rfl) HB.out (fun hHeld=>?_);generalize w2.drew=wr0 at *;refine za 0 (y:=fun w hSw=>by (try dsimp only at hSw);obtain ⟨a0,a1,a2,a3,a4,a5,a6⟩:=zac hSw (fun h=>by rcases h with h|h<;>omega);exact yl) (s:=hHeld) (h:=?_);refine zc 1 (h:=fun K hK=>?_)
  (try rw[if_pos (by rfl)])
  go_simp
  go_at_call 13
  refine (HPL.out _).mono ?_;rintro e wn2 ⟨A1,c1,rfl,ho,hb⟩;have HZ:=hid (show w.heap.size+5≤wr0.heap.size by have h:=HB.out.size;rw[HS0.out] at h;exact h);have OX:=hid (zn ho HZ.out);have HB9:=hid (HB.out.step hb);have H4:=hid (H4.out.keep (zb.of (D:=fun _=>False) hb) (by have h:=HB.out.size;rw[HS0.out] at h;omega) (fun h=>h));have H5:=hid (H5.out.keep (zb.of (D:=fun _=>False) hb) (by have h:=HB.out.size;rw[HS0.out] at h;omega) (fun h=>h));clear HB;have HB:=HB9;clear HB9;clear ho hb
  (try go_wp2_with fail)
  refine hK.out _ _ (.inr HB.out) (fun _=>nm ?_);clear hK K;have HQ:=hid (zbG (r:=r) (FA:=FA) (fc:=fc) (TA:=TA) (tc:=tc) HB.out H4.out H5.out (.inl rfl) (.inr rfl) (by omega) (by have h:=HB.out.size;rw[HS0.out] at h;omega) (by have h:=HB.out.size;rw[HS0.out] at h;omega) (.int .i64 421) (.string ⟨#[]⟩) (.slice A1 [ctF].length c1) (.string (zao 421)));refine zc 2 (h:=fun K hK=>?_);obtain ⟨⟨p0,p1,p2,p3,p4,p5,p6⟩,z0,z1,z2,z3,z4,z5,z6⟩:=H4.out
  go_simp
  clear p0 p1 p2 p3 p4 p5 p6 z0 z1 z2 z3 z4 z5 z6;show K _ (rqP wn2 (w.heap.size+1+1) r FA fc TA tc);generalize (rqP wn2 (w.heap.size+1+1) r FA fc TA tc)=wy3 at *;refine hK.out _ _ (.inr HQ.out.1) (fun _=>nm ?_);clear hK K;refine zc 3 (h:=fun K hK=>?_);obtain ⟨⟨p0,p1,p2,p3⟩,z0,z1,z2,z3⟩:=HQ.out.2.1
  go_simp
  clear p0 p1 p2 p3 z0 z1 z2 z3;show K _ (zal wy3 (w.heap.size+1+1+1) (.int .i64 421) (.string ⟨#[]⟩) (.slice A1 [ctF].length c1) (.string (zao 421)));have OX:=hid (zP OX.out HQ.out.2.2.1 (fun k hk=>by rcases hk with h|h<;>omega));obtain ⟨HB9,H49,H59⟩:=HQ.out.2.2.2;clear HQ HB H4 H5;have HB:=hid HB9;have H4:=hid H49;have H5:=hid H59;clear HB9 H49 H59;generalize (zal wy3 (w.heap.size+1+1+1) (.int .i64 421) (.string ⟨#[]⟩) (.slice A1 [ctF].length c1) (.string (zao 421)))=wn3 at *;refine hK.out _ _ (.inr HB.out) (fun _=>nm ?_);clear hK K;refine zc 4 (h:=fun K hK=>?_)
  (try go_simp)
  refine hK.out _ _ (.inl (by rfl)) (fun _=>nm ?_);clear hK K;refine zy (by kernel_rfl) ?_ _;have HW:=hid (zt HB.out (fun k h=>by rcases h with h|h<;>omega) (z8 w _ _));obtain ⟨a0,a1,a2,a3,a4,a5,a6⟩:=H4.out;obtain ⟨x0,x1,x2,x3⟩:=H5.out;have HO9:=hid (zn (b':=w.heap.size) OX.out (by omega));clear HB H4 H5 OX hHeld
  go_wp2
  exact bodyPost_ret (v:=.tuple #[rqV r FA fc TA tc,rsV ⟨421,⟨#[]⟩,[ctF],zao 421⟩ A1 c1,.bool true]) (by simp[results,Tryz.results30,go_sem,rqV,rsV,a0,a1,a2,a3,a4,a5,a6,x0,x1,x2,x3]) rfl (by rw[HSR.out];exact ⟨A1,c1,rfl,HO9.out,HW.out⟩)
 |some h=>
  rw[hah] at HH HHI;clear hah
  cases hi:zb5 m.list h
  ·have HSR:=hid (show zx m r= .inr ⟨421,⟨#[]⟩,[ctF],zao 421⟩ by rw[HA.out,show zej m r=zb5 m.list h from HHI.out,hi];rfl)
   have HIH:=hid (HIN.out h);rw[hi] at HIH;clear hi;unfold zL rqV at *
   go_enter Tryz.func30,Tryz.ntmps30
   go_wp2_with fail
   rw[zem];refine HCK.out.mono ?_;rintro e w1 ⟨rfl,b1⟩;rw[show zaq true=0 from rfl];have HK1:=hid (show zb (fun _=>False) (A5 w (zf m A c) (zu r FA fc TA tc)) w1 from zb.of b1);clear b1 HCK;obtain ⟨m0,m1,m2,m3,m4⟩:=zaL HK1.out (fun h=>h);obtain ⟨a0,a1,a2,a3,a4,a5,a6⟩:=zac HK1.out (fun h=>h)
   go_wp2_with fail
   refine (HH.out _ (HXB.out.trans (HK1.out.below.mono HXB.out.size))).mono ?_;rintro e w2 ⟨hh,bb,rfl,b2,hres⟩;have HK2:=hid (HK1.out.step b2);obtain ⟨rfl,rfl⟩:=hres;clear b2;clear m0 m1 m2 m3 m4;clear a0 a1 a2 a3 a4 a5 a6;obtain ⟨m0,m1,m2,m3,m4⟩:=zaL HK2.out (fun h=>h);obtain ⟨a0,a1,a2,a3,a4,a5,a6⟩:=zac HK2.out (fun h=>h)
   go_wp2_with fail
   refine (HIH.out _ (HXB.out.trans (HK2.out.below.mono HXB.out.size))).mono ?_;rintro e w3 ⟨rfl,rfl⟩;clear m0 m1 m2 m3 m4;clear a0 a1 a2 a3 a4 a5 a6;have HB:=hid (show zb (fun k=>k=w.heap.size+1+1∨k=w.heap.size+1+1+1) (A5 w (zf m A c) (zu r FA fc TA tc)) w2.drew from (HK2.out.wider (fun _ _ h=>h.elim)).drew);have H4:=hid (zcK (HK2.out.drew) (fun h=>h));have H5:=hid (zcJ (HK2.out.drew) (fun h=>h))
   go_wp2_with fail
   refine zO (t:=4) (S:=fun W=>zb (fun k=>k=w.heap.size+1+1∨k=w.heap.size+1+1+1) (A5 w (zf m A c) (zu r FA fc TA tc)) W) (by kernel_rfl) HB.out (fun hHeld=>?_);generalize w2.drew=wr0 at *;refine za 0 (y:=fun w hSw=>by (try dsimp only at hSw);obtain ⟨a0,a1,a2,a3,a4,a5,a6⟩:=zac hSw (fun h=>by rcases h with h|h<;>omega);exact yl) (s:=hHeld) (h:=?_);refine zc 1 (h:=fun K hK=>?_)
   (try rw[if_pos (by rfl)])
   go_simp
   go_at_call 13
   refine (HPL.out _).mono ?_;rintro e wn2 ⟨A1,c1,rfl,ho,hb⟩;have HZ:=hid (show w.heap.size+5≤wr0.heap.size by have h:=HB.out.size;rw[HS0.out] at h;exact h);have OX:=hid (zn ho HZ.out);have HB9:=hid (HB.out.step hb);have H4:=hid (H4.out.keep (zb.of (D:=fun _=>False) hb) (by have h:=HB.out.size;rw[HS0.out] at h;omega) (fun h=>h));have H5:=hid (H5.out.keep (zb.of (D:=fun _=>False) hb) (by have h:=HB.out.size;rw[HS0.out] at h;omega) (fun h=>h));clear HB;have HB:=HB9;clear HB9;clear ho hb
   (try go_wp2_with fail)
   refine hK.out _ _ (.inr HB.out) (fun _=>nm ?_);clear hK K;have HQ:=hid (zbG (r:=r) (FA:=FA) (fc:=fc) (TA:=TA) (tc:=tc) HB.out H4.out H5.out (.inl rfl) (.inr rfl) (by omega) (by have h:=HB.out.size;rw[HS0.out] at h;omega) (by have h:=HB.out.size;rw[HS0.out] at h;omega) (.int .i64 421) (.string ⟨#[]⟩) (.slice A1 [ctF].length c1) (.string (zao 421)));refine zc 2 (h:=fun K hK=>?_);obtain ⟨⟨p0,p1,p2,p3,p4,p5,p6⟩,z0,z1,z2,z3,z4,z5,z6⟩:=H4.out
   go_simp
   clear p0 p1 p2 p3 p4 p5 p6 z0 z1 z2 z3 z4 z5 z6;show K _ (rqP wn2 (w.heap.size+1+1) r FA fc TA tc);generalize (rqP wn2 (w.heap.size+1+1) r FA fc TA tc)=wy3 at *;refine hK.out _ _ (.inr HQ.out.1) (fun _=>nm ?_);clear hK K;refine zc 3 (h:=fun K hK=>?_);obtain ⟨⟨p0,p1,p2,p3⟩,z0,z1,z2,z3⟩:=HQ.out.2.1
   go_simp
   clear p0 p1 p2 p3 z0 z1 z2 z3;show K _ (zal wy3 (w.heap.size+1+1+1) (.int .i64 421) (.string ⟨#[]⟩) (.slice A1 [ctF].length c1) (.string (zao 421)));have OX:=hid (zP OX.out HQ.out.2.2.1 (fun k hk=>by rcases hk with h|h<;>omega));obtain ⟨HB9,H49,H59⟩:=HQ.out.2.2.2;clear HQ HB H4 H5;have HB:=hid HB9;have H4:=hid H49;have H5:=hid H59;clear HB9 H49 H59;generalize (zal wy3 (w.heap.size+1+1+1) (.int .i64 421) (.string ⟨#[]⟩) (.slice A1 [ctF].length c1) (.string (zao 421)))=wn3 at *;refine hK.out _ _ (.inr HB.out) (fun _=>nm ?_);clear hK K;refine zc 4 (h:=fun K hK=>?_)
   (try go_simp)
   refine hK.out _ _ (.inl (by rfl)) (fun _=>nm ?_);clear hK K;refine zy (by kernel_rfl) ?_ _;have HW:=hid (zt HB.out (fun k h=>by rcases h with h|h<;>omega) (z8 w _ _));obtain ⟨a0,a1,a2,a3,a4,a5,a6⟩:=H4.out;obtain ⟨x0,x1,x2,x3⟩:=H5.out;have HO9:=hid (zn (b':=w.heap.size) OX.out (by omega));clear HB H4 H5 OX hHeld
   go_wp2
   exact bodyPost_ret (v:=.tuple #[rqV r FA fc TA tc,rsV ⟨421,⟨#[]⟩,[ctF],zao 421⟩ A1 c1,.bool true]) (by simp[results,Tryz.results30,go_sem,rqV,rsV,a0,a1,a2,a3,a4,a5,a6,x0,x1,x2,x3]) rfl (by rw[HSR.out];exact ⟨A1,c1,rfl,HO9.out,HW.out⟩)
  ·have HSR:=hid (show zx m r= .inl r by rw[HA.out,show zej m r=zb5 m.list h from HHI.out,hi];rfl)
   have HIH:=hid (HIN.out h);rw[hi] at HIH;clear hi;unfold zL rqV at *
   go_enter Tryz.func30,Tryz.ntmps30
   go_wp2_with fail
   rw[zem];refine HCK.out.mono ?_;rintro e w1 ⟨rfl,b1⟩;rw[show zaq true=0 from rfl];have HK1:=hid (show zb (fun _=>False) (A5 w (zf m A c) (zu r FA fc TA tc)) w1 from zb.of b1);clear b1 HCK;obtain ⟨m0,m1,m2,m3,m4⟩:=zaL HK1.out (fun h=>h);obtain ⟨a0,a1,a2,a3,a4,a5,a6⟩:=zac HK1.out (fun h=>h)
   go_wp2_with fail
   refine (HH.out _ (HXB.out.trans (HK1.out.below.mono HXB.out.size))).mono ?_;rintro e w2 ⟨hh,bb,rfl,b2,hres⟩;have HK2:=hid (HK1.out.step b2);obtain ⟨rfl,rfl⟩:=hres;clear b2;clear m0 m1 m2 m3 m4;clear a0 a1 a2 a3 a4 a5 a6;obtain ⟨m0,m1,m2,m3,m4⟩:=zaL HK2.out (fun h=>h);obtain ⟨a0,a1,a2,a3,a4,a5,a6⟩:=zac HK2.out (fun h=>h)
   go_wp2_with fail
   refine (HIH.out _ (HXB.out.trans (HK2.out.below.mono HXB.out.size))).mono ?_;rintro e w3 ⟨rfl,rfl⟩;have HB:=hid (show zb (fun k=>k=w.heap.size+1+1∨k=w.heap.size+1+1+1) (A5 w (zf m A c) (zu r FA fc TA tc)) w2.drew from (HK2.out.wider (fun _ _ h=>h.elim)).drew);have H4:=hid (zcK (HK2.out.drew) (fun h=>h));have H5:=hid (zcJ (HK2.out.drew) (fun h=>h))
   go_wp2_with fail
   clear m0 m1 m2 m3 m4;clear a0 a1 a2 a3 a4 a5 a6;refine zO (t:=4) (S:=fun W=>zb (fun k=>k=w.heap.size+1+1∨k=w.heap.size+1+1+1) (A5 w (zf m A c) (zu r FA fc TA tc)) W) (by kernel_rfl) HB.out (fun hHeld=>?_);generalize w2.drew=wr0 at *;refine za 0 (y:=fun w hSw=>by (try dsimp only at hSw);obtain ⟨a0,a1,a2,a3,a4,a5,a6⟩:=zac hSw (fun h=>by rcases h with h|h<;>omega);exact yl) (s:=hHeld) (h:=?_);refine za 1 (y:=fun w hSw=>by (try dsimp only at hSw);obtain ⟨y0,y1,y2,y3⟩:=zge hSw (fun h=>by rcases h with h|h<;>omega);exact yl) (s:=hHeld) (h:=?_);have HQ:=hid (zbG (r:=r) (FA:=FA) (fc:=fc) (TA:=TA) (tc:=tc) HB.out H4.out H5.out (.inl rfl) (.inr rfl) (by omega) (by have h:=HB.out.size;rw[HS0.out] at h;omega) (by have h:=HB.out.size;rw[HS0.out] at h;omega) (.int .i64 0) (.string ⟨#[]⟩) (.slice none 0 0) (.string ⟨#[]⟩));refine zc 2 (h:=fun K hK=>?_);obtain ⟨⟨p0,p1,p2,p3,p4,p5,p6⟩,z0,z1,z2,z3,z4,z5,z6⟩:=H4.out
   go_simp
   clear p0 p1 p2 p3 p4 p5 p6 z0 z1 z2 z3 z4 z5 z6;show K _ (rqP wr0 (w.heap.size+1+1) r FA fc TA tc);generalize (rqP wr0 (w.heap.size+1+1) r FA fc TA tc)=wy1 at *;refine hK.out _ _ (.inr HQ.out.1) (fun _=>nm ?_);clear hK K;refine zc 3 (h:=fun K hK=>?_);obtain ⟨⟨p0,p1,p2,p3⟩,z0,z1,z2,z3⟩:=HQ.out.2.1
   go_simp
   clear p0 p1 p2 p3 z0 z1 z2 z3;show K _ (zal wy1 (w.heap.size+1+1+1) (.int .i64 0) (.string ⟨#[]⟩) (.slice none 0 0) (.string ⟨#[]⟩));obtain ⟨HB9,H49,H59⟩:=HQ.out.2.2.2;clear HQ HB H4 H5;have HB:=hid HB9;have H4:=hid H49;have H5:=hid H59;clear HB9 H49 H59;generalize (zal wy1 (w.heap.size+1+1+1) (.int .i64 0) (.string ⟨#[]⟩) (.slice none 0 0) (.string ⟨#[]⟩))=wn1 at *;refine hK.out _ _ (.inr HB.out) (fun _=>nm ?_);clear hK K;refine zc 4 (h:=fun K hK=>?_)
   (try go_simp)
   refine hK.out _ _ (.inl (by rfl)) (fun _=>nm ?_);clear hK K;refine zy (by kernel_rfl) ?_ _;have HW:=hid (zt HB.out (fun k h=>by rcases h with h|h<;>omega) (z8 w _ _));obtain ⟨a0,a1,a2,a3,a4,a5,a6⟩:=H4.out;obtain ⟨x0,x1,x2,x3⟩:=H5.out;clear HB H4 H5 hHeld
   go_wp2
   exact bodyPost_ret (v:=.tuple #[rqV r FA fc TA tc,rsZ,.bool false]) (by simp[results,Tryz.results30,go_sem,rqV,rsZ,a0,a1,a2,a3,a4,a5,a6,x0,x1,x2,x3]) rfl (by first|(rw[HSR.out];exact ⟨rfl,HW.out⟩)|exact ⟨rfl,HW.out⟩)
set_option maxRecDepth 20000 in
set_option maxHeartbeats 8000000 in
theorem zu2 (m:zY) (A:Option Addr) (c:Nat) (r:Rq) (FA:Option Addr) (fc:Nat) (TA:Option Addr) (tc:Nat) (w:World) (hcm:zr m=true) (hk:m.kind=6) (hs:zgs w m A c r FA):
  Calls Tryz.prog 30 #[zL m A c,rqV r FA fc TA tc] w (zcR FA fc TA tc w r (zx m r)):=by
 have HCK:=hid (za8 m A c (A5 w (zf m A c) (zu r FA fc TA tc)) (hs.list.below (z8 w _ _)) hs.cap hs.mid);rw[hcm] at HCK;have HXB:=hid (z8 w (zf m A c) (zu r FA fc TA tc));have HS0:=hid (zfe w (zf m A c) (zu r FA fc TA tc));have q4:(m.kind==4)=false:=by rw[hk];rfl
 have q5:(m.kind==5)=false:=by rw[hk];rfl
 have q6:(m.kind==6)=true:=by rw[hk];rfl
 have q7:(m.kind==7)=false:=by rw[hk];rfl
 have q10:(m.kind==10)=false:=by rw[hk];rfl
 have q8:(m.kind==8)=false:=by rw[hk];rfl
 have hv:zaZ m.value=true:=by
  have h:=hcm;unfold zr at h;rw[Bool.and_eq_true,Bool.and_eq_true] at h;rw[←zrs hk];exact h.2.2
 have HA:=hid (show zx m r=zhN m r by rw[zsa hv];unfold zx;rw[if_neg (by omega),if_neg (by omega),if_pos hk]);have HST:=hid (fun W=>zqb m A c r FA fc TA tc W hs.req hs.mid);unfold zL at HST;clear hcm hk hs hv;rw[HA.out];clear HA
 cases hso:zhN m r with
 |inl q=>
  rw[hso] at HST;unfold zcR at *;clear hso;unfold zL rqV at *
  go_enter Tryz.func30,Tryz.ntmps30
  go_wp2_with fail
  rw[zem];refine HCK.out.mono ?_;rintro e w1 ⟨rfl,b1⟩;rw[show zaq true=0 from rfl];have HK1:=hid (show zb (fun _=>False) (A5 w (zf m A c) (zu r FA fc TA tc)) w1 from zb.of b1);clear b1 HCK;obtain ⟨m0,m1,m2,m3,m4⟩:=zaL HK1.out (fun h=>h);obtain ⟨a0,a1,a2,a3,a4,a5,a6⟩:=zac HK1.out (fun h=>h)
  go_wp2_with fail
  refine (HST.out _).mono ?_;rintro e w2 ⟨rfl,b2⟩;have HK2:=hid (HK1.out.step b2);have HBW:=hid (HXB.out.trans (HK2.out.below.mono HXB.out.size));have H4:=hid (zcK HK2.out (fun h=>h));have H5:=hid (zcJ HK2.out (fun h=>h));clear b2;clear m0 m1 m2 m3 m4;clear a0 a1 a2 a3 a4 a5 a6;unfold rsZ;obtain ⟨⟨p0,p1,p2,p3,p4,p5,p6⟩,z0,z1,z2,z3,z4,z5,z6⟩:=H4.out;obtain ⟨⟨x0,x1,x2,x3⟩,y0,y1,y2,y3⟩:=H5.out;have HWF:=hid (zt ((zbA (E:=fun k=>w.heap.size≤k) w2 (show w.heap.size≤w.heap.size+1+1 by omega) (.string q.method) (.string q.target) (.int .i64 q.major) (.int .i64 q.minor) (.slice FA q.fields.length fc) (.string q.body) (.slice TA q.trailers.length tc)).trans (z7 (E:=fun k=>w.heap.size≤k) _ (show w.heap.size≤w.heap.size+1+1+1 by omega) (.int .i64 0) (.string ⟨#[]⟩) (.slice none 0 0) (.string ⟨#[]⟩))) (fun k h=>h) HBW.out);clear H4 H5 HBW
  go_wp2
  exact bodyPost_ret (v:=.tuple #[rqV q FA fc TA tc,rsZ,.bool false]) (by simp[results,Tryz.results30,go_sem,rqV,rsZ,p0,p1,p2,p3,p4,p5,p6,x0,x1,x2,x3]) rfl ⟨rfl,HWF.out⟩
 |inr x=>
  rw[hso] at HST;unfold zcR at *;clear hso;unfold zL rqV at *
  go_enter Tryz.func30,Tryz.ntmps30
  go_wp2_with fail
  rw[zem];refine HCK.out.mono ?_;rintro e w1 ⟨rfl,b1⟩;rw[show zaq true=0 from rfl];have HK1:=hid (show zb (fun _=>False) (A5 w (zf m A c) (zu r FA fc TA tc)) w1 from zb.of b1);clear b1 HCK;obtain ⟨m0,m1,m2,m3,m4⟩:=zaL HK1.out (fun h=>h);obtain ⟨a0,a1,a2,a3,a4,a5,a6⟩:=zac HK1.out (fun h=>h)
  go_wp2_with fail
  refine (HST.out _).mono ?_;rintro e w2 ⟨A1,c1,rfl,ho,b2⟩;have HK2:=hid (HK1.out.step b2);have HBW:=hid (HXB.out.trans (HK2.out.below.mono HXB.out.size));have H4:=hid (zcK HK2.out (fun h=>h));have H5:=hid (zcJ HK2.out (fun h=>h));have hz1:w.heap.size+5≤w1.heap.size:=by have h:=HK1.out.size;rw[HS0.out] at h;exact h
  have HO:=hid ho;clear b2 ho;clear m0 m1 m2 m3 m4;clear a0 a1 a2 a3 a4 a5 a6;unfold rsV;obtain ⟨⟨p0,p1,p2,p3,p4,p5,p6⟩,z0,z1,z2,z3,z4,z5,z6⟩:=H4.out;obtain ⟨⟨x0,x1,x2,x3⟩,y0,y1,y2,y3⟩:=H5.out;have HWF:=hid (zt ((zbA (E:=fun k=>w.heap.size≤k) w2 (show w.heap.size≤w.heap.size+1+1 by omega) (.string r.method) (.string r.target) (.int .i64 r.major) (.int .i64 r.minor) (.slice FA r.fields.length fc) (.string r.body) (.slice TA r.trailers.length tc)).trans (z7 (E:=fun k=>w.heap.size≤k) _ (show w.heap.size≤w.heap.size+1+1+1 by omega) (.int .i64 x.status) (.string x.reason) (.slice A1 x.fields.length c1) (.string x.body))) (fun k h=>h) HBW.out);have HO9:=hid (zn (b':=w.heap.size) (zP HO.out ((zbA (E:=fun k=>k<w.heap.size+5) w2 (show w.heap.size+1+1<w.heap.size+5 by omega) (.string r.method) (.string r.target) (.int .i64 r.major) (.int .i64 r.minor) (.slice FA r.fields.length fc) (.string r.body) (.slice TA r.trailers.length tc)).trans (z7 (E:=fun k=>k<w.heap.size+5) _ (show w.heap.size+1+1+1<w.heap.size+5 by omega) (.int .i64 x.status) (.string x.reason) (.slice A1 x.fields.length c1) (.string x.body))) (fun k hk=>by omega)) (by omega));clear H4 H5 HBW HO
  go_wp2
  exact bodyPost_ret (v:=.tuple #[rqV r FA fc TA tc,rsV x A1 c1,.bool true]) (by simp[results,Tryz.results30,go_sem,rqV,rsV,p0,p1,p2,p3,p4,p5,p6,x0,x1,x2,x3]) rfl ⟨A1,c1,rfl,HO9.out,HWF.out⟩
set_option maxRecDepth 20000 in
set_option maxHeartbeats 8000000 in
theorem zvW (m:zY) (A:Option Addr) (c:Nat) (r:Rq) (FA:Option Addr) (fc:Nat) (TA:Option Addr) (tc:Nat) (w:World) (hcm:zr m=true) (hk:m.kind=4) (hs:zgs w m A c r FA):
  Calls Tryz.prog 30 #[zL m A c,rqV r FA fc TA tc] w (zcR FA fc TA tc w r (zx m r)):=by
 have HCK:=hid (za8 m A c (A5 w (zf m A c) (zu r FA fc TA tc)) (hs.list.below (z8 w _ _)) hs.cap hs.mid);rw[hcm] at HCK;have HXB:=hid (z8 w (zf m A c) (zu r FA fc TA tc));have HS0:=hid (zfe w (zf m A c) (zu r FA fc TA tc));have q4:(m.kind==4)=true:=by rw[hk];rfl
 have q5:(m.kind==5)=false:=by rw[hk];rfl
 have q6:(m.kind==6)=false:=by rw[hk];rfl
 have q7:(m.kind==7)=false:=by rw[hk];rfl
 have q10:(m.kind==10)=false:=by rw[hk];rfl
 have q8:(m.kind==8)=false:=by rw[hk];rfl
 have HPL:=hid (fun B d W (h:Row W B (zj [(zcA,zaw m.list)]))=>zdT 405 B d [(zcA,zaw m.list)] W h (by simp) (by decide) (by decide) (zfS 405));have HJ:=hid (fun W (h:Row W A (m.list.map .string))=>zmO A c m.list W h (by have h:=hs.mid.list;have h2:=(zdi hs.mid).1;have h3:=zty m.list;omega));have HAR:=hid (fun (W:World) (h:Below w.heap.size w W)=>hs.list.below h);have HA:=hid (show zx m r=if zb5 m.list r.method=true then .inl r else .inr (zT 405 [(zcA,zaw m.list)]) by unfold zx;rw[if_pos hk]);have HIN:=hid (fun (W:World) (h:Below w.heap.size w W)=>zhi A c m.list r.method W (hs.list.below h) (by have h:=(zdi hs.mid).1;omega));unfold zcA at HPL;clear hcm hk hs
 cases hi:zb5 m.list r.method
 ·have HSR:=hid (show zx m r= .inr ⟨405,⟨#[]⟩,ctF::[(zcA,zaw m.list)],zao 405⟩ by rw[HA.out,hi];rfl)
  rw[hi] at HIN;clear hi HA;generalize zaw m.list=jl at *;unfold zL rqV at *
  go_enter Tryz.func30,Tryz.ntmps30
  go_wp2_with fail
  rw[zem];refine HCK.out.mono ?_;rintro e w1 ⟨rfl,b1⟩;rw[show zaq true=0 from rfl];have HK1:=hid (show zb (fun _=>False) (A5 w (zf m A c) (zu r FA fc TA tc)) w1 from zb.of b1);clear b1 HCK;obtain ⟨m0,m1,m2,m3,m4⟩:=zaL HK1.out (fun h=>h);obtain ⟨a0,a1,a2,a3,a4,a5,a6⟩:=zac HK1.out (fun h=>h)
  go_wp2_with fail
  refine (HIN.out _ (HXB.out.trans (HK1.out.below.mono HXB.out.size))).mono ?_;rintro e w3 ⟨rfl,rfl⟩;have HB:=hid (show zb (fun k=>k=w.heap.size+1+1∨k=w.heap.size+1+1+1) (A5 w (zf m A c) (zu r FA fc TA tc)) w1.drew from (HK1.out.wider (fun _ _ h=>h.elim)).drew);have H4:=hid (zcK (HK1.out.drew) (fun h=>h));have H5:=hid (zcJ (HK1.out.drew) (fun h=>h))
  go_wp2_with fail
  clear m0 m1 m2 m3 m4;clear a0 a1 a2 a3 a4 a5 a6;refine zO (t:=9) (S:=fun W=>zb (fun k=>k=w.heap.size+1+1∨k=w.heap.size+1+1+1) (A5 w (zf m A c) (zu r FA fc TA tc)) W) (by kernel_rfl) HB.out (fun hHeld=>?_);generalize w1.drew=wr0 at *;refine za 0 (y:=fun w hSw=>by (try dsimp only at hSw);obtain ⟨a0,a1,a2,a3,a4,a5,a6⟩:=zac hSw (fun h=>by rcases h with h|h<;>omega);exact yl) (s:=hHeld) (h:=?_);refine za 1 (s:=hHeld) (h:=?_);refine za 2 (y:=fun w hSw=>by (try dsimp only at hSw);obtain ⟨m0,m1,m2,m3,m4⟩:=zaL hSw (fun h=>by rcases h with h|h<;>omega);exact yl) (s:=hHeld) (h:=?_);refine zc 3 (h:=fun K hK=>?_)
  (try rw[if_pos (by rfl)])
  go_simp
  go_at_call 42
  refine (HJ.out _ (HAR.out _ (zt HB.out (fun k h=>by rcases h with h|h<;>omega) HXB.out))).mono ?_;rintro e wn2 ⟨rfl,hb⟩;have HB9:=hid (HB.out.step hb);have H4:=hid (H4.out.keep (zb.of (D:=fun _=>False) hb) (by have h:=HB.out.size;rw[HS0.out] at h;omega) (fun h=>h));have H5:=hid (H5.out.keep (zb.of (D:=fun _=>False) hb) (by have h:=HB.out.size;rw[HS0.out] at h;omega) (fun h=>h));clear HB;have HB:=HB9;clear HB9;clear hb
  (try go_wp2_with fail)
  refine hK.out _ _ (.inr HB.out) (fun _=>nm ?_);clear hK K;refine za 4 (s:=HB.out) (h:=?_);refine zc 5 (h:=fun K hK=>?_)
  go_simp
  have hb:Below wn2.heap.size wn2 (wn2.alloc (.cells #[.string (⟨#[65,108,108,111,119]⟩),.string (jl)] 69)):=(Below.refl _ _).alloc (Nat.le_refl _) _;have OL:=hid (World.ownsRow_lit (base:=wn2.heap.size) (e:=69) (size:=2) wn2 #[.string (⟨#[65,108,108,111,119]⟩),.string (jl)] 1 (Nat.le_refl _) (by unfold maxLen;omega) rfl);show K _ (wn2.alloc (.cells #[.string (⟨#[65,108,108,111,119]⟩),.string (jl)] 69));have HB9:=hid (HB.out.step hb);have H4:=hid (H4.out.keep (zb.of (D:=fun _=>False) hb) (by have h:=HB.out.size;rw[HS0.out] at h;omega) (fun h=>h));have H5:=hid (H5.out.keep (zb.of (D:=fun _=>False) hb) (by have h:=HB.out.size;rw[HS0.out] at h;omega) (fun h=>h));clear HB;have HB:=HB9;clear HB9;clear hb;generalize wn2.alloc (.cells #[.string (⟨#[65,108,108,111,119]⟩),.string (jl)] 69)=wn4 at *;refine hK.out _ _ (.inr HB.out) (fun _=>nm ?_);clear hK K;refine zc 6 (h:=fun K hK=>?_)
  (try rw[if_pos (by rfl)])
  go_simp
  go_at_call 13
  refine (HPL.out _ _ _ (zak OL.out)).mono ?_;rintro e wn6 ⟨A1,c1,rfl,ho,hb⟩;have HZ:=hid (show w.heap.size+5≤wn4.heap.size by have h:=HB.out.size;rw[HS0.out] at h;exact h);have OX:=hid (zn ho HZ.out);have HB9:=hid (HB.out.step hb);have H4:=hid (H4.out.keep (zb.of (D:=fun _=>False) hb) (by have h:=HB.out.size;rw[HS0.out] at h;omega) (fun h=>h));have H5:=hid (H5.out.keep (zb.of (D:=fun _=>False) hb) (by have h:=HB.out.size;rw[HS0.out] at h;omega) (fun h=>h));clear HB;have HB:=HB9;clear HB9;clear ho hb OL
  (try go_wp2_with fail)
  refine hK.out _ _ (.inr HB.out) (fun _=>nm ?_);clear hK K;have HQ:=hid (zbG (r:=r) (FA:=FA) (fc:=fc) (TA:=TA) (tc:=tc) HB.out H4.out H5.out (.inl rfl) (.inr rfl) (by omega) (by have h:=HB.out.size;rw[HS0.out] at h;omega) (by have h:=HB.out.size;rw[HS0.out] at h;omega) (.int .i64 405) (.string ⟨#[]⟩) (.slice A1 (ctF::[((⟨#[65,108,108,111,119]⟩:ByteArray),jl)]).length c1) (.string (zao 405)));refine zc 7 (h:=fun K hK=>?_);obtain ⟨⟨p0,p1,p2,p3,p4,p5,p6⟩,z0,z1,z2,z3,z4,z5,z6⟩:=H4.out
  go_simp
  clear p0 p1 p2 p3 p4 p5 p6 z0 z1 z2 z3 z4 z5 z6;show K _ (rqP wn6 (w.heap.size+1+1) r FA fc TA tc);generalize (rqP wn6 (w.heap.size+1+1) r FA fc TA tc)=wy7 at *;refine hK.out _ _ (.inr HQ.out.1) (fun _=>nm ?_);clear hK K;refine zc 8 (h:=fun K hK=>?_);obtain ⟨⟨p0,p1,p2,p3⟩,z0,z1,z2,z3⟩:=HQ.out.2.1
  go_simp
  clear p0 p1 p2 p3 z0 z1 z2 z3;show K _ (zal wy7 (w.heap.size+1+1+1) (.int .i64 405) (.string ⟨#[]⟩) (.slice A1 (ctF::[((⟨#[65,108,108,111,119]⟩:ByteArray),jl)]).length c1) (.string (zao 405)));have OX:=hid (zP OX.out HQ.out.2.2.1 (fun k hk=>by rcases hk with h|h<;>omega));obtain ⟨HB9,H49,H59⟩:=HQ.out.2.2.2;clear HQ HB H4 H5;have HB:=hid HB9;have H4:=hid H49;have H5:=hid H59;clear HB9 H49 H59;generalize (zal wy7 (w.heap.size+1+1+1) (.int .i64 405) (.string ⟨#[]⟩) (.slice A1 (ctF::[((⟨#[65,108,108,111,119]⟩:ByteArray),jl)]).length c1) (.string (zao 405)))=wn7 at *;refine hK.out _ _ (.inr HB.out) (fun _=>nm ?_);clear hK K;refine zc 9 (h:=fun K hK=>?_)
  (try go_simp)
  refine hK.out _ _ (.inl (by rfl)) (fun _=>nm ?_);clear hK K;refine zy (by kernel_rfl) ?_ _;have HW:=hid (zt HB.out (fun k h=>by rcases h with h|h<;>omega) (z8 w _ _));obtain ⟨a0,a1,a2,a3,a4,a5,a6⟩:=H4.out;obtain ⟨x0,x1,x2,x3⟩:=H5.out;have HO9:=hid (zn (b':=w.heap.size) OX.out (by omega));clear HB H4 H5 OX hHeld
  go_wp2
  exact bodyPost_ret (v:=.tuple #[rqV r FA fc TA tc,rsV ⟨405,⟨#[]⟩,ctF::[(zcA,jl)],zao 405⟩ A1 c1,.bool true]) (by simp[results,Tryz.results30,go_sem,rqV,rsV,a0,a1,a2,a3,a4,a5,a6,x0,x1,x2,x3]) rfl (by rw[HSR.out];exact ⟨A1,c1,rfl,HO9.out,HW.out⟩)
 ·have HSR:=hid (show zx m r= .inl r by rw[HA.out,hi];rfl)
  rw[hi] at HIN;clear hi HA;unfold zL rqV at *
  go_enter Tryz.func30,Tryz.ntmps30
  go_wp2_with fail
  rw[zem];refine HCK.out.mono ?_;rintro e w1 ⟨rfl,b1⟩;rw[show zaq true=0 from rfl];have HK1:=hid (show zb (fun _=>False) (A5 w (zf m A c) (zu r FA fc TA tc)) w1 from zb.of b1);clear b1 HCK;obtain ⟨m0,m1,m2,m3,m4⟩:=zaL HK1.out (fun h=>h);obtain ⟨a0,a1,a2,a3,a4,a5,a6⟩:=zac HK1.out (fun h=>h)
  go_wp2_with fail
  refine (HIN.out _ (HXB.out.trans (HK1.out.below.mono HXB.out.size))).mono ?_;rintro e w3 ⟨rfl,rfl⟩;have HB:=hid (show zb (fun k=>k=w.heap.size+1+1∨k=w.heap.size+1+1+1) (A5 w (zf m A c) (zu r FA fc TA tc)) w1.drew from (HK1.out.wider (fun _ _ h=>h.elim)).drew);have H4:=hid (zcK (HK1.out.drew) (fun h=>h));have H5:=hid (zcJ (HK1.out.drew) (fun h=>h))
  go_wp2_with fail
  clear m0 m1 m2 m3 m4;clear a0 a1 a2 a3 a4 a5 a6;refine zO (t:=4) (S:=fun W=>zb (fun k=>k=w.heap.size+1+1∨k=w.heap.size+1+1+1) (A5 w (zf m A c) (zu r FA fc TA tc)) W) (by kernel_rfl) HB.out (fun hHeld=>?_);generalize w1.drew=wr0 at *;refine za 0 (y:=fun w hSw=>by (try dsimp only at hSw);obtain ⟨a0,a1,a2,a3,a4,a5,a6⟩:=zac hSw (fun h=>by rcases h with h|h<;>omega);exact yl) (s:=hHeld) (h:=?_);refine za 1 (y:=fun w hSw=>by (try dsimp only at hSw);obtain ⟨y0,y1,y2,y3⟩:=zge hSw (fun h=>by rcases h with h|h<;>omega);exact yl) (s:=hHeld) (h:=?_);have HQ:=hid (zbG (r:=r) (FA:=FA) (fc:=fc) (TA:=TA) (tc:=tc) HB.out H4.out H5.out (.inl rfl) (.inr rfl) (by omega) (by have h:=HB.out.size;rw[HS0.out] at h;omega) (by have h:=HB.out.size;rw[HS0.out] at h;omega) (.int .i64 0) (.string ⟨#[]⟩) (.slice none 0 0) (.string ⟨#[]⟩));refine zc 2 (h:=fun K hK=>?_);obtain ⟨⟨p0,p1,p2,p3,p4,p5,p6⟩,z0,z1,z2,z3,z4,z5,z6⟩:=H4.out
  go_simp
  clear p0 p1 p2 p3 p4 p5 p6 z0 z1 z2 z3 z4 z5 z6;show K _ (rqP wr0 (w.heap.size+1+1) r FA fc TA tc);generalize (rqP wr0 (w.heap.size+1+1) r FA fc TA tc)=wy1 at *;refine hK.out _ _ (.inr HQ.out.1) (fun _=>nm ?_);clear hK K;refine zc 3 (h:=fun K hK=>?_);obtain ⟨⟨p0,p1,p2,p3⟩,z0,z1,z2,z3⟩:=HQ.out.2.1
  go_simp
  clear p0 p1 p2 p3 z0 z1 z2 z3;show K _ (zal wy1 (w.heap.size+1+1+1) (.int .i64 0) (.string ⟨#[]⟩) (.slice none 0 0) (.string ⟨#[]⟩));obtain ⟨HB9,H49,H59⟩:=HQ.out.2.2.2;clear HQ HB H4 H5;have HB:=hid HB9;have H4:=hid H49;have H5:=hid H59;clear HB9 H49 H59;generalize (zal wy1 (w.heap.size+1+1+1) (.int .i64 0) (.string ⟨#[]⟩) (.slice none 0 0) (.string ⟨#[]⟩))=wn1 at *;refine hK.out _ _ (.inr HB.out) (fun _=>nm ?_);clear hK K;refine zc 4 (h:=fun K hK=>?_)
  (try go_simp)
  refine hK.out _ _ (.inl (by rfl)) (fun _=>nm ?_);clear hK K;refine zy (by kernel_rfl) ?_ _;have HW:=hid (zt HB.out (fun k h=>by rcases h with h|h<;>omega) (z8 w _ _));obtain ⟨a0,a1,a2,a3,a4,a5,a6⟩:=H4.out;obtain ⟨x0,x1,x2,x3⟩:=H5.out;clear HB H4 H5 hHeld
  go_wp2
  exact bodyPost_ret (v:=.tuple #[rqV r FA fc TA tc,rsZ,.bool false]) (by simp[results,Tryz.results30,go_sem,rqV,rsZ,a0,a1,a2,a3,a4,a5,a6,x0,x1,x2,x3]) rfl (by first|(rw[HSR.out];exact ⟨rfl,HW.out⟩)|exact ⟨rfl,HW.out⟩)
set_option maxRecDepth 20000 in
set_option maxHeartbeats 8000000 in
theorem zvL (m:zY) (A:Option Addr) (c:Nat) (r:Rq) (FA:Option Addr) (fc:Nat) (TA:Option Addr) (tc:Nat) (w:World) (hcm:zr m=true) (hk:m.kind=7) (hs:zgs w m A c r FA):
  Calls Tryz.prog 30 #[zL m A c,rqV r FA fc TA tc] w (zcR FA fc TA tc w r (zx m r)):=by
 have HCK:=hid (za8 m A c (A5 w (zf m A c) (zu r FA fc TA tc)) (hs.list.below (z8 w _ _)) hs.cap hs.mid);rw[hcm] at HCK;have HXB:=hid (z8 w (zf m A c) (zu r FA fc TA tc));have HS0:=hid (zfe w (zf m A c) (zu r FA fc TA tc));have q4:(m.kind==4)=false:=by rw[hk];rfl
 have q5:(m.kind==5)=false:=by rw[hk];rfl
 have q6:(m.kind==6)=false:=by rw[hk];rfl
 have q7:(m.kind==7)=true:=by rw[hk];rfl
 have q10:(m.kind==10)=false:=by rw[hk];rfl
 have q8:(m.kind==8)=false:=by rw[hk];rfl
 have hv:zcb m.name=true:=by
  have h:=hcm;unfold zr at h;rw[Bool.and_eq_true,Bool.and_eq_true,zry hk,Bool.and_eq_true] at h;exact h.2.2.1
 have HQT:=hid (fun W=>zqS m.name W hv (by have:=hs.mid.name;omega));have hqz:(zcM m.name).size≤4194304:=by have:=zgC m.name;have:=hs.mid.name;omega
 have HLT:=hid (fun W (h:Below w.heap.size w W)=>ztf m A c r FA fc TA tc W (hs.list.below h) (hs.fields.below h) hs.req hs.mid);have HPL:=hid (fun v B d W (h:Row W B (zj [(zbw,v)]))=>zdT 401 B d [(zbw,v)] W h (by simp) (by decide) (by decide) (zfS 401));have HA:=hid (show zx m r=if zie m r=true then .inl r else .inr (zT 401 [(zbw,zM++zcM m.name++zN)]) from zuL hk);unfold zL at HLT;unfold zbw at HPL;clear hcm hk hs hv
 cases hi:zie m r
 ·have HSR:=hid (show zx m r= .inr ⟨401,⟨#[]⟩,ctF::[(zbw,zM++zcM m.name++zN)],zao 401⟩ by rw[HA.out,hi];rfl)
  rw[hi] at HLT;clear hi HA;unfold zM zN at HSR;generalize zcM m.name=qt at *;have hs1:¬9223372036854775807<12+qt.size:=by omega
  have hs2:¬9223372036854775807<12+qt.size+17:=by omega
  unfold zL rqV at *
  go_enter Tryz.func30,Tryz.ntmps30
  go_wp2_with fail
  rw[zem];refine HCK.out.mono ?_;rintro e w1 ⟨rfl,b1⟩;rw[show zaq true=0 from rfl];have HK1:=hid (show zb (fun _=>False) (A5 w (zf m A c) (zu r FA fc TA tc)) w1 from zb.of b1);clear b1 HCK;obtain ⟨m0,m1,m2,m3,m4⟩:=zaL HK1.out (fun h=>h);obtain ⟨a0,a1,a2,a3,a4,a5,a6⟩:=zac HK1.out (fun h=>h)
  go_wp2_with fail
  refine (HLT.out _ (HXB.out.trans (HK1.out.below.mono HXB.out.size))).mono ?_;rintro e w2 ⟨rfl,b2⟩;have HK2:=hid (HK1.out.step b2);clear b2;clear m0 m1 m2 m3 m4;clear a0 a1 a2 a3 a4 a5 a6;obtain ⟨m0,m1,m2,m3,m4⟩:=zaL HK2.out (fun h=>h);obtain ⟨a0,a1,a2,a3,a4,a5,a6⟩:=zac HK2.out (fun h=>h)
  go_wp2_with fail
  refine (HQT.out _).mono ?_;rintro e w3 ⟨rfl,b3⟩;have HK3:=hid (HK2.out.step b3);clear b3;clear m0 m1 m2 m3 m4;clear a0 a1 a2 a3 a4 a5 a6;have HB:=hid (show zb (fun k=>k=w.heap.size+1+1∨k=w.heap.size+1+1+1) (A5 w (zf m A c) (zu r FA fc TA tc)) w3.drew from (HK3.out.wider (fun _ _ h=>h.elim)).drew);have H4:=hid (zcK (HK3.out.drew) (fun h=>h));have H5:=hid (zcJ (HK3.out.drew) (fun h=>h))
  go_wp2_with fail
  refine zO (t:=9) (S:=fun W=>zb (fun k=>k=w.heap.size+1+1∨k=w.heap.size+1+1+1) (A5 w (zf m A c) (zu r FA fc TA tc)) W) (by kernel_rfl) HB.out (fun hHeld=>?_);generalize w3.drew=wr0 at *;refine za 0 (y:=fun w hSw=>by (try dsimp only at hSw);obtain ⟨a0,a1,a2,a3,a4,a5,a6⟩:=zac hSw (fun h=>by rcases h with h|h<;>omega);exact yl) (s:=hHeld) (h:=?_);refine za 1 (s:=hHeld) (h:=?_);refine za 2 (s:=hHeld) (h:=?_);refine za 3 (s:=hHeld) (h:=?_);refine za 4 (s:=hHeld) (h:=?_);refine zc 5 (h:=fun K hK=>?_)
  go_simp
  have hb:Below wr0.heap.size wr0 (wr0.alloc (.cells #[.string (⟨#[87,87,87,45,65,117,116,104,101,110,116,105,99,97,116,101]⟩),.string ((⟨#[66,97,115,105,99,32,114,101,97,108,109,61]⟩:ByteArray)++qt++(⟨#[44,32,99,104,97,114,115,101,116,61,34,85,84,70,45,56,34]⟩:ByteArray))] 69)):=(Below.refl _ _).alloc (Nat.le_refl _) _;have OL:=hid (World.ownsRow_lit (base:=wr0.heap.size) (e:=69) (size:=2) wr0 #[.string (⟨#[87,87,87,45,65,117,116,104,101,110,116,105,99,97,116,101]⟩),.string ((⟨#[66,97,115,105,99,32,114,101,97,108,109,61]⟩:ByteArray)++qt++(⟨#[44,32,99,104,97,114,115,101,116,61,34,85,84,70,45,56,34]⟩:ByteArray))] 1 (Nat.le_refl _) (by unfold maxLen;omega) rfl);show K _ (wr0.alloc (.cells #[.string (⟨#[87,87,87,45,65,117,116,104,101,110,116,105,99,97,116,101]⟩),.string ((⟨#[66,97,115,105,99,32,114,101,97,108,109,61]⟩:ByteArray)++qt++(⟨#[44,32,99,104,97,114,115,101,116,61,34,85,84,70,45,56,34]⟩:ByteArray))] 69));have HB9:=hid (HB.out.step hb);have H4:=hid (H4.out.keep (zb.of (D:=fun _=>False) hb) (by have h:=HB.out.size;rw[HS0.out] at h;omega) (fun h=>h));have H5:=hid (H5.out.keep (zb.of (D:=fun _=>False) hb) (by have h:=HB.out.size;rw[HS0.out] at h;omega) (fun h=>h));clear HB;have HB:=HB9;clear HB9;clear hb;generalize wr0.alloc (.cells #[.string (⟨#[87,87,87,45,65,117,116,104,101,110,116,105,99,97,116,101]⟩),.string ((⟨#[66,97,115,105,99,32,114,101,97,108,109,61]⟩:ByteArray)++qt++(⟨#[44,32,99,104,97,114,115,101,116,61,34,85,84,70,45,56,34]⟩:ByteArray))] 69)=wn2 at *;refine hK.out _ _ (.inr HB.out) (fun _=>nm ?_);clear hK K;refine zc 6 (h:=fun K hK=>?_)
  (try rw[if_pos (by rfl)])
  go_simp
  go_at_call 13
  refine (HPL.out _ _ _ _ (zak OL.out)).mono ?_;rintro e wn4 ⟨A1,c1,rfl,ho,hb⟩;have HZ:=hid (show w.heap.size+5≤wn2.heap.size by have h:=HB.out.size;rw[HS0.out] at h;exact h);have OX:=hid (zn ho HZ.out);have HB9:=hid (HB.out.step hb);have H4:=hid (H4.out.keep (zb.of (D:=fun _=>False) hb) (by have h:=HB.out.size;rw[HS0.out] at h;omega) (fun h=>h));have H5:=hid (H5.out.keep (zb.of (D:=fun _=>False) hb) (by have h:=HB.out.size;rw[HS0.out] at h;omega) (fun h=>h));clear HB;have HB:=HB9;clear HB9;clear ho hb OL
  (try go_wp2_with fail)
  refine hK.out _ _ (.inr HB.out) (fun _=>nm ?_);clear hK K;have HQ:=hid (zbG (r:=r) (FA:=FA) (fc:=fc) (TA:=TA) (tc:=tc) HB.out H4.out H5.out (.inl rfl) (.inr rfl) (by omega) (by have h:=HB.out.size;rw[HS0.out] at h;omega) (by have h:=HB.out.size;rw[HS0.out] at h;omega) (.int .i64 401) (.string ⟨#[]⟩) (.slice A1 (ctF::[((⟨#[87,87,87,45,65,117,116,104,101,110,116,105,99,97,116,101]⟩:ByteArray),(⟨#[66,97,115,105,99,32,114,101,97,108,109,61]⟩:ByteArray)++qt++(⟨#[44,32,99,104,97,114,115,101,116,61,34,85,84,70,45,56,34]⟩:ByteArray))]).length c1) (.string (zao 401)));refine zc 7 (h:=fun K hK=>?_);obtain ⟨⟨p0,p1,p2,p3,p4,p5,p6⟩,z0,z1,z2,z3,z4,z5,z6⟩:=H4.out
  go_simp
  clear p0 p1 p2 p3 p4 p5 p6 z0 z1 z2 z3 z4 z5 z6;show K _ (rqP wn4 (w.heap.size+1+1) r FA fc TA tc);generalize (rqP wn4 (w.heap.size+1+1) r FA fc TA tc)=wy5 at *;refine hK.out _ _ (.inr HQ.out.1) (fun _=>nm ?_);clear hK K;refine zc 8 (h:=fun K hK=>?_);obtain ⟨⟨p0,p1,p2,p3⟩,z0,z1,z2,z3⟩:=HQ.out.2.1
  go_simp
  clear p0 p1 p2 p3 z0 z1 z2 z3;show K _ (zal wy5 (w.heap.size+1+1+1) (.int .i64 401) (.string ⟨#[]⟩) (.slice A1 (ctF::[((⟨#[87,87,87,45,65,117,116,104,101,110,116,105,99,97,116,101]⟩:ByteArray),(⟨#[66,97,115,105,99,32,114,101,97,108,109,61]⟩:ByteArray)++qt++(⟨#[44,32,99,104,97,114,115,101,116,61,34,85,84,70,45,56,34]⟩:ByteArray))]).length c1) (.string (zao 401)));have OX:=hid (zP OX.out HQ.out.2.2.1 (fun k hk=>by rcases hk with h|h<;>omega));obtain ⟨HB9,H49,H59⟩:=HQ.out.2.2.2;clear HQ HB H4 H5;have HB:=hid HB9;have H4:=hid H49;have H5:=hid H59;clear HB9 H49 H59;generalize (zal wy5 (w.heap.size+1+1+1) (.int .i64 401) (.string ⟨#[]⟩) (.slice A1 (ctF::[((⟨#[87,87,87,45,65,117,116,104,101,110,116,105,99,97,116,101]⟩:ByteArray),(⟨#[66,97,115,105,99,32,114,101,97,108,109,61]⟩:ByteArray)++qt++(⟨#[44,32,99,104,97,114,115,101,116,61,34,85,84,70,45,56,34]⟩:ByteArray))]).length c1) (.string (zao 401)))=wn5 at *;refine hK.out _ _ (.inr HB.out) (fun _=>nm ?_);clear hK K;refine zc 9 (h:=fun K hK=>?_)
  (try go_simp)
  refine hK.out _ _ (.inl (by rfl)) (fun _=>nm ?_);clear hK K;refine zy (by kernel_rfl) ?_ _;have HW:=hid (zt HB.out (fun k h=>by rcases h with h|h<;>omega) (z8 w _ _));obtain ⟨a0,a1,a2,a3,a4,a5,a6⟩:=H4.out;obtain ⟨x0,x1,x2,x3⟩:=H5.out;have HO9:=hid (zn (b':=w.heap.size) OX.out (by omega));clear HB H4 H5 OX hHeld
  go_wp2
  exact bodyPost_ret (v:=.tuple #[rqV r FA fc TA tc,rsV ⟨401,⟨#[]⟩,ctF::[(⟨#[87,87,87,45,65,117,116,104,101,110,116,105,99,97,116,101]⟩,(⟨#[66,97,115,105,99,32,114,101,97,108,109,61]⟩:ByteArray)++qt++(⟨#[44,32,99,104,97,114,115,101,116,61,34,85,84,70,45,56,34]⟩:ByteArray))],zao 401⟩ A1 c1,.bool true]) (by simp[results,Tryz.results30,go_sem,rqV,rsV,a0,a1,a2,a3,a4,a5,a6,x0,x1,x2,x3]) rfl (by rw[HSR.out];exact ⟨A1,c1,rfl,HO9.out,HW.out⟩)
 ·have HSR:=hid (show zx m r= .inl r by rw[HA.out,hi];rfl)
  rw[hi] at HLT;clear hi HA;unfold zL rqV at *
  go_enter Tryz.func30,Tryz.ntmps30
  go_wp2_with fail
  rw[zem];refine HCK.out.mono ?_;rintro e w1 ⟨rfl,b1⟩;rw[show zaq true=0 from rfl];have HK1:=hid (show zb (fun _=>False) (A5 w (zf m A c) (zu r FA fc TA tc)) w1 from zb.of b1);clear b1 HCK;obtain ⟨m0,m1,m2,m3,m4⟩:=zaL HK1.out (fun h=>h);obtain ⟨a0,a1,a2,a3,a4,a5,a6⟩:=zac HK1.out (fun h=>h)
  go_wp2_with fail
  refine (HLT.out _ (HXB.out.trans (HK1.out.below.mono HXB.out.size))).mono ?_;rintro e w2 ⟨rfl,b2⟩;have HK2:=hid (HK1.out.step b2);clear b2;clear m0 m1 m2 m3 m4;clear a0 a1 a2 a3 a4 a5 a6;have HB:=hid (show zb (fun k=>k=w.heap.size+1+1∨k=w.heap.size+1+1+1) (A5 w (zf m A c) (zu r FA fc TA tc)) w2.drew from (HK2.out.wider (fun _ _ h=>h.elim)).drew);have H4:=hid (zcK (HK2.out.drew) (fun h=>h));have H5:=hid (zcJ (HK2.out.drew) (fun h=>h))
  go_wp2_with fail
  refine zO (t:=4) (S:=fun W=>zb (fun k=>k=w.heap.size+1+1∨k=w.heap.size+1+1+1) (A5 w (zf m A c) (zu r FA fc TA tc)) W) (by kernel_rfl) HB.out (fun hHeld=>?_);generalize w2.drew=wr0 at *;refine za 0 (y:=fun w hSw=>by (try dsimp only at hSw);obtain ⟨a0,a1,a2,a3,a4,a5,a6⟩:=zac hSw (fun h=>by rcases h with h|h<;>omega);exact yl) (s:=hHeld) (h:=?_);refine za 1 (y:=fun w hSw=>by (try dsimp only at hSw);obtain ⟨y0,y1,y2,y3⟩:=zge hSw (fun h=>by rcases h with h|h<;>omega);exact yl) (s:=hHeld) (h:=?_);have HQ:=hid (zbG (r:=r) (FA:=FA) (fc:=fc) (TA:=TA) (tc:=tc) HB.out H4.out H5.out (.inl rfl) (.inr rfl) (by omega) (by have h:=HB.out.size;rw[HS0.out] at h;omega) (by have h:=HB.out.size;rw[HS0.out] at h;omega) (.int .i64 0) (.string ⟨#[]⟩) (.slice none 0 0) (.string ⟨#[]⟩));refine zc 2 (h:=fun K hK=>?_);obtain ⟨⟨p0,p1,p2,p3,p4,p5,p6⟩,z0,z1,z2,z3,z4,z5,z6⟩:=H4.out
  go_simp
  clear p0 p1 p2 p3 p4 p5 p6 z0 z1 z2 z3 z4 z5 z6;show K _ (rqP wr0 (w.heap.size+1+1) r FA fc TA tc);generalize (rqP wr0 (w.heap.size+1+1) r FA fc TA tc)=wy1 at *;refine hK.out _ _ (.inr HQ.out.1) (fun _=>nm ?_);clear hK K;refine zc 3 (h:=fun K hK=>?_);obtain ⟨⟨p0,p1,p2,p3⟩,z0,z1,z2,z3⟩:=HQ.out.2.1
  go_simp
  clear p0 p1 p2 p3 z0 z1 z2 z3;show K _ (zal wy1 (w.heap.size+1+1+1) (.int .i64 0) (.string ⟨#[]⟩) (.slice none 0 0) (.string ⟨#[]⟩));obtain ⟨HB9,H49,H59⟩:=HQ.out.2.2.2;clear HQ HB H4 H5;have HB:=hid HB9;have H4:=hid H49;have H5:=hid H59;clear HB9 H49 H59;generalize (zal wy1 (w.heap.size+1+1+1) (.int .i64 0) (.string ⟨#[]⟩) (.slice none 0 0) (.string ⟨#[]⟩))=wn1 at *;refine hK.out _ _ (.inr HB.out) (fun _=>nm ?_);clear hK K;refine zc 4 (h:=fun K hK=>?_)
  (try go_simp)
  refine hK.out _ _ (.inl (by rfl)) (fun _=>nm ?_);clear hK K;refine zy (by kernel_rfl) ?_ _;have HW:=hid (zt HB.out (fun k h=>by rcases h with h|h<;>omega) (z8 w _ _));obtain ⟨a0,a1,a2,a3,a4,a5,a6⟩:=H4.out;obtain ⟨x0,x1,x2,x3⟩:=H5.out;clear HB H4 H5 hHeld
  go_wp2
  exact bodyPost_ret (v:=.tuple #[rqV r FA fc TA tc,rsZ,.bool false]) (by simp[results,Tryz.results30,go_sem,rqV,rsZ,a0,a1,a2,a3,a4,a5,a6,x0,x1,x2,x3]) rfl (by first|(rw[HSR.out];exact ⟨rfl,HW.out⟩)|exact ⟨rfl,HW.out⟩)
end Go.Proofs.YtbnafbdhomdcoaaGreatDoor
