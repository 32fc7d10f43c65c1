/-
  CkNa, CkNr, CkNb, CkNc, CkNd, CkNe, CkNf, CkNz, CkQa, without what the claim does not reach.
-/
import Derived.Test.YtbnafbdhomdcoaaGreatDoorZn1
import Derived.Deep.DeepCutAuto
import Derived.Test.YtbnafbdhomdcoaaGreatDoorZm2
import Derived.Test.YtbnafbdhomdcoaaGreatDoorZm1
import Derived.Test.YtbnafbdhomdcoaaGreatDoorZm6
import Derived.Test.YtbnafbdhomdcoaaGreatDoorZm4
import Derived.Deep.RegionWith
import Derived.Test.YtbnafbdhomdcoaaGreatDoorZm7
namespace Go.Proofs.YtbnafbdhomdcoaaGreatDoor
open Go.RowKit Go.Shelf Go.Lib
theorem zhZ.setF {W:World} {b:Nat} {v0 v1 v2 v3:Value} (h:zhZ W b v0 v1 v2 v3) (v:Value):zhZ (W.setCell ⟨b,2,none⟩ v) b v0 v1 v v3:=
 ⟨zi h.1,zi h.2.1,zi h.2.2.1,zi h.2.2.2⟩
set_option maxRecDepth 20000 in
set_option maxHeartbeats 8000000 in
theorem zmV (m:zY) (A:Option Addr) (c:Nat) (r:Rq) (FA:Option Addr) (fc:Nat) (TA:Option Addr) (tc:Nat) (x:Rs) (XA:Option Addr) (xc:Nat) (w:World) (hcm:zr m=true) (hk:m.kind=4∨m.kind=5∨m.kind=6∨m.kind=7∨m.kind=10) (hs:zgs w m A c r FA) (D:Nat→Prop) (hD:∀k,D k→k<w.heap.size) (hx:zQ D w XA (zj x.fields)) (hn:x.fields.length≤4194304):
  Calls Tryz.prog 37 #[zL m A c,rqV r FA fc TA tc,rsV x XA xc] w (zep D w x):=by
 have HD:=hid hD;have HCK:=hid (za8 m A c (B4 w (zf m A c) (zu r FA fc TA tc) (rsC x XA xc)) (hs.list.below (zca w _ _ _)) hs.cap hs.mid);rw[hcm] at HCK;have HXB:=hid (zca w (zf m A c) (zu r FA fc TA tc) (rsC x XA xc));have HRX:=hid (fun (W:World) (h:Below w.heap.size w W)=>(hx.below h).row);have HS0:=hid (zf0 w (zf m A c) (zu r FA fc TA tc) (rsC x XA xc));have q1:(m.kind==1)=false:=beq_eq_false_iff_ne.2 (by omega);have q2:(m.kind==2)=false:=beq_eq_false_iff_ne.2 (by omega);have q3:(m.kind==3)=false:=beq_eq_false_iff_ne.2 (by omega);have q8:(m.kind==8)=false:=beq_eq_false_iff_ne.2 (by omega);have q9:(m.kind==9)=false:=beq_eq_false_iff_ne.2 (by omega);clear hcm hs hx hk hD;obtain ⟨i0,hi0,hz0,hz1,hz2⟩:=info_parts zbQ;unfold zL rqV rsV at *
 go_enter Tryz.func37,Tryz.ntmps37
 go_wp2_with fail
 rw[zkO];refine HCK.out.mono ?_;rintro e w1 ⟨rfl,b1⟩;rw[show zaq true=0 from rfl];have HK1:=hid (show zb (fun _=>False) (B4 w (zf m A c) (zu r FA fc TA tc) (rsC x XA xc)) w1 from zb.of b1);have hz1':w.heap.size+4≤w1.heap.size:=by have h:=b1.size;rw[HS0.out] at h;exact h
 have HBW:=hid (HXB.out.trans (b1.mono HXB.out.size));have HDZ:=hid (fun k (hd:D k)=>(Nat.lt_of_lt_of_le (HD.out k hd) (HBW.out.size):k<w1.heap.size));clear b1 HCK;have OL0:=World.ownsRow_lit (base:=w1.heap.size) (e:=69) (size:=2) w1 #[] 0 (Nat.le_refl _) (by unfold maxLen;omega) rfl;have HAL:=hid ((Below.refl w1.heap.size w1).alloc (Nat.le_refl _) (.cells #[] 69));have hrd:=zv (HRX.out _ (HBW.out.trans (HAL.out.mono HBW.out.size))) (zK x.fields) (by decide);have hkA:=HK1.out.step HAL.out;obtain ⟨⟨s0,s1,s2,s3⟩,_⟩:=zbs hkA (fun h=>h);clear hkA
 go_wp2_with (at_builtin;refine zq _ rfl _ _ 37 rfl w1.heap.size 69 i0 (.agg #[.string ⟨#[]⟩,.string ⟨#[]⟩]) 2 32 Tryz.underlying37 hi0 hz0 hz1 hz2 rfl (by decide) _ 0 [] rfl OL0 _ XA x.fields.length xc (zj x.fields) rfl hrd ?k1 ?k2 ?k3 ?k4 ?k5)
 case k1=>exact zA _
 case k2=>unfold maxLen;omega
 case k3=>omega
 case k4=>simp
 case k5=>
  intro v' w3 hown hg _;have HB3:=hid (HAL.out.grown hg HAL.out.size (zI OL0));have ho3:=hown;clear hown hg OL0 HAL hrd s0 s1 s2 s3;obtain ⟨A3,c3,rfl⟩:=zC ho3;have HO3:=hid ho3;clear ho3;have HK3:=hid (HK1.out.step HB3.out);have hz3:w.heap.size+4≤w3.heap.size:=Nat.le_trans hz1' HB3.out.size;have HW3:=hid (HBW.out.trans (HB3.out.mono HBW.out.size));obtain ⟨m0,m1,m2,m3,m4⟩:=zb4 HK3.out (fun h=>h);have H2:=hid (zbs HK3.out (fun h=>h));have H4:=hid (zcs HK3.out (fun h=>h));clear HK1 HB3 HBW HXB HS0;obtain ⟨⟨r0,r1,r2,r3⟩,rf⟩:=H2.out
  go_upto_region 20 with (fail)
  have HK5:=hid (zag (E:=fun k=>k=w.heap.size+1+1) w3 rfl 2 (.slice A3 x.fields.length c3));have HR5:=hid (H2.out.1.setF (.slice A3 x.fields.length c3));have H45:=hid (H4.out.keep HK5.out (by omega) (by omega));have HW5:=hid (zt HK5.out (fun k h=>by omega) HW3.out);have HO5:=hid (zP HO3.out HK5.out (fun k hk=>by subst hk;omega));clear H2 H4 m0 m1 m2 m3 m4 r0 r1 r2 r3 rf HK3 HO3 HW3 HK5;generalize w3.setCell ⟨w.heap.size+1+1,2,none⟩ (.slice A3 x.fields.length c3)=w5 at *;obtain ⟨r0,r1,r2,r3⟩:=HR5.out;obtain ⟨⟨p0,p1,p2,p3⟩,z0,z1,z2,z3⟩:=H45.out
  go_wp2
  have HKP:=hid (z7 (E:=fun k=>k=w.heap.size+1+1+1) w5 rfl (.int .i64 x.status) (.string x.reason) (.slice A3 x.fields.length c3) (.string x.body));have HW:=hid (zt HKP.out (fun k h=>by omega) HW5.out);have H5:=hid (H45.out.put (.int .i64 x.status) (.string x.reason) (.slice A3 x.fields.length c3) (.string x.body));have HO:=hid (zP HO5.out HKP.out (fun k hk=>by subst hk;omega));clear p0 p1 p2 p3 z0 z1 z2 z3 r0 r1 r2 r3;obtain ⟨x0,x1,x2,x3⟩:=H5.out;exact bodyPost_ret (w:=zal w5 (w.heap.size+1+1+1) (.int .i64 x.status) (.string x.reason) (.slice A3 x.fields.length c3) (.string x.body)) (v:=rsV x A3 c3) (by simp[results,Tryz.results37,go_sem,rsV,x0,x1,x2,x3]) rfl ⟨A3,c3,rfl,zQ.of_own HO.out HO.out HDZ.out,HW.out⟩
set_option maxRecDepth 20000 in
set_option maxHeartbeats 2000000 in
theorem zgL (A:Option Addr) (c:Nat) (l:List Fl) (name:ByteArray) (w:World) (hr:Row w A (zj l)) (hl:l.length≤4398046511104) (hw:zd6 l) (hn:name.size≤maxLen):
  Calls Tryz.prog 76 #[.slice A l.length c,.string name] w (zgf 69 w (zF l name)):=by
 obtain ⟨i0,hi0,hz0,hz1,hz2⟩:=info_parts zbQ
 go_enter Tryz.func76,Tryz.ntmps76
 go_wp2
 go_loopw [5,10] (fun v i wr=>∃k:Nat,k≤l.length∧i= .int .i64 k∧wr.ownsRow w.heap.size 69 2 v ((l.take k).filter fun p=>!zbu p.1 name).length (zj ((l.take k).filter fun p=>!zbu p.1 name))∧Below w.heap.size w wr) (fun _ i _=>l.length - (RowKit.intOf i).toNat)
 case atStart=>exact ⟨0,by omega,rfl,World.ownsRow_nil _ _ _ _,Below.refl _ _⟩
 case round=>
  obtain ⟨k,hk,rfl,hown,hbw⟩:=hrel
  by_cases hlt:k<l.length
  ·obtain ⟨⟨x,y⟩,hxy⟩:=zD hlt
   obtain ⟨b,off,rfl,hb,h0,h1⟩:=(hr.below hbw).pair hxy;have HS:=hid (zjf (fun p=>!zbu p.1 name) hxy);have hlen:((l.take k).filter fun p=>!zbu p.1 name).length≤k:=Nat.le_trans (List.length_filter_le _ _) (List.length_take_le _ _);have hwx:=(hw.at_ hxy).1;generalize ((l.take k).filter fun p=>!zbu p.1 name)=out at hown hlen HS;clear hxy
   go_wp2_with fail
   refine (zld x name _ hwx hn).mono ?_;rintro e w1 ⟨rfl,hb1⟩;have hb1':Below (wr.heap.size+1) (wr.alloc (.cells #[.string x,.string y] 69)) w1:=by simpa using hb1
   obtain ⟨⟨hc0,hc1⟩,_,hsz⟩:=zvq hb1';have hbw1:Below w.heap.size w w1:=hbw.trans ((zw hb1').mono hbw.size);have hown1:=zW (hown.alloc _) hb1;clear hb1 hb1' h0 h1 hown
   cases hp:zbu x name
   ·have HE:=hid (show (!zbu (x,y).1 name)=true by simp[hp])
    go_wp2_with (at_builtin;refine wpList_append_own _ rfl _ _ 37 rfl w.heap.size 69 i0 (.agg #[.string ⟨#[]⟩,.string ⟨#[]⟩]) 2 32 Tryz.underlying37 hi0 hz0 hz1 hz2 rfl (by decide) _ _ _ rfl (hown1.alloc _) ⟨w1.heap.size,0,none⟩ 1 1 [.string x,.string y] rfl rfl ?c0 ?c1 ?c2 ?c3 ?c4 ?c5)
    case c0=>exact zk6 _ x y _ rfl
    case c1=>exact zA [(x,y)]
    case c2=>unfold maxLen;omega
    case c3=>omega
    case c4=>simp;have:=hbw1.size;omega
    case c5=>
     intro v' w2 hown2 hg2 _
     go_wp2
     go_roundw
     case rel=>exact ⟨k+1,by omega,by go_num,by rw[HS.out,if_pos HE.out,zX,List.length_append];exact hown2,(hbw1.alloc hbw1.size _).grown hg2 (by simp;have:=hbw1.size;omega) (zI hown1)⟩
     case measure=>simp[RowKit.intOf];omega
   ·have HE:=hid (show ¬(!zbu (x,y).1 name)=true by simp[hp])
    go_wp2
    go_roundw
    case rel=>exact ⟨k+1,by omega,by go_num,by rw[HS.out,if_neg HE.out];exact hown1,hbw1⟩
    case measure=>simp[RowKit.intOf];omega
  ·obtain rfl:k=l.length:=by omega
   rw[List.take_length] at hown;obtain ⟨A',c',rfl⟩:=zC hown
   go_wp2
   go_ret
   exact ⟨A',c',by unfold zF;rfl,by unfold zF;exact hown,hbw⟩
set_option maxRecDepth 20000 in
set_option maxHeartbeats 8000000 in
theorem zuW (m:zY) (A:Option Addr) (c:Nat) (r:Rq) (FA:Option Addr) (fc:Nat) (TA:Option Addr) (tc:Nat) (x:Rs) (XA:Option Addr) (xc:Nat) (w:World) (hcm:zr m=true) (hk:m.kind=1) (hs:zgs w m A c r FA) (D:Nat→Prop) (hD:∀k,D k→k<w.heap.size) (hx:zQ D w XA (zj x.fields)) (hn:x.fields.length≤4194304):
  Calls Tryz.prog 37 #[zL m A c,rqV r FA fc TA tc,rsV x XA xc] w (zep D w (zB m r x)):=by
 have HD:=hid hD;have HCK:=hid (za8 m A c (B4 w (zf m A c) (zu r FA fc TA tc) (rsC x XA xc)) (hs.list.below (zca w _ _ _)) hs.cap hs.mid);rw[hcm] at HCK;have HXB:=hid (zca w (zf m A c) (zu r FA fc TA tc) (rsC x XA xc));have HRX:=hid (fun (W:World) (h:Below w.heap.size w W)=>(hx.below h).row);have HS0:=hid (zf0 w (zf m A c) (zu r FA fc TA tc) (rsC x XA xc));have q1:(m.kind==1)=true:=beq_iff_eq.2 hk;have HBY:=hid (show zB m r x={x with fields:=x.fields++[(m.name,m.value)]} by unfold zB;rw[if_pos hk]);have HLN:=hid (show (x.fields++[(m.name,m.value)]).length=x.fields.length+1 by simp);clear hcm hs hx hk hD;obtain ⟨i0,hi0,hz0,hz1,hz2⟩:=info_parts zbQ;unfold zL rqV rsV at *
 go_enter Tryz.func37,Tryz.ntmps37
 go_wp2_with fail
 rw[zkO];refine HCK.out.mono ?_;rintro e w1 ⟨rfl,b1⟩;rw[show zaq true=0 from rfl];have HK1:=hid (show zb (fun _=>False) (B4 w (zf m A c) (zu r FA fc TA tc) (rsC x XA xc)) w1 from zb.of b1);have hz1':w.heap.size+4≤w1.heap.size:=by have h:=b1.size;rw[HS0.out] at h;exact h
 have HBW:=hid (HXB.out.trans (b1.mono HXB.out.size));have HDZ:=hid (fun k (hd:D k)=>(Nat.lt_of_lt_of_le (HD.out k hd) (HBW.out.size):k<w1.heap.size));clear b1 HCK;have OL0:=World.ownsRow_lit (base:=w1.heap.size) (e:=69) (size:=2) w1 #[] 0 (Nat.le_refl _) (by unfold maxLen;omega) rfl;have HAL:=hid ((Below.refl w1.heap.size w1).alloc (Nat.le_refl _) (.cells #[] 69));have hrd:=zv (HRX.out _ (HBW.out.trans (HAL.out.mono HBW.out.size))) (zK x.fields) (by decide);have hkA:=HK1.out.step HAL.out;obtain ⟨⟨s0,s1,s2,s3⟩,_⟩:=zbs hkA (fun h=>h);clear hkA
 go_wp2_with (at_builtin;refine zq _ rfl _ _ 37 rfl w1.heap.size 69 i0 (.agg #[.string ⟨#[]⟩,.string ⟨#[]⟩]) 2 32 Tryz.underlying37 hi0 hz0 hz1 hz2 rfl (by decide) _ 0 [] rfl OL0 _ XA x.fields.length xc (zj x.fields) rfl hrd ?k1 ?k2 ?k3 ?k4 ?k5)
 case k1=>exact zA _
 case k2=>unfold maxLen;omega
 case k3=>omega
 case k4=>simp
 case k5=>
  intro v' w3 hown hg _;have HB3:=hid (HAL.out.grown hg HAL.out.size (zI OL0));have ho3:=hown;clear hown hg OL0 HAL hrd s0 s1 s2 s3;obtain ⟨A3,c3,rfl⟩:=zC ho3;have HO3:=hid ho3;clear ho3;have HK3:=hid (HK1.out.step HB3.out);have hz3:w.heap.size+4≤w3.heap.size:=Nat.le_trans hz1' HB3.out.size;have HW3:=hid (HBW.out.trans (HB3.out.mono HBW.out.size));obtain ⟨m0,m1,m2,m3,m4⟩:=zb4 HK3.out (fun h=>h);obtain ⟨a0,a1,a2,a3,a4,a5,a6⟩:=zcL HK3.out (fun h=>h);have H2:=hid (zbs HK3.out (fun h=>h));have H4:=hid (zcs HK3.out (fun h=>h));obtain ⟨⟨r0,r1,r2,r3⟩,rf⟩:=H2.out;have hro:=HO3.out;have hlw:w1.heap.size≤w3.heap.size:=HB3.out.size
  go_wp2_with (at_builtin;refine zq _ rfl _ _ 37 rfl w1.heap.size 69 i0 (.agg #[.string ⟨#[]⟩,.string ⟨#[]⟩]) 2 32 Tryz.underlying37 hi0 hz0 hz1 hz2 rfl (by decide) _ (x.fields.length) (zj (x.fields)) rfl (hro.alloc _) _ (some ⟨w3.heap.size,0,none⟩) 1 1 (zj [(m.name,m.value)]) rfl (zv (za1 w3 #[.string m.name,.string m.value] 69 rfl) (zK _) (by decide)) ?g1 ?g2 ?g3 ?g4 ?g5)
  case g1=>exact zA _
  case g2=>unfold maxLen;omega
  case g3=>omega
  case g4=>(try simp);omega
  case g5=>
   intro v' w6 hown hg _;have HB6:=hid ((HB3.out.alloc hlw (.cells #[.string m.name,.string m.value] 69)).grown hg (by simp;omega) (zI hro));have ho6:w6.ownsRow w1.heap.size 69 2 v' (x.fields.length+1) (zj (x.fields++[(m.name,m.value)])):=by rw[zX];exact hown
   obtain ⟨A6,c6,rfl⟩:=zC ho6;have HO6:=hid ho6;clear hown hg ho6 hro HO3 HB3;clear m0 m1 m2 m3 m4 a0 a1 a2 a3 a4 a5 a6 r0 r1 r2 r3 rf H2 H4 HK3 hz3 HW3;have HK3:=hid (HK1.out.step HB6.out);have hz3:w.heap.size+4≤w6.heap.size:=Nat.le_trans hz1' HB6.out.size;have HW3:=hid (HBW.out.trans (HB6.out.mono HBW.out.size));obtain ⟨m0,m1,m2,m3,m4⟩:=zb4 HK3.out (fun h=>h);obtain ⟨a0,a1,a2,a3,a4,a5,a6⟩:=zcL HK3.out (fun h=>h);have H2:=hid (zbs HK3.out (fun h=>h));have H4:=hid (zcs HK3.out (fun h=>h));obtain ⟨⟨r0,r1,r2,r3⟩,rf⟩:=H2.out;clear HK1 HBW HXB HS0
   go_upto_region 20 with (fail)
   have HK5:=hid (zag (E:=fun k=>k=w.heap.size+1+1) w6 rfl 2 (.slice A6 (x.fields.length+1) c6));have HR5:=hid (H2.out.1.setF (.slice A6 (x.fields.length+1) c6));have H45:=hid (H4.out.keep HK5.out (by omega) (by omega));have HW5:=hid (zt HK5.out (fun k h=>by omega) HW3.out);have HO5:=hid (zP HO6.out HK5.out (fun k hk=>by subst hk;omega));clear H2 H4 m0 m1 m2 m3 m4 a0 a1 a2 a3 a4 a5 a6 r0 r1 r2 r3 rf HK3 HW3 HK5;generalize w6.setCell ⟨w.heap.size+1+1,2,none⟩ (.slice A6 (x.fields.length+1) c6)=w5 at *;obtain ⟨r0,r1,r2,r3⟩:=HR5.out;obtain ⟨⟨p0,p1,p2,p3⟩,z0,z1,z2,z3⟩:=H45.out
   go_wp2
   have HKP:=hid (z7 (E:=fun k=>k=w.heap.size+1+1+1) w5 rfl (.int .i64 x.status) (.string x.reason) (.slice A6 (x.fields.length+1) c6) (.string x.body));have HW:=hid (zt HKP.out (fun k h=>by omega) HW5.out);have H5:=hid (H45.out.put (.int .i64 x.status) (.string x.reason) (.slice A6 (x.fields.length+1) c6) (.string x.body));have HO:=hid (zP HO5.out HKP.out (fun k hk=>by subst hk;omega));clear p0 p1 p2 p3 z0 z1 z2 z3 r0 r1 r2 r3;obtain ⟨x0,x1,x2,x3⟩:=H5.out;exact bodyPost_ret (w:=zal w5 (w.heap.size+1+1+1) (.int .i64 x.status) (.string x.reason) (.slice A6 (x.fields.length+1) c6) (.string x.body)) (v:=.agg #[.int .i64 x.status,.string x.reason,.slice A6 (x.fields.length+1) c6,.string x.body]) (by simp[results,Tryz.results37,go_sem,x0,x1,x2,x3]) rfl (by rw[HBY.out];exact ⟨A6,c6,by unfold rsV;first|rw[HLN.out]|rfl,zQ.of_own HO.out HO.out HDZ.out,HW.out⟩)
set_option maxRecDepth 20000 in
set_option maxHeartbeats 8000000 in
theorem zux (m:zY) (A:Option Addr) (c:Nat) (r:Rq) (FA:Option Addr) (fc:Nat) (TA:Option Addr) (tc:Nat) (x:Rs) (XA:Option Addr) (xc:Nat) (w:World) (hcm:zr m=true) (hk:m.kind=3) (hs:zgs w m A c r FA) (D:Nat→Prop) (hD:∀k,D k→k<w.heap.size) (hx:zQ D w XA (zj x.fields)) (hn:x.fields.length≤4194304) (hw:zd6 x.fields):
  Calls Tryz.prog 37 #[zL m A c,rqV r FA fc TA tc,rsV x XA xc] w (zep D w (zB m r x)):=by
 have HD:=hid hD;have HCK:=hid (za8 m A c (B4 w (zf m A c) (zu r FA fc TA tc) (rsC x XA xc)) (hs.list.below (zca w _ _ _)) hs.cap hs.mid);rw[hcm] at HCK;have HXB:=hid (zca w (zf m A c) (zu r FA fc TA tc) (rsC x XA xc));have HRX:=hid (fun (W:World) (h:Below w.heap.size w W)=>(hx.below h).row);have HS0:=hid (zf0 w (zf m A c) (zu r FA fc TA tc) (rsC x XA xc));have q1:(m.kind==1)=false:=beq_eq_false_iff_ne.2 (by omega);have q2:(m.kind==2)=false:=beq_eq_false_iff_ne.2 (by omega);have q3:(m.kind==3)=true:=beq_iff_eq.2 hk;have HWD:=hid hw;have HNZ:=hid (show m.name.size≤maxLen from Nat.le_trans hs.mid.name (by unfold maxLen;omega));have HBY:=hid (show zB m r x={x with fields:=zF x.fields m.name} by unfold zB;rw[if_neg (by omega),if_neg (by omega),if_pos hk]);have HLN:=hid (rfl:(zF x.fields m.name).length=(zF x.fields m.name).length);clear hcm hs hx hk hD hw;obtain ⟨i0,hi0,hz0,hz1,hz2⟩:=info_parts zbQ;unfold zL rqV rsV at *
 go_enter Tryz.func37,Tryz.ntmps37
 go_wp2_with fail
 rw[zkO];refine HCK.out.mono ?_;rintro e w1 ⟨rfl,b1⟩;rw[show zaq true=0 from rfl];have HK1:=hid (show zb (fun _=>False) (B4 w (zf m A c) (zu r FA fc TA tc) (rsC x XA xc)) w1 from zb.of b1);have hz1':w.heap.size+4≤w1.heap.size:=by have h:=b1.size;rw[HS0.out] at h;exact h
 have HBW:=hid (HXB.out.trans (b1.mono HXB.out.size));have HDZ:=hid (fun k (hd:D k)=>(Nat.lt_of_lt_of_le (HD.out k hd) (HBW.out.size):k<w1.heap.size));clear b1 HCK;have OL0:=World.ownsRow_lit (base:=w1.heap.size) (e:=69) (size:=2) w1 #[] 0 (Nat.le_refl _) (by unfold maxLen;omega) rfl;have HAL:=hid ((Below.refl w1.heap.size w1).alloc (Nat.le_refl _) (.cells #[] 69));have hrd:=zv (HRX.out _ (HBW.out.trans (HAL.out.mono HBW.out.size))) (zK x.fields) (by decide);have hkA:=HK1.out.step HAL.out;obtain ⟨⟨s0,s1,s2,s3⟩,_⟩:=zbs hkA (fun h=>h);clear hkA
 go_wp2_with (at_builtin;refine zq _ rfl _ _ 37 rfl w1.heap.size 69 i0 (.agg #[.string ⟨#[]⟩,.string ⟨#[]⟩]) 2 32 Tryz.underlying37 hi0 hz0 hz1 hz2 rfl (by decide) _ 0 [] rfl OL0 _ XA x.fields.length xc (zj x.fields) rfl hrd ?k1 ?k2 ?k3 ?k4 ?k5)
 case k1=>exact zA _
 case k2=>unfold maxLen;omega
 case k3=>omega
 case k4=>simp
 case k5=>
  intro v' w3 hown hg _;have HB3:=hid (HAL.out.grown hg HAL.out.size (zI OL0));have ho3:=hown;clear hown hg OL0 HAL hrd s0 s1 s2 s3;obtain ⟨A3,c3,rfl⟩:=zC ho3;have HO3:=hid ho3;clear ho3;have HK3:=hid (HK1.out.step HB3.out);have hz3:w.heap.size+4≤w3.heap.size:=Nat.le_trans hz1' HB3.out.size;have HW3:=hid (HBW.out.trans (HB3.out.mono HBW.out.size));obtain ⟨m0,m1,m2,m3,m4⟩:=zb4 HK3.out (fun h=>h);obtain ⟨a0,a1,a2,a3,a4,a5,a6⟩:=zcL HK3.out (fun h=>h);have H2:=hid (zbs HK3.out (fun h=>h));have H4:=hid (zcs HK3.out (fun h=>h));obtain ⟨⟨r0,r1,r2,r3⟩,rf⟩:=H2.out
  go_wp2_with fail
  refine (zgL A3 c3 (x.fields) m.name w3 (zak HO3.out) (by omega) HWD.out HNZ.out).mono ?_;rintro e w6 ⟨A6,c6,rfl,ho6,hb6⟩;have HB6:=hid (HB3.out.trans (hb6.mono HB3.out.size));have HO6:=hid (zn ho6 HB3.out.size);clear ho6 hb6;clear m0 m1 m2 m3 m4 a0 a1 a2 a3 a4 a5 a6 r0 r1 r2 r3 rf H2 H4 HK3 hz3 HW3;clear HB3 HO3;have HK3:=hid (HK1.out.step HB6.out);have hz3:w.heap.size+4≤w6.heap.size:=Nat.le_trans hz1' HB6.out.size;have HW3:=hid (HBW.out.trans (HB6.out.mono HBW.out.size));obtain ⟨m0,m1,m2,m3,m4⟩:=zb4 HK3.out (fun h=>h);obtain ⟨a0,a1,a2,a3,a4,a5,a6⟩:=zcL HK3.out (fun h=>h);have H2:=hid (zbs HK3.out (fun h=>h));have H4:=hid (zcs HK3.out (fun h=>h));obtain ⟨⟨r0,r1,r2,r3⟩,rf⟩:=H2.out;clear HK1 HBW HXB HS0
  go_upto_region 20 with (fail)
  have HK5:=hid (zag (E:=fun k=>k=w.heap.size+1+1) w6 rfl 2 (.slice A6 ((zF x.fields m.name).length) c6));have HR5:=hid (H2.out.1.setF (.slice A6 ((zF x.fields m.name).length) c6));have H45:=hid (H4.out.keep HK5.out (by omega) (by omega));have HW5:=hid (zt HK5.out (fun k h=>by omega) HW3.out);have HO5:=hid (zP HO6.out HK5.out (fun k hk=>by subst hk;omega));clear H2 H4 m0 m1 m2 m3 m4 a0 a1 a2 a3 a4 a5 a6 r0 r1 r2 r3 rf HK3 HW3 HK5;generalize w6.setCell ⟨w.heap.size+1+1,2,none⟩ (.slice A6 ((zF x.fields m.name).length) c6)=w5 at *;obtain ⟨r0,r1,r2,r3⟩:=HR5.out;obtain ⟨⟨p0,p1,p2,p3⟩,z0,z1,z2,z3⟩:=H45.out
  go_wp2
  have HKP:=hid (z7 (E:=fun k=>k=w.heap.size+1+1+1) w5 rfl (.int .i64 x.status) (.string x.reason) (.slice A6 ((zF x.fields m.name).length) c6) (.string x.body));have HW:=hid (zt HKP.out (fun k h=>by omega) HW5.out);have H5:=hid (H45.out.put (.int .i64 x.status) (.string x.reason) (.slice A6 ((zF x.fields m.name).length) c6) (.string x.body));have HO:=hid (zP HO5.out HKP.out (fun k hk=>by subst hk;omega));clear p0 p1 p2 p3 z0 z1 z2 z3 r0 r1 r2 r3;obtain ⟨x0,x1,x2,x3⟩:=H5.out;exact bodyPost_ret (w:=zal w5 (w.heap.size+1+1+1) (.int .i64 x.status) (.string x.reason) (.slice A6 ((zF x.fields m.name).length) c6) (.string x.body)) (v:=.agg #[.int .i64 x.status,.string x.reason,.slice A6 ((zF x.fields m.name).length) c6,.string x.body]) (by simp[results,Tryz.results37,go_sem,x0,x1,x2,x3]) rfl (by rw[HBY.out];exact ⟨A6,c6,by unfold rsV;first|rw[HLN.out]|rfl,zQ.of_own HO.out HO.out HDZ.out,HW.out⟩)
theorem zqI (r:Rq) (y:Rs):zcn r y=(((za9 y.fields zbd).length==0)&&(((y.status==200)||(y.status==304))&&((r.method.toList==[71,69,84])||(r.method.toList==[72,69,65,68])))):=by
 rw[zjB,zkH]
 cases za9 y.fields zbd<;>cases h2:(y.status==200)<;>cases h3:(y.status==304)<;>simp[bne,h2,h3]
set_option maxRecDepth 20000 in
set_option maxHeartbeats 8000000 in
theorem zto (m:zY) (A:Option Addr) (c:Nat) (r:Rq) (FA:Option Addr) (fc:Nat) (TA:Option Addr) (tc:Nat) (x:Rs) (XA:Option Addr) (xc:Nat) (w:World) (hcm:zr m=true) (hk:m.kind=9) (hs:zgs w m A c r FA) (D:Nat→Prop) (hD:∀k,D k→k<w.heap.size) (hx:zQ D w XA (zj x.fields)) (hn:x.fields.length≤4194304) (hw:zd6 x.fields):
  Calls Tryz.prog 37 #[zL m A c,rqV r FA fc TA tc,rsV x XA xc] w (zep D w (zB m r x)):=by
 have HD:=hid hD;have HCK:=hid (za8 m A c (B4 w (zf m A c) (zu r FA fc TA tc) (rsC x XA xc)) (hs.list.below (zca w _ _ _)) hs.cap hs.mid);rw[hcm] at HCK;have HXB:=hid (zca w (zf m A c) (zu r FA fc TA tc) (rsC x XA xc));have HRX:=hid (fun (W:World) (h:Below w.heap.size w W)=>(hx.below h).row);have HS0:=hid (zf0 w (zf m A c) (zu r FA fc TA tc) (rsC x XA xc));have q1:(m.kind==1)=false:=beq_eq_false_iff_ne.2 (by omega);have q2:(m.kind==2)=false:=beq_eq_false_iff_ne.2 (by omega);have q3:(m.kind==3)=false:=beq_eq_false_iff_ne.2 (by omega);have q8:(m.kind==8)=false:=beq_eq_false_iff_ne.2 (by omega);have q9:(m.kind==9)=true:=beq_iff_eq.2 hk;have HBY:=hid (show zB m r x=if zcn r x=true then {x with fields:=x.fields++[(zbd,m.value)]} else x by rw[zre hk]);have HLN:=hid (show (x.fields++[(zbd,m.value)]).length=x.fields.length+1 by simp);have HWD:=hid hw;have HCW:=hid (zqI r x);generalize zcn r x=ck at *;clear hcm hs hx hk hD hw;obtain ⟨i0,hi0,hz0,hz1,hz2⟩:=info_parts zbQ;unfold zL rqV rsV at *
 go_enter Tryz.func37,Tryz.ntmps37
 go_wp2_with fail
 rw[zkO];refine HCK.out.mono ?_;rintro e w1 ⟨rfl,b1⟩;rw[show zaq true=0 from rfl];have HK1:=hid (show zb (fun _=>False) (B4 w (zf m A c) (zu r FA fc TA tc) (rsC x XA xc)) w1 from zb.of b1);have hz1':w.heap.size+4≤w1.heap.size:=by have h:=b1.size;rw[HS0.out] at h;exact h
 have HBW:=hid (HXB.out.trans (b1.mono HXB.out.size));have HDZ:=hid (fun k (hd:D k)=>(Nat.lt_of_lt_of_le (HD.out k hd) (HBW.out.size):k<w1.heap.size));clear b1 HCK;have OL0:=World.ownsRow_lit (base:=w1.heap.size) (e:=69) (size:=2) w1 #[] 0 (Nat.le_refl _) (by unfold maxLen;omega) rfl;have HAL:=hid ((Below.refl w1.heap.size w1).alloc (Nat.le_refl _) (.cells #[] 69));have hrd:=zv (HRX.out _ (HBW.out.trans (HAL.out.mono HBW.out.size))) (zK x.fields) (by decide);have hkA:=HK1.out.step HAL.out;obtain ⟨⟨s0,s1,s2,s3⟩,_⟩:=zbs hkA (fun h=>h);clear hkA
 go_wp2_with (at_builtin;refine zq _ rfl _ _ 37 rfl w1.heap.size 69 i0 (.agg #[.string ⟨#[]⟩,.string ⟨#[]⟩]) 2 32 Tryz.underlying37 hi0 hz0 hz1 hz2 rfl (by decide) _ 0 [] rfl OL0 _ XA x.fields.length xc (zj x.fields) rfl hrd ?k1 ?k2 ?k3 ?k4 ?k5)
 case k1=>exact zA _
 case k2=>unfold maxLen;omega
 case k3=>omega
 case k4=>simp
 case k5=>
  intro v' w3 hown hg _;have HB3:=hid (HAL.out.grown hg HAL.out.size (zI OL0));have ho3:=hown;clear hown hg OL0 HAL hrd s0 s1 s2 s3;obtain ⟨A3,c3,rfl⟩:=zC ho3;have HO3:=hid ho3;clear ho3;have HK3:=hid (HK1.out.step HB3.out);have hz3:w.heap.size+4≤w3.heap.size:=Nat.le_trans hz1' HB3.out.size;have HW3:=hid (HBW.out.trans (HB3.out.mono HBW.out.size));obtain ⟨m0,m1,m2,m3,m4⟩:=zb4 HK3.out (fun h=>h);obtain ⟨a0,a1,a2,a3,a4,a5,a6⟩:=zcL HK3.out (fun h=>h);have H2:=hid (zbs HK3.out (fun h=>h));have H4:=hid (zcs HK3.out (fun h=>h));obtain ⟨⟨r0,r1,r2,r3⟩,rf⟩:=H2.out
  go_upto_region 17 with (fail)
  clear m0 m1 m2 m3 m4 a0 a1 a2 a3 a4 a5 a6 r0 r1 r2 r3 rf H2 H4 HK3 hz3 HW3
  go_cut [106] (fun v wx=>v= .bool ck∧Hid (Below w1.heap.size w1 wx)∧Hid (wx.ownsRow w1.heap.size 69 2 (.slice A3 x.fields.length c3) x.fields.length (zj x.fields)))
  case first=>
   go_wp2_with fail
   refine (zlA A3 c3 x.fields zbd w3 (zak HO3.out) (by omega) HWD.out (by decide)).mono ?_;rintro e w6 ⟨A6,c6,rfl,_,hb6⟩;have HB6:=hid (HB3.out.trans (hb6.mono HB3.out.size));have HO6:=hid (zW HO3.out hb6);clear hb6;have HK3:=hid (HK1.out.step HB6.out);have hz3:w.heap.size+4≤w6.heap.size:=Nat.le_trans hz1' HB6.out.size;have HW3:=hid (HBW.out.trans (HB6.out.mono HBW.out.size));obtain ⟨m0,m1,m2,m3,m4⟩:=zb4 HK3.out (fun h=>h);obtain ⟨a0,a1,a2,a3,a4,a5,a6⟩:=zcL HK3.out (fun h=>h);have H2:=hid (zbs HK3.out (fun h=>h));have H4:=hid (zcs HK3.out (fun h=>h));obtain ⟨⟨r0,r1,r2,r3⟩,rf⟩:=H2.out;generalize (za9 x.fields zbd).length=n at *;obtain ⟨b2,hb2⟩:∃b,(x.status==200)=b:=⟨_,rfl⟩;obtain ⟨b3,hb3⟩:∃b,(x.status==304)=b:=⟨_,rfl⟩;obtain ⟨gb,hgb⟩:∃b,(r.method.toList==[71,69,84])=b:=⟨_,rfl⟩;obtain ⟨hb,hhb⟩:∃b,(r.method.toList==[72,69,65,68])=b:=⟨_,rfl⟩;have HC:=hid (show ck=((n==0)&&((b2||b3)&&(gb||hb))) by rw[HCW.out,hb2,hb3,hgb,hhb]);clear HCW
   by_cases hn0:n=0
   ·subst hn0
    cases b2<;>cases b3<;>cases gb<;>cases hb
    all_goals
     go_wp2
     go_meet
     exact ⟨by rw[HC.out];rfl,HB6,HO6⟩
   ·have hnz:((n:Int)==0)=false:=beq_eq_false_iff_ne.2 (by omega)
    have HC2:=hid (show ck=false by rw[HC.out,show (n==0)=false from beq_eq_false_iff_ne.2 hn0];rfl)
    go_wp2
    go_meet
    exact ⟨by rw[HC2.out],HB6,HO6⟩
  clear HB3 HO3;obtain ⟨hu106,HB3,HO3⟩:=hcut;rw[hu106];clear hu106 HCW HWD
  cases ck
  ·have HBY2:=hid (show zB m r x=x from HBY.out.trans (if_neg (by decide)))
   clear HBY;have HBY:=HBY2;clear HBY2;have HLN:Hid (x.fields.length=x.fields.length+0):=hid rfl;have HK3:=hid (HK1.out.step HB3.out);have hz3:w.heap.size+4≤wc.heap.size:=Nat.le_trans hz1' HB3.out.size;have HW3:=hid (HBW.out.trans (HB3.out.mono HBW.out.size));obtain ⟨m0,m1,m2,m3,m4⟩:=zb4 HK3.out (fun h=>h);obtain ⟨a0,a1,a2,a3,a4,a5,a6⟩:=zcL HK3.out (fun h=>h);have H2:=hid (zbs HK3.out (fun h=>h));have H4:=hid (zcs HK3.out (fun h=>h));obtain ⟨⟨r0,r1,r2,r3⟩,rf⟩:=H2.out;clear HK1 HBW HXB HS0
   go_upto_region 20 with (fail)
   have HK5:=hid (zag (E:=fun k=>k=w.heap.size+1+1) wc rfl 2 (.slice A3 (x.fields.length) c3));have HR5:=hid (H2.out.1.setF (.slice A3 (x.fields.length) c3));have H45:=hid (H4.out.keep HK5.out (by omega) (by omega));have HW5:=hid (zt HK5.out (fun k h=>by omega) HW3.out);have HO5:=hid (zP HO3.out HK5.out (fun k hk=>by subst hk;omega));clear H2 H4 m0 m1 m2 m3 m4 a0 a1 a2 a3 a4 a5 a6 r0 r1 r2 r3 rf HK3 HW3 HK5;generalize wc.setCell ⟨w.heap.size+1+1,2,none⟩ (.slice A3 (x.fields.length) c3)=w5 at *;obtain ⟨r0,r1,r2,r3⟩:=HR5.out;obtain ⟨⟨p0,p1,p2,p3⟩,z0,z1,z2,z3⟩:=H45.out
   go_wp2
   have HKP:=hid (z7 (E:=fun k=>k=w.heap.size+1+1+1) w5 rfl (.int .i64 x.status) (.string x.reason) (.slice A3 (x.fields.length) c3) (.string x.body));have HW:=hid (zt HKP.out (fun k h=>by omega) HW5.out);have H5:=hid (H45.out.put (.int .i64 x.status) (.string x.reason) (.slice A3 (x.fields.length) c3) (.string x.body));have HO:=hid (zP HO5.out HKP.out (fun k hk=>by subst hk;omega));clear p0 p1 p2 p3 z0 z1 z2 z3 r0 r1 r2 r3;obtain ⟨x0,x1,x2,x3⟩:=H5.out;exact bodyPost_ret (w:=zal w5 (w.heap.size+1+1+1) (.int .i64 x.status) (.string x.reason) (.slice A3 (x.fields.length) c3) (.string x.body)) (v:=.agg #[.int .i64 x.status,.string x.reason,.slice A3 (x.fields.length) c3,.string x.body]) (by simp[results,Tryz.results37,go_sem,x0,x1,x2,x3]) rfl (by rw[HBY.out];exact ⟨A3,c3,by unfold rsV;first|rw[HLN.out]|rfl,zQ.of_own HO.out HO.out HDZ.out,HW.out⟩)
  ·have HBY2:=hid (show zB m r x={x with fields:=x.fields++[(zbd,m.value)]} from HBY.out.trans (if_pos rfl))
   clear HBY;have HBY:=HBY2;clear HBY2;have HK3:=hid (HK1.out.step HB3.out);have hz3:w.heap.size+4≤wc.heap.size:=Nat.le_trans hz1' HB3.out.size;have HW3:=hid (HBW.out.trans (HB3.out.mono HBW.out.size));obtain ⟨m0,m1,m2,m3,m4⟩:=zb4 HK3.out (fun h=>h);obtain ⟨a0,a1,a2,a3,a4,a5,a6⟩:=zcL HK3.out (fun h=>h);have H2:=hid (zbs HK3.out (fun h=>h));have H4:=hid (zcs HK3.out (fun h=>h));obtain ⟨⟨r0,r1,r2,r3⟩,rf⟩:=H2.out;have hro:=HO3.out;have hlw:w1.heap.size≤wc.heap.size:=HB3.out.size
   go_wp2_with (at_builtin;refine zq _ rfl _ _ 37 rfl w1.heap.size 69 i0 (.agg #[.string ⟨#[]⟩,.string ⟨#[]⟩]) 2 32 Tryz.underlying37 hi0 hz0 hz1 hz2 rfl (by decide) _ (x.fields.length) (zj (x.fields)) rfl (hro.alloc _) _ (some ⟨wc.heap.size,0,none⟩) 1 1 (zj [(⟨#[67,97,99,104,101,45,67,111,110,116,114,111,108]⟩,m.value)]) rfl (zv (za1 wc #[.string ⟨#[67,97,99,104,101,45,67,111,110,116,114,111,108]⟩,.string m.value] 69 rfl) (zK _) (by decide)) ?g1 ?g2 ?g3 ?g4 ?g5)
   case g1=>exact zA _
   case g2=>unfold maxLen;omega
   case g3=>omega
   case g4=>(try simp);omega
   case g5=>
    intro v' w7 hown hg _;have HB6:=hid ((HB3.out.alloc hlw (.cells #[.string ⟨#[67,97,99,104,101,45,67,111,110,116,114,111,108]⟩,.string m.value] 69)).grown hg (by simp;omega) (zI hro));have ho6:w7.ownsRow w1.heap.size 69 2 v' (x.fields.length+1) (zj (x.fields++[(⟨#[67,97,99,104,101,45,67,111,110,116,114,111,108]⟩,m.value)])):=by rw[zX];exact hown
    obtain ⟨A6,c6,rfl⟩:=zC ho6;have HO6:=hid ho6;clear hown hg ho6 hro HO3 HB3;clear m0 m1 m2 m3 m4 a0 a1 a2 a3 a4 a5 a6 r0 r1 r2 r3 rf H2 H4 HK3 hz3 HW3;have HK3:=hid (HK1.out.step HB6.out);have hz3:w.heap.size+4≤w7.heap.size:=Nat.le_trans hz1' HB6.out.size;have HW3:=hid (HBW.out.trans (HB6.out.mono HBW.out.size));obtain ⟨m0,m1,m2,m3,m4⟩:=zb4 HK3.out (fun h=>h);obtain ⟨a0,a1,a2,a3,a4,a5,a6⟩:=zcL HK3.out (fun h=>h);have H2:=hid (zbs HK3.out (fun h=>h));have H4:=hid (zcs HK3.out (fun h=>h));obtain ⟨⟨r0,r1,r2,r3⟩,rf⟩:=H2.out;clear HK1 HBW HXB HS0
    go_upto_region 20 with (fail)
    have HK5:=hid (zag (E:=fun k=>k=w.heap.size+1+1) w7 rfl 2 (.slice A6 (x.fields.length+1) c6));have HR5:=hid (H2.out.1.setF (.slice A6 (x.fields.length+1) c6));have H45:=hid (H4.out.keep HK5.out (by omega) (by omega));have HW5:=hid (zt HK5.out (fun k h=>by omega) HW3.out);have HO5:=hid (zP HO6.out HK5.out (fun k hk=>by subst hk;omega));clear H2 H4 m0 m1 m2 m3 m4 a0 a1 a2 a3 a4 a5 a6 r0 r1 r2 r3 rf HK3 HW3 HK5;generalize w7.setCell ⟨w.heap.size+1+1,2,none⟩ (.slice A6 (x.fields.length+1) c6)=w5 at *;obtain ⟨r0,r1,r2,r3⟩:=HR5.out;obtain ⟨⟨p0,p1,p2,p3⟩,z0,z1,z2,z3⟩:=H45.out
    go_wp2
    have HKP:=hid (z7 (E:=fun k=>k=w.heap.size+1+1+1) w5 rfl (.int .i64 x.status) (.string x.reason) (.slice A6 (x.fields.length+1) c6) (.string x.body));have HW:=hid (zt HKP.out (fun k h=>by omega) HW5.out);have H5:=hid (H45.out.put (.int .i64 x.status) (.string x.reason) (.slice A6 (x.fields.length+1) c6) (.string x.body));have HO:=hid (zP HO5.out HKP.out (fun k hk=>by subst hk;omega));clear p0 p1 p2 p3 z0 z1 z2 z3 r0 r1 r2 r3;obtain ⟨x0,x1,x2,x3⟩:=H5.out;exact bodyPost_ret (w:=zal w5 (w.heap.size+1+1+1) (.int .i64 x.status) (.string x.reason) (.slice A6 (x.fields.length+1) c6) (.string x.body)) (v:=.agg #[.int .i64 x.status,.string x.reason,.slice A6 (x.fields.length+1) c6,.string x.body]) (by simp[results,Tryz.results37,go_sem,x0,x1,x2,x3]) rfl (by rw[HBY.out];exact ⟨A6,c6,by unfold rsV;first|rw[HLN.out]|rfl,zQ.of_own HO.out HO.out HDZ.out,HW.out⟩)
set_option maxRecDepth 20000 in
set_option maxHeartbeats 8000000 in
theorem ztN (m:zY) (A:Option Addr) (c:Nat) (r:Rq) (FA:Option Addr) (fc:Nat) (TA:Option Addr) (tc:Nat) (x:Rs) (XA:Option Addr) (xc:Nat) (w:World) (hcm:zr m=true) (hk:m.kind=2) (hs:zgs w m A c r FA) (D:Nat→Prop) (hD:∀k,D k→k<w.heap.size) (hx:zQ D w XA (zj x.fields)) (hn:x.fields.length≤4194304) (hw:zd6 x.fields):
  Calls Tryz.prog 37 #[zL m A c,rqV r FA fc TA tc,rsV x XA xc] w (zep D w (zB m r x)):=by
 have HD:=hid hD;have HCK:=hid (za8 m A c (B4 w (zf m A c) (zu r FA fc TA tc) (rsC x XA xc)) (hs.list.below (zca w _ _ _)) hs.cap hs.mid);rw[hcm] at HCK;have HXB:=hid (zca w (zf m A c) (zu r FA fc TA tc) (rsC x XA xc));have HRX:=hid (fun (W:World) (h:Below w.heap.size w W)=>(hx.below h).row);have HS0:=hid (zf0 w (zf m A c) (zu r FA fc TA tc) (rsC x XA xc));have q1:(m.kind==1)=false:=beq_eq_false_iff_ne.2 (by omega);have q2:(m.kind==2)=true:=beq_iff_eq.2 hk;have HWD:=hid hw;have HNZ:=hid (show m.name.size≤maxLen from Nat.le_trans hs.mid.name (by unfold maxLen;omega));have HBY:=hid (show zB m r x={x with fields:=zF x.fields m.name++[(m.name,m.value)]} by unfold zB;rw[if_neg (by omega),if_pos hk]);have HLN:=hid (show (zF x.fields m.name++[(m.name,m.value)]).length=(zF x.fields m.name).length+1 by simp);have hrl:(zF x.fields m.name).length≤x.fields.length:=List.length_filter_le _ _;clear hcm hs hx hk hD hw;obtain ⟨i0,hi0,hz0,hz1,hz2⟩:=info_parts zbQ;unfold zL rqV rsV at *
 go_enter Tryz.func37,Tryz.ntmps37
 go_wp2_with fail
 rw[zkO];refine HCK.out.mono ?_;rintro e w1 ⟨rfl,b1⟩;rw[show zaq true=0 from rfl];have HK1:=hid (show zb (fun _=>False) (B4 w (zf m A c) (zu r FA fc TA tc) (rsC x XA xc)) w1 from zb.of b1);have hz1':w.heap.size+4≤w1.heap.size:=by have h:=b1.size;rw[HS0.out] at h;exact h
 have HBW:=hid (HXB.out.trans (b1.mono HXB.out.size));have HDZ:=hid (fun k (hd:D k)=>(Nat.lt_of_lt_of_le (HD.out k hd) (HBW.out.size):k<w1.heap.size));clear b1 HCK;have OL0:=World.ownsRow_lit (base:=w1.heap.size) (e:=69) (size:=2) w1 #[] 0 (Nat.le_refl _) (by unfold maxLen;omega) rfl;have HAL:=hid ((Below.refl w1.heap.size w1).alloc (Nat.le_refl _) (.cells #[] 69));have hrd:=zv (HRX.out _ (HBW.out.trans (HAL.out.mono HBW.out.size))) (zK x.fields) (by decide);have hkA:=HK1.out.step HAL.out;obtain ⟨⟨s0,s1,s2,s3⟩,_⟩:=zbs hkA (fun h=>h);clear hkA
 go_wp2_with (at_builtin;refine zq _ rfl _ _ 37 rfl w1.heap.size 69 i0 (.agg #[.string ⟨#[]⟩,.string ⟨#[]⟩]) 2 32 Tryz.underlying37 hi0 hz0 hz1 hz2 rfl (by decide) _ 0 [] rfl OL0 _ XA x.fields.length xc (zj x.fields) rfl hrd ?k1 ?k2 ?k3 ?k4 ?k5)
 case k1=>exact zA _
 case k2=>unfold maxLen;omega
 case k3=>omega
 case k4=>simp
 case k5=>
  intro v' w3 hown hg _;have HB3:=hid (HAL.out.grown hg HAL.out.size (zI OL0));have ho3:=hown;clear hown hg OL0 HAL hrd s0 s1 s2 s3;obtain ⟨A3,c3,rfl⟩:=zC ho3;have HO3:=hid ho3;clear ho3;have HK3:=hid (HK1.out.step HB3.out);have hz3:w.heap.size+4≤w3.heap.size:=Nat.le_trans hz1' HB3.out.size;have HW3:=hid (HBW.out.trans (HB3.out.mono HBW.out.size));obtain ⟨m0,m1,m2,m3,m4⟩:=zb4 HK3.out (fun h=>h);obtain ⟨a0,a1,a2,a3,a4,a5,a6⟩:=zcL HK3.out (fun h=>h);have H2:=hid (zbs HK3.out (fun h=>h));have H4:=hid (zcs HK3.out (fun h=>h));obtain ⟨⟨r0,r1,r2,r3⟩,rf⟩:=H2.out
  go_upto_region 8 with (fail)
  clear m0 m1 m2 m3 m4 a0 a1 a2 a3 a4 a5 a6 r0 r1 r2 r3 rf H2 H4 HK3 hz3 HW3;have HOd:=hid (World.ownsRow.drew HO3.out);have HBd:=hid (zaM HB3.out);refine zO (t:=11) (S:=fun W=>Below w1.heap.size w1 W) (by kernel_rfl) HBd.out (fun hHeld=>?_);generalize w3.drew=wr0 at *;refine za 0 (s:=hHeld) (h:=?_);refine za 1 (s:=hHeld) (h:=?_);refine za 2 (y:=fun w hSw=>by (try dsimp only at hSw);obtain ⟨m0,m1,m2,m3,m4⟩:=zb4 (HK1.out.step hSw) (fun h=>h);exact yl) (s:=hHeld) (h:=?_);refine za 4 (s:=hHeld) (h:=?_);refine za 5 (y:=fun w hSw=>by (try dsimp only at hSw);obtain ⟨m0,m1,m2,m3,m4⟩:=zb4 (HK1.out.step hSw) (fun h=>h);exact yl) (s:=hHeld) (h:=?_);refine za 6 (s:=hHeld) (h:=?_);refine za 7 (y:=fun w hSw=>by (try dsimp only at hSw);obtain ⟨m0,m1,m2,m3,m4⟩:=zb4 (HK1.out.step hSw) (fun h=>h);exact yl) (s:=hHeld) (h:=?_);refine za 8 (s:=hHeld) (h:=?_);refine zbC (rs:=[3,9]) (by kernel_rfl) (by simp) ?_;refine (zJ.cons rfl (fun K hK=>?e1) (zJ.cons rfl (fun K hK=>?e2) zJ.nil))
  case e1=>
   (try rw[if_pos (by rfl)])
   go_simp
   go_at_call 76
   refine (zgL A3 c3 x.fields m.name wr0 (zak HOd.out) (by omega) HWD.out HNZ.out).mono ?_;rintro e w6 ⟨A6,c6,rfl,ho6,hb6⟩;have HB6:=hid (hHeld.trans (hb6.mono hHeld.size));have HO6:=hid (zn ho6 hHeld.size)
   (try go_wp2_with fail)
   refine hK.out _ _ (.inr HB6.out) (fun _=>nm ?_);clear hK K;refine zc 9 (h:=fun K hK=>?_)
   go_simp
   refine hK.out _ _ (.inr (HB6.out.alloc HB6.out.size _)) (fun _=>nm ?_);clear hK K;refine zc 10 (h:=fun K hK=>?_);have hlw:w1.heap.size≤(w6.alloc (.cells #[.string m.name,.string m.value] 69)).heap.size:=(HB6.out.alloc HB6.out.size (.cells #[.string m.name,.string m.value] 69)).size;refine zaO _ rfl (.tmp 35) (.tmp 41) 37 rfl w1.heap.size 69 i0 (.agg #[.string ⟨#[]⟩,.string ⟨#[]⟩]) 2 32 Tryz.underlying37 hi0 hz0 hz1 hz2 rfl (by decide) _ (zF x.fields m.name).length (zj (zF x.fields m.name)) (by rfl) (HO6.out.alloc _) _ _ 1 1 (zj [(m.name,m.value)]) (by rfl) (zv (za1 w6 #[.string m.name,.string m.value] 69 rfl) (zK _) (by decide)) (zA _) (by unfold maxLen;omega) (by omega) hlw ?_;intro v' w7 hown hg _;have HB7:=hid ((HB6.out.alloc HB6.out.size (.cells #[.string m.name,.string m.value] 69)).grown hg hlw (zI HO6.out));have ho7:w7.ownsRow w1.heap.size 69 2 v' ((zF x.fields m.name).length+1) (zj ((zF x.fields m.name)++[(m.name,m.value)])):=by rw[zX];exact hown
   obtain ⟨A7,c7,rfl⟩:=zC ho7;have HO7:=hid ho7;clear hown hg ho7;refine hK.out _ _ (.inr HB7.out) (fun _=>nm ?_);clear hK K;refine zc 11 (h:=fun K hK=>?_)
   go_simp
   refine hK.out _ _ (.inl (by rfl)) (fun _=>nm ?_);clear hK K;refine zy (by kernel_rfl) ?_ _;clear hHeld HB3 HO3 HWD;have HK3:=hid (HK1.out.step HB7.out);have hz3:w.heap.size+4≤w7.heap.size:=Nat.le_trans hz1' HB7.out.size;have HW3:=hid (HBW.out.trans (HB7.out.mono HBW.out.size));obtain ⟨m0,m1,m2,m3,m4⟩:=zb4 HK3.out (fun h=>h);obtain ⟨a0,a1,a2,a3,a4,a5,a6⟩:=zcL HK3.out (fun h=>h);have H2:=hid (zbs HK3.out (fun h=>h));have H4:=hid (zcs HK3.out (fun h=>h));obtain ⟨⟨r0,r1,r2,r3⟩,rf⟩:=H2.out;clear HK1 HBW HXB HS0
   go_upto_region 20 with (fail)
   have HK5:=hid (zag (E:=fun k=>k=w.heap.size+1+1) w7 rfl 2 (.slice A7 ((zF x.fields m.name).length+1) c7));have HR5:=hid (H2.out.1.setF (.slice A7 ((zF x.fields m.name).length+1) c7));have H45:=hid (H4.out.keep HK5.out (by omega) (by omega));have HW5:=hid (zt HK5.out (fun k h=>by omega) HW3.out);have HO5:=hid (zP HO7.out HK5.out (fun k hk=>by subst hk;omega));clear H2 H4 m0 m1 m2 m3 m4 a0 a1 a2 a3 a4 a5 a6 r0 r1 r2 r3 rf HK3 HW3 HK5;generalize w7.setCell ⟨w.heap.size+1+1,2,none⟩ (.slice A7 ((zF x.fields m.name).length+1) c7)=w5 at *;obtain ⟨r0,r1,r2,r3⟩:=HR5.out;obtain ⟨⟨p0,p1,p2,p3⟩,z0,z1,z2,z3⟩:=H45.out
   go_wp2
   have HKP:=hid (z7 (E:=fun k=>k=w.heap.size+1+1+1) w5 rfl (.int .i64 x.status) (.string x.reason) (.slice A7 ((zF x.fields m.name).length+1) c7) (.string x.body));have HW:=hid (zt HKP.out (fun k h=>by omega) HW5.out);have H5:=hid (H45.out.put (.int .i64 x.status) (.string x.reason) (.slice A7 ((zF x.fields m.name).length+1) c7) (.string x.body));have HO:=hid (zP HO5.out HKP.out (fun k hk=>by subst hk;omega));clear p0 p1 p2 p3 z0 z1 z2 z3 r0 r1 r2 r3;obtain ⟨x0,x1,x2,x3⟩:=H5.out;exact bodyPost_ret (w:=zal w5 (w.heap.size+1+1+1) (.int .i64 x.status) (.string x.reason) (.slice A7 ((zF x.fields m.name).length+1) c7) (.string x.body)) (v:=.agg #[.int .i64 x.status,.string x.reason,.slice A7 ((zF x.fields m.name).length+1) c7,.string x.body]) (by simp[results,Tryz.results37,go_sem,x0,x1,x2,x3]) rfl (by rw[HBY.out];exact ⟨A7,c7,by unfold rsV;first|rw[HLN.out]|rfl,zQ.of_own HO.out HO.out HDZ.out,HW.out⟩)
  case e2=>
   have hHa:=hHeld.alloc hHeld.size (.cells #[.string m.name,.string m.value] 69)
   go_simp
   refine hK.out _ _ (.inr hHa) (fun _=>nm ?_);clear hK K;refine zc 3 (h:=fun K hK=>?_)
   (try rw[if_pos (by rfl)])
   go_simp
   go_at_call 76
   refine (zgL A3 c3 x.fields m.name (wr0.alloc (.cells #[.string m.name,.string m.value] 69)) (zak (HOd.out.alloc _)) (by omega) HWD.out HNZ.out).mono ?_;rintro e w6 ⟨A6,c6,rfl,ho6,hb6⟩;have HB6:=hid (hHa.trans (hb6.mono hHa.size));have HO6:=hid (zn ho6 hHa.size)
   (try go_wp2_with fail)
   refine hK.out _ _ (.inr HB6.out) (fun _=>nm ?_);clear hK K;refine zc 10 (h:=fun K hK=>?_);have hlw:w1.heap.size≤(w6).heap.size:=HB6.out.size;refine zaO _ rfl (.tmp 35) (.tmp 41) 37 rfl w1.heap.size 69 i0 (.agg #[.string ⟨#[]⟩,.string ⟨#[]⟩]) 2 32 Tryz.underlying37 hi0 hz0 hz1 hz2 rfl (by decide) _ (zF x.fields m.name).length (zj (zF x.fields m.name)) (by rfl) (HO6.out) _ _ 1 1 (zj [(m.name,m.value)]) (by rfl) (zv ((za1 wr0 #[.string m.name,.string m.value] 69 rfl).below hb6) (zK _) (by decide)) (zA _) (by unfold maxLen;omega) (by omega) hlw ?_;intro v' w7 hown hg _;have HB7:=hid (HB6.out.grown hg hlw (zI HO6.out));have ho7:w7.ownsRow w1.heap.size 69 2 v' ((zF x.fields m.name).length+1) (zj ((zF x.fields m.name)++[(m.name,m.value)])):=by rw[zX];exact hown
   obtain ⟨A7,c7,rfl⟩:=zC ho7;have HO7:=hid ho7;clear hown hg ho7;refine hK.out _ _ (.inr HB7.out) (fun _=>nm ?_);clear hK K;refine zc 11 (h:=fun K hK=>?_)
   go_simp
   refine hK.out _ _ (.inl (by rfl)) (fun _=>nm ?_);clear hK K;refine zy (by kernel_rfl) ?_ _;clear hHeld HB3 HO3 HWD;have HK3:=hid (HK1.out.step HB7.out);have hz3:w.heap.size+4≤w7.heap.size:=Nat.le_trans hz1' HB7.out.size;have HW3:=hid (HBW.out.trans (HB7.out.mono HBW.out.size));obtain ⟨m0,m1,m2,m3,m4⟩:=zb4 HK3.out (fun h=>h);obtain ⟨a0,a1,a2,a3,a4,a5,a6⟩:=zcL HK3.out (fun h=>h);have H2:=hid (zbs HK3.out (fun h=>h));have H4:=hid (zcs HK3.out (fun h=>h));obtain ⟨⟨r0,r1,r2,r3⟩,rf⟩:=H2.out;clear HK1 HBW HXB HS0
   go_upto_region 20 with (fail)
   have HK5:=hid (zag (E:=fun k=>k=w.heap.size+1+1) w7 rfl 2 (.slice A7 ((zF x.fields m.name).length+1) c7));have HR5:=hid (H2.out.1.setF (.slice A7 ((zF x.fields m.name).length+1) c7));have H45:=hid (H4.out.keep HK5.out (by omega) (by omega));have HW5:=hid (zt HK5.out (fun k h=>by omega) HW3.out);have HO5:=hid (zP HO7.out HK5.out (fun k hk=>by subst hk;omega));clear H2 H4 m0 m1 m2 m3 m4 a0 a1 a2 a3 a4 a5 a6 r0 r1 r2 r3 rf HK3 HW3 HK5;generalize w7.setCell ⟨w.heap.size+1+1,2,none⟩ (.slice A7 ((zF x.fields m.name).length+1) c7)=w5 at *;obtain ⟨r0,r1,r2,r3⟩:=HR5.out;obtain ⟨⟨p0,p1,p2,p3⟩,z0,z1,z2,z3⟩:=H45.out
   go_wp2
   have HKP:=hid (z7 (E:=fun k=>k=w.heap.size+1+1+1) w5 rfl (.int .i64 x.status) (.string x.reason) (.slice A7 ((zF x.fields m.name).length+1) c7) (.string x.body));have HW:=hid (zt HKP.out (fun k h=>by omega) HW5.out);have H5:=hid (H45.out.put (.int .i64 x.status) (.string x.reason) (.slice A7 ((zF x.fields m.name).length+1) c7) (.string x.body));have HO:=hid (zP HO5.out HKP.out (fun k hk=>by subst hk;omega));clear p0 p1 p2 p3 z0 z1 z2 z3 r0 r1 r2 r3;obtain ⟨x0,x1,x2,x3⟩:=H5.out;exact bodyPost_ret (w:=zal w5 (w.heap.size+1+1+1) (.int .i64 x.status) (.string x.reason) (.slice A7 ((zF x.fields m.name).length+1) c7) (.string x.body)) (v:=.agg #[.int .i64 x.status,.string x.reason,.slice A7 ((zF x.fields m.name).length+1) c7,.string x.body]) (by simp[results,Tryz.results37,go_sem,x0,x1,x2,x3]) rfl (by rw[HBY.out];exact ⟨A7,c7,by unfold rsV;first|rw[HLN.out]|rfl,zQ.of_own HO.out HO.out HDZ.out,HW.out⟩)
set_option maxRecDepth 20000 in
set_option maxHeartbeats 8000000 in
theorem zuu (m:zY) (A:Option Addr) (c:Nat) (r:Rq) (FA:Option Addr) (fc:Nat) (TA:Option Addr) (tc:Nat) (x:Rs) (XA:Option Addr) (xc:Nat) (w:World) (hcm:zr m=true) (hk:m.kind=8) (hs:zgs w m A c r FA) (D:Nat→Prop) (hD:∀k,D k→k<w.heap.size) (hx:zQ D w XA (zj x.fields)) (hn:x.fields.length≤4194304) (hw:zd6 x.fields):
  Calls Tryz.prog 37 #[zL m A c,rqV r FA fc TA tc,rsV x XA xc] w (zep D w (zB m r x)):=by
 have HD:=hid hD;have HCK:=hid (za8 m A c (B4 w (zf m A c) (zu r FA fc TA tc) (rsC x XA xc)) (hs.list.below (zca w _ _ _)) hs.cap hs.mid);rw[hcm] at HCK;have HXB:=hid (zca w (zf m A c) (zu r FA fc TA tc) (rsC x XA xc));have HRX:=hid (fun (W:World) (h:Below w.heap.size w W)=>(hx.below h).row);have HS0:=hid (zf0 w (zf m A c) (zu r FA fc TA tc) (rsC x XA xc));have q1:(m.kind==1)=false:=beq_eq_false_iff_ne.2 (by omega);have q2:(m.kind==2)=false:=beq_eq_false_iff_ne.2 (by omega);have q3:(m.kind==3)=false:=beq_eq_false_iff_ne.2 (by omega);have q8:(m.kind==8)=true:=beq_iff_eq.2 hk;have hw1:=hw;have h0:0<m.list.length:=by
  have h:=hcm;unfold zr at h;rw[Bool.and_eq_true,Bool.and_eq_true,znw hk,Bool.and_eq_true,Bool.and_eq_true] at h;have h2:=h.2.2.2.2;unfold zbX at h2;rw[Bool.and_eq_true] at h2;exact of_decide_eq_true h2.2
 have hpos:(0:Int)<(m.list.length:Int):=by omega
 have HON:=hid (fun (W:World) (h:Below w.heap.size w W)=>zgE r FA fc TA tc zaT W (hs.fields.below h) hs.req (by unfold maxLen;decide +kernel));have HAL:=hid (fun f (W:World) (h:Below w.heap.size w W)=>zix m A c f W (hs.list.below h) h0);have HVA:=hid (fun (W:World) (h:Below w.heap.size w W)=>zmE m A c W (hs.list.below h) h0);have HI0:=hid (fun s (W:World) (h:Below w.heap.size w W)=>zhi A c m.list s W (hs.list.below h) (by have h:=(zdi hs.mid).1;omega));have HFR:=hid (show zcq m r=(match zaD r.fields zaT with|none=>none|some s=>if zaW m=true then some zcl else if zb5 m.list s=true then some s else none) from rfl);obtain ⟨s0,hs0⟩:=zD h0;obtain ⟨b0,off0,rfl,hb0,hc0⟩:=hs.list.str hs0;rw[Nat.add_zero] at hc0;have HRW:=hid (fun (W:World) (h:Below w.heap.size w W)=>(h.cell (p:=⟨b0,off0,none⟩) hb0).trans hc0);have hst:=ze5 s0;have HFS:=hid (zfM hs0);unfold zaT at HON HFR;generalize decide (s0=zcl)=st at *;have HBY:=hid (show zB m r x={x with fields:=x.fields++(match zcq m r with|none=>[]|some o=>[(za0,o)])++zb2 m} by unfold zB;rw[if_neg (by omega),if_neg (by omega),if_neg (by omega),if_pos hk];cases zcq m r<;>rfl);generalize zcq m r=fo at *;generalize hov:zaD r.fields ⟨#[79,114,105,103,105,110]⟩=ov at *;clear hov hs0 hc0 hb0 hw1;unfold zbO at HON;clear hcm hs hx hk hD hw;obtain ⟨i0,hi0,hz0,hz1,hz2⟩:=info_parts zbQ;unfold zL rqV rsV at *
 go_enter Tryz.func37,Tryz.ntmps37
 go_wp2_with fail
 rw[zkO];refine HCK.out.mono ?_;rintro e w1 ⟨rfl,b1⟩;rw[show zaq true=0 from rfl];have HK1:=hid (show zb (fun _=>False) (B4 w (zf m (some ⟨b0,off0,none⟩) c) (zu r FA fc TA tc) (rsC x XA xc)) w1 from zb.of b1);have hz1':w.heap.size+4≤w1.heap.size:=by have h:=b1.size;rw[HS0.out] at h;exact h
 have HBW:=hid (HXB.out.trans (b1.mono HXB.out.size));have HDZ:=hid (fun k (hd:D k)=>(Nat.lt_of_lt_of_le (HD.out k hd) (HBW.out.size):k<w1.heap.size));clear b1 HCK;have OL0:=World.ownsRow_lit (base:=w1.heap.size) (e:=69) (size:=2) w1 #[] 0 (Nat.le_refl _) (by unfold maxLen;omega) rfl;have HAL:=hid ((Below.refl w1.heap.size w1).alloc (Nat.le_refl _) (.cells #[] 69));have hrd:=zv (HRX.out _ (HBW.out.trans (HAL.out.mono HBW.out.size))) (zK x.fields) (by decide);have hkA:=HK1.out.step HAL.out;obtain ⟨⟨s0,s1,s2,s3⟩,_⟩:=zbs hkA (fun h=>h);clear hkA
 go_wp2_with (at_builtin;refine zq _ rfl _ _ 37 rfl w1.heap.size 69 i0 (.agg #[.string ⟨#[]⟩,.string ⟨#[]⟩]) 2 32 Tryz.underlying37 hi0 hz0 hz1 hz2 rfl (by decide) _ 0 [] rfl OL0 _ XA x.fields.length xc (zj x.fields) rfl hrd ?k1 ?k2 ?k3 ?k4 ?k5)
 case k1=>exact zA _
 case k2=>unfold maxLen;omega
 case k3=>omega
 case k4=>simp
 case k5=>
  intro v' w3 hown hg _;have HB3:=hid (HAL.out.grown hg HAL.out.size (zI OL0));have ho3:=hown;clear hown hg OL0 HAL hrd s0 s1 s2 s3;obtain ⟨A3,c3,rfl⟩:=zC ho3;have HO3:=hid ho3;clear ho3;have HK3:=hid (HK1.out.step HB3.out);have hz3:w.heap.size+4≤w3.heap.size:=Nat.le_trans hz1' HB3.out.size;have HW3:=hid (HBW.out.trans (HB3.out.mono HBW.out.size));obtain ⟨m0,m1,m2,m3,m4⟩:=zb4 HK3.out (fun h=>h);obtain ⟨a0,a1,a2,a3,a4,a5,a6⟩:=zcL HK3.out (fun h=>h);have H2:=hid (zbs HK3.out (fun h=>h));have H4:=hid (zcs HK3.out (fun h=>h));obtain ⟨⟨r0,r1,r2,r3⟩,rf⟩:=H2.out
  go_wp2_with fail
  refine (HON.out _ HW3.out).mono ?_;rintro e w4 ⟨rfl,b4⟩;have HB4:=hid (HB3.out.trans (b4.mono HB3.out.size));have HO4:=hid (zW HO3.out b4);clear b4 HB3 HO3;clear m0 m1 m2 m3 m4 a0 a1 a2 a3 a4 a5 a6 r0 r1 r2 r3 rf H2 H4 HK3 hz3 HW3;have HK3:=hid (HK1.out.step HB4.out);have hz3:w.heap.size+4≤w4.heap.size:=Nat.le_trans hz1' HB4.out.size;have HW3:=hid (HBW.out.trans (HB4.out.mono HBW.out.size));obtain ⟨m0,m1,m2,m3,m4⟩:=zb4 HK3.out (fun h=>h);obtain ⟨a0,a1,a2,a3,a4,a5,a6⟩:=zcL HK3.out (fun h=>h);have H2:=hid (zbs HK3.out (fun h=>h));have H4:=hid (zcs HK3.out (fun h=>h));obtain ⟨⟨r0,r1,r2,r3⟩,rf⟩:=H2.out;have q0:=HRW.out _ HW3.out
  go_upto_region 13 with (fail)
  go_cut [69] (fun v wx=>v= .bool fo.isSome∧Hid (Below w1.heap.size w1 wx)∧Hid (wx.ownsRow w1.heap.size 69 2 (.slice A3 x.fields.length c3) x.fields.length (zj x.fields)))
  case first=>
   cases ov with
   |none=>
    have HFO:=hid (show fo=none by rw[HFR.out]);dsimp only[Option.getD,Option.isSome]
    go_wp2
    go_meet
    exact ⟨by rw[HFO.out];rfl,HB4,HO4⟩
   |some s=>
    dsimp only[Option.getD,Option.isSome]
    cases st
    ·have HIN:=hid (HI0.out s _ HW3.out)
     have HFO:=hid (show fo=if zb5 m.list s=true then some s else none by rw[HFR.out];dsimp only;rw[HFS.out,if_neg (by decide)]);clear HFR;generalize zb5 m.list s=ii at *
     go_wp2_with fail
     refine HIN.out.mono ?_;rintro e w5 ⟨rfl,rfl⟩
     go_wp2
     go_meet
     exact ⟨by rw[HFO.out];cases ii<;>rfl,HB4,HO4⟩
    ·have HFO:=hid (show fo=some zcl by rw[HFR.out];dsimp only;rw[HFS.out,if_pos rfl])
     go_wp2
     go_meet
     exact ⟨by rw[HFO.out];rfl,HB4,HO4⟩
  clear HB4 HO4;obtain ⟨hu69,HB4,HO4⟩:=hcut;rw[hu69];clear hu69;have HK3:=hid (HK1.out.step HB4.out);have hz3:w.heap.size+4≤wc.heap.size:=Nat.le_trans hz1' HB4.out.size;have HW3:=hid (HBW.out.trans (HB4.out.mono HBW.out.size));obtain ⟨m0,m1,m2,m3,m4⟩:=zb4 HK3.out (fun h=>h);obtain ⟨a0,a1,a2,a3,a4,a5,a6⟩:=zcL HK3.out (fun h=>h);have H2:=hid (zbs HK3.out (fun h=>h));have H4:=hid (zcs HK3.out (fun h=>h));obtain ⟨⟨r0,r1,r2,r3⟩,rf⟩:=H2.out;have HVZ:=hid (show (zb2 m).length≤1 by unfold zb2;split<;>simp);generalize zb2 m=vp at *;have HLO0:=hid (show ∀o,fo=some o→zef m (ov.getD ⟨#[]⟩)=o from fun o ho=>by
   have h:=HFR.out;rw[ho] at h;unfold zef
   cases ov with
   |none=>cases h
   |some s=>
    dsimp only at h;show (if zaW m=true then zcl else s)=o;rw[HFS.out] at h ⊢
    cases st
    ·rw[if_neg (by decide)] at h ⊢
     split at h
     ·exact (Option.some.inj h).symm
     ·cases h
    ·rw[if_pos rfl] at h ⊢
     exact (Option.some.inj h).symm)
  clear HFR;generalize ov.getD ⟨#[]⟩=fv at *;generalize ov.isSome=bs at *
  cases fo with
  |none=>
   have HBY2:=hid (show zB m r x={x with fields:=x.fields++vp} by rw[HBY.out];simp);have HLN:=hid (show (x.fields++vp).length=x.fields.length+vp.length from List.length_append);clear HBY HLO0 HAL;have HBY:=HBY2;clear HBY2;dsimp only[Option.isSome]
   go_wp2_with fail
   refine (HVA.out _ HW3.out).mono ?_;rintro e w8 ⟨VA,vc,rfl,hov,hb8⟩;have HB8:=hid (HB4.out.trans (hb8.mono HB4.out.size));have hro:=zW HO4.out hb8;have HRV:=hid (zak hov);have hsz8:w1.heap.size≤w8.heap.size:=HB8.out.size;clear hb8 hov HO4 HB4;clear m0 m1 m2 m3 m4 a0 a1 a2 a3 a4 a5 a6 r0 r1 r2 r3 rf H2 H4 HK3 hz3 HW3
   go_wp2_with (at_builtin;refine zq _ rfl _ _ 37 rfl w1.heap.size 69 i0 (.agg #[.string ⟨#[]⟩,.string ⟨#[]⟩]) 2 32 Tryz.underlying37 hi0 hz0 hz1 hz2 rfl (by decide) _ (x.fields.length) (zj (x.fields)) rfl hro _ VA vp.length vc (zj vp) rfl (zv HRV.out (zK _) (by decide)) (zA _) (by have:=HVZ.out;unfold maxLen;omega) (by have:=HVZ.out;omega) (by omega) ?_)
   intro v' w9 hown hg _;have HB9:=hid (HB8.out.grown hg HB8.out.size (zI hro));have ho9:w9.ownsRow w1.heap.size 69 2 v' (x.fields.length+vp.length) (zj (x.fields++vp)):=by rw[zX];exact hown
   obtain ⟨A9,c9,rfl⟩:=zC ho9;have HO9:=hid ho9;clear hown hg ho9 hro HB8 HRV;have HK3:=hid (HK1.out.step HB9.out);have hz3:w.heap.size+4≤w9.heap.size:=Nat.le_trans hz1' HB9.out.size;have HW3:=hid (HBW.out.trans (HB9.out.mono HBW.out.size));obtain ⟨m0,m1,m2,m3,m4⟩:=zb4 HK3.out (fun h=>h);obtain ⟨a0,a1,a2,a3,a4,a5,a6⟩:=zcL HK3.out (fun h=>h);have H2:=hid (zbs HK3.out (fun h=>h));have H4:=hid (zcs HK3.out (fun h=>h));obtain ⟨⟨r0,r1,r2,r3⟩,rf⟩:=H2.out;clear HK1 HBW HXB HS0
   go_upto_region 20 with (fail)
   have HK5:=hid (zag (E:=fun k=>k=w.heap.size+1+1) w9 rfl 2 (.slice A9 (x.fields.length+vp.length) c9));have HR5:=hid (H2.out.1.setF (.slice A9 (x.fields.length+vp.length) c9));have H45:=hid (H4.out.keep HK5.out (by omega) (by omega));have HW5:=hid (zt HK5.out (fun k h=>by omega) HW3.out);have HO5:=hid (zP HO9.out HK5.out (fun k hk=>by subst hk;omega));clear H2 H4 m0 m1 m2 m3 m4 a0 a1 a2 a3 a4 a5 a6 r0 r1 r2 r3 rf HK3 HW3 HK5;generalize w9.setCell ⟨w.heap.size+1+1,2,none⟩ (.slice A9 (x.fields.length+vp.length) c9)=w5 at *;obtain ⟨r0,r1,r2,r3⟩:=HR5.out;obtain ⟨⟨p0,p1,p2,p3⟩,z0,z1,z2,z3⟩:=H45.out
   go_wp2
   have HKP:=hid (z7 (E:=fun k=>k=w.heap.size+1+1+1) w5 rfl (.int .i64 x.status) (.string x.reason) (.slice A9 (x.fields.length+vp.length) c9) (.string x.body));have HW:=hid (zt HKP.out (fun k h=>by omega) HW5.out);have H5:=hid (H45.out.put (.int .i64 x.status) (.string x.reason) (.slice A9 (x.fields.length+vp.length) c9) (.string x.body));have HO:=hid (zP HO5.out HKP.out (fun k hk=>by subst hk;omega));clear p0 p1 p2 p3 z0 z1 z2 z3 r0 r1 r2 r3;obtain ⟨x0,x1,x2,x3⟩:=H5.out;exact bodyPost_ret (w:=zal w5 (w.heap.size+1+1+1) (.int .i64 x.status) (.string x.reason) (.slice A9 (x.fields.length+vp.length) c9) (.string x.body)) (v:=.agg #[.int .i64 x.status,.string x.reason,.slice A9 (x.fields.length+vp.length) c9,.string x.body]) (by simp[results,Tryz.results37,go_sem,x0,x1,x2,x3]) rfl (by rw[HBY.out];exact ⟨A9,c9,by unfold rsV;first|rw[HLN.out]|rfl,zQ.of_own HO.out HO.out HDZ.out,HW.out⟩)
  |some o=>
   have HBY2:=hid (show zB m r x={x with fields:=x.fields++[(za0,o)]++vp} from HBY.out);have HLN:=hid (show (x.fields++[(za0,o)]++vp).length=x.fields.length+1+vp.length by rw[List.length_append,List.length_append];rfl);have HLO:=hid (HLO0.out o rfl);clear HBY HLO0;have HBY:=HBY2;clear HBY2;dsimp only[Option.isSome]
   go_wp2_with fail
   refine (HAL.out _ _ HW3.out).mono ?_;rintro e w5 ⟨rfl,b5⟩;rw[HLO.out];have HB5:=hid (HB4.out.trans (b5.mono HB4.out.size));have HO5:=hid (zW HO4.out b5);clear b5 HB4 HO4 HAL HLO;clear m0 m1 m2 m3 m4 a0 a1 a2 a3 a4 a5 a6 r0 r1 r2 r3 rf H2 H4 HK3 hz3 HW3;have hro:=HO5.out;have hlw:w1.heap.size≤w5.heap.size:=HB5.out.size
   go_wp2_with (at_builtin;refine zq _ rfl _ _ 37 rfl w1.heap.size 69 i0 (.agg #[.string ⟨#[]⟩,.string ⟨#[]⟩]) 2 32 Tryz.underlying37 hi0 hz0 hz1 hz2 rfl (by decide) _ (x.fields.length) (zj (x.fields)) rfl (hro.alloc _) _ (some ⟨w5.heap.size,0,none⟩) 1 1 (zj [((⟨#[65,99,99,101,115,115,45,67,111,110,116,114,111,108,45,65,108,108,111,119,45,79,114,105,103,105,110]⟩:ByteArray),o)]) rfl (zv (za1 w5 #[.string (⟨#[65,99,99,101,115,115,45,67,111,110,116,114,111,108,45,65,108,108,111,119,45,79,114,105,103,105,110]⟩:ByteArray),.string o] 69 rfl) (zK _) (by decide)) ?g1 ?g2 ?g3 ?g4 ?g5)
   case g1=>exact zA _
   case g2=>unfold maxLen;omega
   case g3=>omega
   case g4=>(try simp);omega
   case g5=>
    intro v' w6 hown hg _;have HB6:=hid ((HB5.out.alloc hlw (.cells #[.string (⟨#[65,99,99,101,115,115,45,67,111,110,116,114,111,108,45,65,108,108,111,119,45,79,114,105,103,105,110]⟩:ByteArray),.string o] 69)).grown hg (by simp;omega) (zI hro));have ho6:w6.ownsRow w1.heap.size 69 2 v' (x.fields.length+1) (zj (x.fields++[((⟨#[65,99,99,101,115,115,45,67,111,110,116,114,111,108,45,65,108,108,111,119,45,79,114,105,103,105,110]⟩:ByteArray),o)])):=by rw[zX];exact hown
    obtain ⟨A6,c6,rfl⟩:=zC ho6;have HO6:=hid ho6;clear hown hg ho6 hro HO5 HB5;have HK3:=hid (HK1.out.step HB6.out);have hz3:w.heap.size+4≤w6.heap.size:=Nat.le_trans hz1' HB6.out.size;have HW3:=hid (HBW.out.trans (HB6.out.mono HBW.out.size));obtain ⟨m0,m1,m2,m3,m4⟩:=zb4 HK3.out (fun h=>h);obtain ⟨a0,a1,a2,a3,a4,a5,a6⟩:=zcL HK3.out (fun h=>h);have H2:=hid (zbs HK3.out (fun h=>h));have H4:=hid (zcs HK3.out (fun h=>h));obtain ⟨⟨r0,r1,r2,r3⟩,rf⟩:=H2.out
    go_wp2_with fail
    refine (HVA.out _ HW3.out).mono ?_;rintro e w8 ⟨VA,vc,rfl,hov,hb8⟩;have HB8:=hid (HB6.out.trans (hb8.mono HB6.out.size));have hro:=zW HO6.out hb8;have HRV:=hid (zak hov);have hsz8:w1.heap.size≤w8.heap.size:=HB8.out.size;clear hb8 hov HO6 HB6;clear m0 m1 m2 m3 m4 a0 a1 a2 a3 a4 a5 a6 r0 r1 r2 r3 rf H2 H4 HK3 hz3 HW3
    go_wp2_with (at_builtin;refine zq _ rfl _ _ 37 rfl w1.heap.size 69 i0 (.agg #[.string ⟨#[]⟩,.string ⟨#[]⟩]) 2 32 Tryz.underlying37 hi0 hz0 hz1 hz2 rfl (by decide) _ (x.fields.length+1) (zj (x.fields++[((⟨#[65,99,99,101,115,115,45,67,111,110,116,114,111,108,45,65,108,108,111,119,45,79,114,105,103,105,110]⟩:ByteArray),o)])) rfl hro _ VA vp.length vc (zj vp) rfl (zv HRV.out (zK _) (by decide)) (zA _) (by have:=HVZ.out;unfold maxLen;omega) (by have:=HVZ.out;omega) (by omega) ?_)
    intro v' w9 hown hg _;have HB9:=hid (HB8.out.grown hg HB8.out.size (zI hro));have ho9:w9.ownsRow w1.heap.size 69 2 v' (x.fields.length+1+vp.length) (zj (x.fields++[((⟨#[65,99,99,101,115,115,45,67,111,110,116,114,111,108,45,65,108,108,111,119,45,79,114,105,103,105,110]⟩:ByteArray),o)]++vp)):=by rw[zX];exact hown
    obtain ⟨A9,c9,rfl⟩:=zC ho9;have HO9:=hid ho9;clear hown hg ho9 hro HB8 HRV;have HK3:=hid (HK1.out.step HB9.out);have hz3:w.heap.size+4≤w9.heap.size:=Nat.le_trans hz1' HB9.out.size;have HW3:=hid (HBW.out.trans (HB9.out.mono HBW.out.size));obtain ⟨m0,m1,m2,m3,m4⟩:=zb4 HK3.out (fun h=>h);obtain ⟨a0,a1,a2,a3,a4,a5,a6⟩:=zcL HK3.out (fun h=>h);have H2:=hid (zbs HK3.out (fun h=>h));have H4:=hid (zcs HK3.out (fun h=>h));obtain ⟨⟨r0,r1,r2,r3⟩,rf⟩:=H2.out;clear HK1 HBW HXB HS0
    go_upto_region 20 with (fail)
    have HK5:=hid (zag (E:=fun k=>k=w.heap.size+1+1) w9 rfl 2 (.slice A9 (x.fields.length+1+vp.length) c9));have HR5:=hid (H2.out.1.setF (.slice A9 (x.fields.length+1+vp.length) c9));have H45:=hid (H4.out.keep HK5.out (by omega) (by omega));have HW5:=hid (zt HK5.out (fun k h=>by omega) HW3.out);have HO5:=hid (zP HO9.out HK5.out (fun k hk=>by subst hk;omega));clear H2 H4 m0 m1 m2 m3 m4 a0 a1 a2 a3 a4 a5 a6 r0 r1 r2 r3 rf HK3 HW3 HK5;generalize w9.setCell ⟨w.heap.size+1+1,2,none⟩ (.slice A9 (x.fields.length+1+vp.length) c9)=w5 at *;obtain ⟨r0,r1,r2,r3⟩:=HR5.out;obtain ⟨⟨p0,p1,p2,p3⟩,z0,z1,z2,z3⟩:=H45.out
    go_wp2
    have HKP:=hid (z7 (E:=fun k=>k=w.heap.size+1+1+1) w5 rfl (.int .i64 x.status) (.string x.reason) (.slice A9 (x.fields.length+1+vp.length) c9) (.string x.body));have HW:=hid (zt HKP.out (fun k h=>by omega) HW5.out);have H5:=hid (H45.out.put (.int .i64 x.status) (.string x.reason) (.slice A9 (x.fields.length+1+vp.length) c9) (.string x.body));have HO:=hid (zP HO5.out HKP.out (fun k hk=>by subst hk;omega));clear p0 p1 p2 p3 z0 z1 z2 z3 r0 r1 r2 r3;obtain ⟨x0,x1,x2,x3⟩:=H5.out;exact bodyPost_ret (w:=zal w5 (w.heap.size+1+1+1) (.int .i64 x.status) (.string x.reason) (.slice A9 (x.fields.length+1+vp.length) c9) (.string x.body)) (v:=.agg #[.int .i64 x.status,.string x.reason,.slice A9 (x.fields.length+1+vp.length) c9,.string x.body]) (by simp[results,Tryz.results37,go_sem,x0,x1,x2,x3]) rfl (by rw[HBY.out];exact ⟨A9,c9,by unfold rsV;first|rw[HLN.out]|rfl,zQ.of_own HO.out HO.out HDZ.out,HW.out⟩)
theorem znl {m:zY} (r:Rq) (x:Rs) (h:m.kind=4∨m.kind=5∨m.kind=6∨m.kind=7∨m.kind=10):zB m r x=x:=by
 unfold zB;rw[if_neg (by omega),if_neg (by omega),if_neg (by omega),if_neg (by omega),if_neg (by omega)]
theorem zpL {m:zY} (r:Rq) (x:Rs) (h:zr m=true):zds m r x=zB m r x:=if_pos h
theorem zoq {m:zY} (r:Rq) (x:Rs) (h:zr m=false):zds m r x=x:=if_neg (by rw[h];decide)
theorem zoL (m:zY) (A:Option Addr) (c:Nat) (r:Rq) (FA:Option Addr) (fc:Nat) (TA:Option Addr) (tc:Nat) (x:Rs) (XA:Option Addr) (xc:Nat) (w:World) (hs:zgs w m A c r FA) (D:Nat→Prop) (hD:∀k,D k→k<w.heap.size) (hx:zQ D w XA (zj x.fields)) (hn:x.fields.length≤4194304) (hw:zd6 x.fields):
  Calls Tryz.prog 37 #[zL m A c,rqV r FA fc TA tc,rsV x XA xc] w (zep D w (zds m r x)):=by
 cases hcm:zr m
 ·rw[zoq r x hcm]
  exact zo9 m A c r FA fc TA tc x XA xc w hcm hs D hx
 ·rw[zpL r x hcm]
  by_cases h1:m.kind=1
  ·exact zuW m A c r FA fc TA tc x XA xc w hcm h1 hs D hD hx hn
  by_cases h2:m.kind=2
  ·exact ztN m A c r FA fc TA tc x XA xc w hcm h2 hs D hD hx hn hw
  by_cases h3:m.kind=3
  ·exact zux m A c r FA fc TA tc x XA xc w hcm h3 hs D hD hx hn hw
  by_cases h8:m.kind=8
  ·exact zuu m A c r FA fc TA tc x XA xc w hcm h8 hs D hD hx hn hw
  by_cases h9:m.kind=9
  ·exact zto m A c r FA fc TA tc x XA xc w hcm h9 hs D hD hx hn hw
  have hko:zcz m.kind=true:=by
   unfold zr at hcm;exact (Bool.and_eq_true_iff.1 hcm).1
  have hkk:m.kind=4∨m.kind=5∨m.kind=6∨m.kind=7∨m.kind=10:=by
   unfold zcz at hko;simp at hko
   omega
  rw[znl r x hkk];exact zmV m A c r FA fc TA tc x XA xc w hcm hkk hs D hD hx hn
set_option maxRecDepth 20000 in
set_option maxHeartbeats 8000000 in
theorem zsS (ls:List Ma) (MA:Option Addr) (mc:Nat) (qs:List Rq) (n:Nat) (QA:Option Addr) (qc:Nat) (FA:Option Addr) (fc:Nat) (TA:Option Addr) (tc:Nat) (o:Rs) (OA:Option Addr) (oc:Nat) (eb:Bool) (x:Rs) (XA:Option Addr) (xc:Nat) (w:World)
  (hM:Row w MA (zbU ls)) (hO:∀y∈ls,Row w y.2.1 (y.1.list.map .string)∧y.1.list.length≤y.2.2∧zaY y.1) (hQ:Row w QA (zdM FA fc TA tc qs)) (hq:∀q∈qs,Row w FA (zj q.fields)∧zcO q) (hqn:qs.length=n+1) (hnl:n≤ls.length) (hll:ls.length≤1048576) (hx:Row w XA (zj x.fields)) (hfx:zbH 8 x):
  Calls Tryz.prog 16 #[.slice MA ls.length mc,.agg (zgl n QA qs.length qc o OA oc eb),rsV x XA xc] w (zep (fun _=>False) w (ze6 (ls.map (·.1)) qs x)):=by
 have HM:=hid (fun (W:World) (h:Below w.heap.size w W)=>hM.below h);have HO:=hid (fun (W:World) (h:Below w.heap.size w W) y (hy:y∈ls)=>(⟨(hO y hy).1.below h,(hO y hy).2⟩:Row W y.2.1 (y.1.list.map .string)∧y.1.list.length≤y.2.2∧zaY y.1));have HQ:=hid (fun (W:World) (h:Below w.heap.size w W)=>hQ.below h);have HQF:=hid (fun (W:World) (h:Below w.heap.size w W) q (hy:q∈qs)=>(⟨(hq q hy).1.below h,(hq q hy).2⟩:Row W FA (zj q.fields)∧zcO q));have HB0:=hid (zoU w (zgl n QA qs.length qc o OA oc eb) (rsC x XA xc));have HS0:=hid (zjQ w (zgl n QA qs.length qc o OA oc eb) (rsC x XA xc));have HI0:=hid (zj6.start (w:=w) (a:=zgl n QA qs.length qc o OA oc eb) (ls:=ls) (xc:=xc) hqn hfx hx);have HWY:=hid (fun (W:World) (h:zb (fun b=>b=w.heap.size+1) (Y3 w (zgl n QA qs.length qc o OA oc eb) (rsC x XA xc)) W)=>(show W.cell? ⟨w.heap.size,1,none⟩=some (.slice QA qs.length qc) from (zg (i:=0) h rfl (by omega) 1).1));have HQN:=hid hqn;have hnq:n+1≤qs.length:=by omega
 have hql:qs.length≤1048577:=by omega
 clear hM hO hQ hq hqn hx hfx;unfold rsV zgl at *
 go_enter Tryz.func16,Tryz.ntmps16
 go_wp2_with fail
 go_loopw [7] (fun i wr=>∃(k:Nat) (y:Rs) (A:Option Addr) (c:Nat),k≤n∧i= .int .i64 ((k:Int) - 1)∧Hid (zj6 w (zgl n QA qs.length qc o OA oc eb) ls qs n x (rsC x XA xc) wr k y A c)) (fun i _=>(RowKit.intOf i+1).toNat)
 case atStart=>exact ⟨n,x,XA,xc,Nat.le_refl _,rfl,HI0⟩
 case round=>
  obtain ⟨k,y,A,c,hk,rfl,HB⟩:=hrel;clear HI0;have hzr:w.heap.size+3≤wr.heap.size:=by have h:=HB.out.keep.size;rw[zjQ] at h;exact h
  by_cases hk0:k=0
  ·subst hk0
   have HE:=hid (show y=ze6 (ls.map (·.1)) qs x from HB.out.eq);have H5:=hid (zwn HB.out.keep (by omega));have HKP:=hid (z7 (E:=fun k=>k=w.heap.size+1+1) wr rfl (.int .i64 y.status) (.string y.reason) (.slice A y.fields.length c) (.string y.body));have HW:=hid (zt HKP.out (fun k h=>by omega) (zt HB.out.keep (fun k h=>by omega) HB0.out));have H6:=hid (H5.out.put (.int .i64 y.status) (.string y.reason) (.slice A y.fields.length c) (.string y.body));have HR:=hid ((HB.out.row.keep (HKP.out.wider (fun k _ h=>.inr h))).narrow (fun _ (h:False)=>h.elim));obtain ⟨r0,r1,r2,r3⟩:=HB.out.rsp;obtain ⟨⟨p0,p1,p2,p3⟩,z0,z1,z2,z3⟩:=H5.out;clear HB H5 HKP HM HO HQ HQF HWY HQN
   go_wp2
   clear p0 p1 p2 p3 z0 z1 z2 z3 r0 r1 r2 r3;obtain ⟨x0,x1,x2,x3⟩:=H6.out;exact bodyPost_ret (w:=zal wr (w.heap.size+1+1) (.int .i64 y.status) (.string y.reason) (.slice A y.fields.length c) (.string y.body)) (v:=.agg #[.int .i64 y.status,.string y.reason,.slice A y.fields.length c,.string y.body]) (by simp[results,Tryz.results16,go_sem,x0,x1,x2,x3]) rfl (by rw[←HE.out];exact ⟨A,c,rfl,HR.out,HW.out⟩)
  ·obtain ⟨j,rfl⟩:∃j,k=j+1:=⟨k - 1,by omega⟩
   have hji:(((j+1:Nat)):Int) - 1=(j:Int):=by omega
   rw[hji];have hjl:(j:Int)<(ls.length:Int):=by omega
   have hjq:(j:Int)<(qs.length:Int):=by omega
   obtain ⟨⟨m,MB,mc1⟩,hmj⟩:=zD (l:=ls) (k:=j) (by omega);obtain ⟨q,hqj⟩:=zD (l:=qs) (k:=j) (by omega);have hbw:Below w.heap.size w wr:=zt HB.out.keep (fun k h=>by omega) HB0.out;have HWA:=hid (HWY.out wr HB.out.keep);obtain ⟨b,off,rfl,hb,hd⟩:=zpQ (HM.out wr hbw) hmj;obtain ⟨qb,qoff,rfl,hqb,hqd⟩:=zwO (HQ.out wr hbw) hqj;obtain ⟨o1,o2,o3⟩:=HO.out wr hbw _ (List.mem_of_getElem? hmj);obtain ⟨f1,f2⟩:=HQF.out wr hbw _ (List.mem_of_getElem? hqj);obtain ⟨z,hz⟩:∃z,z=zds m q y:=⟨_,rfl⟩;have hfy:=HB.out.fit;have HBH:=hid (fun (W:World) (h:Below wr.heap.size wr W)=>zoL m MB mc1 q FA fc TA tc y A c W ⟨o1.below h,o2,f1.below h,f2,o3⟩ (fun b=>b=w.heap.size+1∨b=w.heap.size+1+1) (fun k hk=>by have:=h.size;omega) (HB.out.row.below h) (by have:=hfy.many;omega) hfy.wide);rw[←hz] at HBH;have HD:=hid hd;have HQD:=hid hqd;have HST:=hid (fun (w2:World) (A2:Option Addr) (c2:Nat) (h:Below wr.heap.size wr w2) (hr:zQ (fun b=>b=w.heap.size+1∨b=w.heap.size+1+1) w2 A2 (zj z.fields))=>HB.out.step (c2:=c2) hmj hqj (by omega) HQN.out o3 f2 hz h hr);have HRS:=hid (fun (W:World) (h:Below wr.heap.size wr W)=>(⟨HB.out.rsp.keep (zb.of h) (by omega) (fun h=>h) (E:=fun _=>False),(h.frozen (p:=⟨w.heap.size+1,0,none⟩) (show w.heap.size+1<wr.heap.size by omega)).trans HB.out.fr.1,(h.frozen (p:=⟨w.heap.size+1,1,none⟩) (show w.heap.size+1<wr.heap.size by omega)).trans HB.out.fr.2.1,(h.frozen (p:=⟨w.heap.size+1,2,none⟩) (show w.heap.size+1<wr.heap.size by omega)).trans HB.out.fr.2.2.1,(h.frozen (p:=⟨w.heap.size+1,3,none⟩) (show w.heap.size+1<wr.heap.size by omega)).trans HB.out.fr.2.2.2⟩:
    zhZ W (w.heap.size+1) (.int .i64 y.status) (.string y.reason) (.slice A y.fields.length c) (.string y.body)∧W.frozen? ⟨w.heap.size+1,0,none⟩=false∧W.frozen? ⟨w.heap.size+1,1,none⟩=false∧W.frozen? ⟨w.heap.size+1,2,none⟩=false∧W.frozen? ⟨w.heap.size+1,3,none⟩=false))
   have HWB:=hid (fun (W:World) (h:Below wr.heap.size wr W)=>(h.cell (p:=⟨w.heap.size,1,none⟩) (show w.heap.size<wr.heap.size by omega)).trans HWA.out);have hj0:(0:Int)≤(j:Int):=by omega
   have hHeld0:=zaM (Below.refl wr.heap.size wr);clear hd hqd o1 o2 o3 f1 f2 hz hfy HB HWA HM HO HQ HQF HWY HQN hmj hqj hbw hji hk0;unfold zL rqV rsV at HBH
   go_wp2_with fail
   refine zO (t:=11) (S:=fun W=>Below wr.heap.size wr W) (by kernel_rfl) hHeld0 (fun hHeld=>?_);generalize wr.drew=w0 at *;clear hHeld0;refine za 0 (s:=hHeld) (h:=?_);refine za 1 (s:=hHeld) (h:=?_);refine za 2 (s:=hHeld) (h:=?_);refine za 3 (y:=fun v hSw=>by (try dsimp only at hSw);obtain ⟨d0,d1,d2,d3,d4⟩:=HD.out.below hb hSw;exact yl) (s:=hHeld) (h:=?_);refine za 4 (s:=hHeld) (h:=?_);refine za 5 (y:=fun v hSw=>by (try dsimp only at hSw);have d0:=HWB.out v hSw;exact yl) (s:=hHeld) (h:=?_);refine za 6 (s:=hHeld) (h:=?_);refine za 7 (s:=hHeld) (h:=?_);refine za 8 (y:=fun v hSw=>by (try dsimp only at hSw);obtain ⟨d0,d1,d2,d3,d4,d5,d6⟩:=HQD.out.below hqb hSw;exact yl) (s:=hHeld) (h:=?_);refine za 9 (y:=fun v hSw=>by (try dsimp only at hSw);obtain ⟨⟨d0,d1,d2,d3⟩,_⟩:=HRS.out v hSw;exact yl) (s:=hHeld) (h:=?_);refine zc 10 (h:=fun K hK=>?_)
   (try rw[if_pos (by rfl)])
   go_simp
   go_at_call 37
   refine (HBH.out _ hHeld).mono ?_;rintro e2 w2 ⟨A2,c2,rfl,hrow2,hb2⟩;have hb3:=hHeld.trans (hb2.mono hHeld.size);have HI2:=hid (HST.out w2 A2 c2 hb3 hrow2);clear hrow2 hb2 hHeld HBH HST;unfold rsV
   (try go_wp2_with fail)
   refine hK.out _ _ (.inr hb3) (fun _=>nm ?_);clear hK K;refine zc 11 (h:=fun K hK=>?_);obtain ⟨⟨d0,d1,d2,d3⟩,f0,f1,f2,f3⟩:=HRS.out w2 hb3
   go_simp
   clear d0 d1 d2 d3 f0 f1 f2 f3;show K _ (zal w2 (w.heap.size+1) (.int .i64 z.status) (.string z.reason) (.slice A2 z.fields.length c2) (.string z.body));refine hK.out _ _ (.inl (by rfl)) (fun _=>nm ?_);clear hK K;refine zy (by kernel_rfl) ?_ _;clear HRS HWB HD HQD hb3;generalize zal w2 (w.heap.size+1) (.int .i64 z.status) (.string z.reason) (.slice A2 z.fields.length c2) (.string z.body)=w9 at *
   go_wp2
   go_roundw
   case rel=>exact ⟨j,z,A2,c2,by omega,rfl,HI2⟩
   case measure=>simp[RowKit.intOf]
end Go.Proofs.YtbnafbdhomdcoaaGreatDoor
