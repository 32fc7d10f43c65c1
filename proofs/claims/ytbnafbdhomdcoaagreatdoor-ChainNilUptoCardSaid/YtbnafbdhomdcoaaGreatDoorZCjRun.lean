/-
 CjRun, without what this claim does not reach.
-/
import Derived.Test.YtbnafbdhomdcoaaGreatDoorZn5
import Derived.Test.YtbnafbdhomdcoaaGreatDoorZChC
namespace Go.Proofs.YtbnafbdhomdcoaaGreatDoor
open Go.RowKit Go.Shelf Go.Lib
def Fk (D:Nat→Prop) (Pre:World→Prop) (n0 N:Nat) (T:Ans) (ls:List Ma) (k:Nat) (w:World) (f:Value):Prop:=Nx D Pre n0 (N+2*(ls.length - k)) w f (zh2 ((ls.drop k).map (·.1)) T)
theorem zol {ls:List Ma} {j:Nat} {x:Ma} (h:ls[j]?=some x):(ls.drop j).map (·.1)=x.1::(ls.drop (j+1)).map (·.1):=by
 rw[zeq h,List.map_cons]
theorem zv7 {D:Nat→Prop} {Pre:World→Prop} {n0 N:Nat} {T:Ans} {ls:List Ma} {j:Nat} {w:World} {f:Value} {x:Ma} (hx:ls[j]?=some x) (hc:zr x.1=false) (h:Fk D Pre n0 N T ls (j+1) w f):Fk D Pre n0 N T ls j w f:=by
 unfold Fk at *;rw[zol hx];have hl:=(List.getElem?_eq_some_iff.1 hx).1;obtain ⟨g,lb,e,he,hh⟩:=h;refine ⟨g,lb,e,he,fun W r FA fc TA tc h1 h2 h3 h4 h5=>(hh W r FA fc TA tc h1 h2 h3 h4 h5).mono fun e' w' g'=>g'.imp (by omega) fun y A c ht=>?_⟩;show zh2 (x.1::_) T r W y A c w';unfold zh2;rw[if_neg (by rw[hc];decide)];exact ht
theorem zxa {D:Nat→Prop} {Pre:World→Prop} {n0 N:Nat} {T:Ans} {ls:List Ma} {j:Nat} {w:World} {f:Value} {x:Ma} (hx:ls[j]?=some x) (hc:zr x.1=true) (h:Nx D Pre n0 (N+2*(ls.length - (j+1))+2) w f (doT x.1 (zh2 ((ls.drop (j+1)).map (·.1)) T))):Fk D Pre n0 N T ls j w f:=by
 unfold Fk;rw[zol hx];have hl:=(List.getElem?_eq_some_iff.1 hx).1;obtain ⟨g,lb,e,he,hh⟩:=h;refine ⟨g,lb,e,he,fun W r FA fc TA tc h1 h2 h3 h4 h5=>(hh W r FA fc TA tc h1 h2 h3 h4 h5).mono fun e' w' g'=>g'.imp (by omega) fun y A c ht=>?_⟩;show zh2 (x.1::_) T r W y A c w';unfold zh2;rw[if_pos hc];exact ht
def zp8 (n:Nat) (W:World) (F G x y:Value) (wx:World):Prop:=∃p q:Nat,x= .pointer (some ⟨p,0,none⟩)∧y= .pointer (some ⟨q,0,none⟩)∧wx.cell? ⟨p,0,none⟩=some F∧wx.cell? ⟨q,0,none⟩=some G∧(p<wx.heap.size∧q<wx.heap.size)∧(n≤p∧n≤q)∧Below n W wx
section
variable {n k:Nat} {W w2:World} {F G:Value} {t u:TypeId}
theorem zwu (hW:W.heap.size=n) (h:Below n W w2):zp8 n W F G (.pointer (some ⟨w2.heap.size+1,0,none⟩)) (.pointer (some ⟨w2.heap.size,0,none⟩)) ((w2.alloc (.cells #[G] t)).alloc (.cells #[F] u)):=
 ⟨_,_,rfl,rfl,by simp,by simp,⟨by simp,by simp;omega⟩,⟨Nat.le_succ_of_le (hW▸h.size),hW▸h.size⟩,zby hW (zby hW h _) _⟩
theorem zwV (hW:W.heap.size=n) (h:Below n W w2):zp8 n W F G (.pointer (some ⟨w2.heap.size,0,none⟩)) (.pointer (some ⟨w2.heap.size+1,0,none⟩)) ((w2.alloc (.cells #[F] t)).alloc (.cells #[G] u)):=
 ⟨_,_,rfl,rfl,by simp,by simp,⟨by simp;omega,by simp⟩,⟨hW▸h.size,Nat.le_succ_of_le (hW▸h.size)⟩,zby hW (zby hW h _) _⟩
theorem zwE (hW:W.heap.size=n) (h:Below n W w2) (hn:n≤k) (hk:k<w2.heap.size) {v:Value} (hx:w2.cell? ⟨k,0,none⟩=some v):zp8 n W F G (.pointer (some ⟨k,0,none⟩)) (.pointer (some ⟨w2.heap.size,0,none⟩)) ((w2.setCell ⟨k,0,none⟩ F).alloc (.cells #[G] u)):=
 ⟨_,_,rfl,rfl,by rw[World.cell?_alloc_lt _ _ _ (by simpa using hk)];exact World.cell?_setCell_same _ _ _ hx,World.cell?_alloc_at _ _ _ _ (by simp),⟨by simp;omega,by simp⟩,⟨hn,hW▸h.size⟩,zby hW (h.setCell hn _) _⟩
theorem zwQ (hW:W.heap.size=n) (h:Below n W w2) (hn:n≤k) (hk:k<w2.heap.size) {v:Value} (hx:w2.cell? ⟨k,0,none⟩=some v):zp8 n W F G (.pointer (some ⟨w2.heap.size,0,none⟩)) (.pointer (some ⟨k,0,none⟩)) ((w2.setCell ⟨k,0,none⟩ G).alloc (.cells #[F] u)):=
 ⟨_,_,rfl,rfl,World.cell?_alloc_at _ _ _ _ (by simp),by rw[World.cell?_alloc_lt _ _ _ (by simpa using hk)];exact World.cell?_setCell_same _ _ _ hx,⟨by simp,by simp;omega⟩,⟨hW▸h.size,hn⟩,zby hW (h.setCell hn _) _⟩
theorem zwY (h:Below n W w2) (hn:n≤k) (hk:k+1<w2.heap.size) {v v':Value} (hx:w2.cell? ⟨k,0,none⟩=some v) (hy:w2.cell? ⟨k+1,0,none⟩=some v'):zp8 n W F G (.pointer (some ⟨k,0,none⟩)) (.pointer (some ⟨k+1,0,none⟩)) ((w2.setCell ⟨k,0,none⟩ F).setCell ⟨k+1,0,none⟩ G):=
 ⟨_,_,rfl,rfl,by rw[World.cell?_setCell_far _ _ _ _ (by simp)];exact World.cell?_setCell_same _ _ _ hx,World.cell?_setCell_same (u:=v') _ _ _ (by rw[World.cell?_setCell_far _ _ _ _ (by simp)];exact hy),⟨by simp;omega,by simp;omega⟩,⟨hn,Nat.le_succ_of_le hn⟩,(h.setCell hn _).setCell (Nat.le_succ_of_le hn) _⟩
theorem zwl (h:Below n W w2) (hn:n≤k) (hk:k+1<w2.heap.size) {v v':Value} (hx:w2.cell? ⟨k,0,none⟩=some v) (hy:w2.cell? ⟨k+1,0,none⟩=some v'):zp8 n W F G (.pointer (some ⟨k+1,0,none⟩)) (.pointer (some ⟨k,0,none⟩)) ((w2.setCell ⟨k+1,0,none⟩ F).setCell ⟨k,0,none⟩ G):=
 ⟨_,_,rfl,rfl,by rw[World.cell?_setCell_far _ _ _ _ (by simp)];exact World.cell?_setCell_same _ _ _ hy,World.cell?_setCell_same (u:=v) _ _ _ (by rw[World.cell?_setCell_far _ _ _ _ (by simp)];exact hx),⟨by simp;omega,by simp;omega⟩,⟨Nat.le_succ_of_le hn,hn⟩,(h.setCell (Nat.le_succ_of_le hn) _).setCell hn _⟩
end
theorem znA {T:Ans} {r:Rq} {w w1 w2 w3:World} {x:Rs} {A:Option Addr} {c:Nat} (h1:Below w.heap.size w w1) (h2:zg6 T r w1 x A c w2) (h3:zb (Btw w w1) w2 w3):zg6 T r w x A c w3:=by
 obtain ⟨v1,v2,g1,g2,g3⟩:=h2;exact ⟨v1,v2,h1.trans (g1.mono h1.size),g2,zb.btw' h1 g1 g3 h3⟩
set_option maxRecDepth 20000 in
set_option maxHeartbeats 8000000 in
theorem zvy (ls:List Ma) (MA:Option Addr) (mc:Nat) (D:Nat→Prop) (Pre:World→Prop) (n0 N:Nat) (T:Ans) (f0 f:Value) (bb:Bool) (w:World) (r:Rq) (FA:Option Addr) (fc:Nat) (TA:Option Addr) (tc:Nat)
  (hff:(bb=true∧f0= .nilFunc∧f= .func (.func 33) #[] #[])∨(bb=false∧(∃g lb,f0= .func (.func g) #[] lb)∧f=f0))
  (hE:Env D Pre w) (hP:Pre w) (hX:Nx D Pre n0 N w f T) (hn0:n0≤w.heap.size) (hN8:8≤N) (hN:N+2*ls.length≤1099511627776)
  (hM:zQ D w MA (zbU ls)) (hO:∀x∈ls,zQ D w x.2.1 (x.1.list.map .string)∧x.1.list.length≤x.2.2∧zaY x.1) (hll:ls.length≤1048576) (hF:zQ D w FA (zj r.fields)) (hT:zQ D w TA (zj r.trailers)) (hr:zcO r):
  Calls Tryz.prog 15 #[.slice MA ls.length mc,rqV r FA fc TA tc,f0] w (zcB D n0 (N+2*ls.length) (zg6 (zh2 (ls.map (·.1)) T) r) w):=by
 have hmf:∀(fn:Fn) (first cap:Array Value) (w:World),(Instr.makeFunc fn first cap).run Tryz.prog w= .ok (.func fn first cap) w:=fun _ _ _ _=>rfl
 have HE:=hid hE;have HL:=hid hE.low;have HB0:=hid (zgG w (zu r FA fc TA tc));have HX0:=hid (show Fk D Pre n0 N T ls ls.length (Y2 w (zu r FA fc TA tc)) f by
  unfold Fk;rw[List.drop_length,Nat.sub_self,Nat.mul_zero,Nat.add_zero];exact hX.later (zb.of (zgG _ _)))
 have HCALL:=hid (fun (W:World) (h:Below w.heap.size w W)=>(⟨hE.stays _ _ (zb.refl _ _) hP h,hF.below h,hT.below h⟩:Pre W∧zQ D W FA (zj r.fields)∧zQ D W TA (zj r.trailers)));have HM:=hid (fun (W:World) (h:zb D w W)=>hM.keep h);have HO:=hid (fun (W:World) (h:zb D w W) x hx=>(⟨(hO x hx).1.keep h,(hO x hx).2⟩:zQ D W x.2.1 (x.1.list.map .string)∧x.1.list.length≤x.2.2∧zaY x.1));have HN0:=hid hn0;have HR:=hid hr;have HBB:=hid hff;have HWK:=hid ziF;clear hE hP hX hn0 hM hO hF hT hr hff;unfold rqV
 go_enter Tryz.func15,Tryz.ntmps15
 go_upto_region 2 with (fail)
 go_cut [14] (fun x wx=>x= .bool bb∧wx=Y2 w (zu r FA fc TA tc))
 case first=>
  rcases HBB.out with ⟨rfl,rfl,_⟩|⟨rfl,⟨g,lb,rfl⟩,_⟩
  ·have hfe:∀w:World,(binOp .eql 53 Value.nilFunc Value.nilFunc).run Tryz.prog w= .ok (.bool true) w:=fun _=>by kernel_rfl
   go_wp2_with fail
   go_meet
   exact ⟨rfl,rfl⟩
  ·have hfe:∀w:World,(binOp .eql 53 (.func (.func g) #[] lb) Value.nilFunc).run Tryz.prog w= .ok (.bool false) w:=fun _=>rfl
   go_wp2_with fail
   go_meet
   exact ⟨rfl,rfl⟩
 obtain ⟨rfl,rfl⟩:=hcut
 go_upto_if 14 with (fail)
 go_cut [7] (fun x wx=>x=f∧wx=Y2 w (zu r FA fc TA tc))
 case first=>
  rcases HBB.out with ⟨rfl,h0,hf⟩|⟨rfl,h0,hf⟩
  ·clear h0
   have HF:=hid hf;clear hf
   go_wp2_with fail
   go_meet
   exact ⟨HF.out.symm,rfl⟩
  ·clear h0
   have HF:=hid hf;clear hf
   go_wp2_with fail
   go_meet
   exact ⟨HF.out.symm,rfl⟩
 obtain ⟨hu7,rfl⟩:=hcut;rw[hu7];clear hu7
 go_wp2_with fail
 go_loopw [7,8] (fun fv i wr=>∃k:Nat,k≤ls.length∧i= .int .i64 ((k:Int) - 1)∧Hid (Fk D Pre n0 N T ls k wr fv)∧Below (w.heap.size+2) (Y2 w (zu r FA fc TA tc)) wr) (fun _ i _=>(RowKit.intOf i+1).toNat)
 case atStart=>exact ⟨ls.length,Nat.le_refl _,rfl,HX0,by rw[←zdt w (zu r FA fc TA tc)];exact Below.refl _ _⟩
 case round=>
  clear HX0 HBB;obtain ⟨k,hk,rfl,HF,hbx⟩:=hrel;have hsz:=hbx.size;rw[zdt] at hsz;have hbw:Below w.heap.size w wr:=HB0.out.trans (hbx.mono (by omega));have hkY:zb D (Y2 w (zu r FA fc TA tc)) wr:=zb.of (by rw[zdt];exact hbx);have HKW:=hid (show zb D w wr from zb.of hbw)
  by_cases hk0:k=0
  ·subst hk0
   obtain ⟨g,lb,rfl,he,hc⟩:=HF.out;obtain ⟨hp,hf,ht⟩:=HCALL.out wr hbw;have HC:=hid (hc wr r FA fc TA tc (zb.refl _ _) hp hf ht HR.out);have q0:=zhC HL.out hkY 0;have q1:=zhC HL.out hkY 1;have q2:=zhC HL.out hkY 2;have q3:=zhC HL.out hkY 3;have q4:=zhC HL.out hkY 4;have q5:=zhC HL.out hkY 5;have q6:=zhC HL.out hkY 6;simp only[zu] at q0 q1 q2 q3 q4 q5 q6;have hzw:w.heap.size<wr.heap.size:=by omega
   have HBX:=hid hbx;have HBW:=hid hbw;clear hc hp hf ht hkY hbx hbw hsz
   go_wp2_with fail
   refine HC.out.mono ?_;rintro e w2 ⟨y,A1,c1,rfl,hrow,hfit,hTT,hk⟩;obtain ⟨⟨⟨r0,r1,r2,r3⟩,f0',f1,f2,f3⟩,hz⟩:=znu HL.out (zb.ahead (by rw[zdt];exact HBX.out) hk);have hS:zg6 (zh2 (ls.map (·.1)) T) r wr y A1 c1 w2:=⟨wr,w2,Below.refl _ _,hTT,zb.refl _ _⟩;have hwl:w.heap.size+1<wr.heap.size:=by have h1:=HBX.out.size;rw[zdt] at h1;omega
   have HE2:=hid (zos (N:=N+2*ls.length) (b:=w.heap.size+1) (R:=zg6 (zh2 (ls.map (·.1)) T) r) (fun w3=>fun g1 g2 g3=>znA g1 g2 g3) HN0.out HBW.out (Nat.le_succ _) hwl hrow (hfit.more (Nat.le_refl _)) hS hk (.int .i64 y.status) (.string y.reason) (.slice A1 y.fields.length c1) (.string y.body));clear hrow hfit hTT hk HC hS q0 q1 q2 q3 q4 q5 q6 hwl;unfold rsV at *
   go_wp2
   exact bodyPost_ret (v:=rsV y A1 c1) (by simp[results,Tryz.results15,go_sem,rsV,r0,r1,r2,r3]) rfl HE2.out
  ·obtain ⟨j,rfl⟩:∃j,k=j+1:=⟨k - 1,by omega⟩
   have hji:(((j+1:Nat)):Int) - 1=(j:Int):=by omega
   rw[hji];have hjl:(j:Int)<(ls.length:Int):=by omega
   obtain ⟨⟨m,A,c⟩,hx⟩:=zD (l:=ls) (k:=j) (by omega);obtain ⟨b,off,rfl,hb,_,hcell⟩:=(HM.out wr HKW.out).mid hx;have d0:wr.cell? ⟨b,off+j*5,none⟩=some (.int .i64 m.kind):=hcell 0 _ rfl;have d1:wr.cell? ⟨b,off+j*5+1,none⟩=some (.string m.name):=hcell 1 _ rfl;have d2:wr.cell? ⟨b,off+j*5+2,none⟩=some (.string m.value):=hcell 2 _ rfl;have d3:wr.cell? ⟨b,off+j*5+3,none⟩=some (.slice A m.list.length c):=hcell 3 _ rfl;have d4:wr.cell? ⟨b,off+j*5+4,none⟩=some (.int .i64 m.n):=hcell 4 _ rfl;obtain ⟨hA,hcap,hfm⟩:=HO.out wr HKW.out _ (List.mem_of_getElem? hx);dsimp only at hA hcap hfm;have HA:=hid hA;have HFM:=hid hfm;have HCAP:=hid hcap;have HGL:=hid (HE.out.glob wr HKW.out);have HCK:=hid (fun o=>zsv m A c (wr.alloc o) (hA.row.alloc o) hcap hfm (HGL.out.beyond ((Below.refl _ wr).alloc (Nat.le_refl _) o)));have HX:=hid hx;clear hcell hx hA hcap hfm hji hk0;unfold zL at HCK
   cases hcm:zr m
   ·have HSK:=hid (zv7 (x:=(m,A,c)) HX.out hcm HF.out)
    rw[hcm] at HCK;have HCM:=hid hcm;clear hcm HF
    go_wp2_with fail
    refine (HCK.out _).mono ?_;rintro e w1 ⟨rfl,hb1⟩;have hb2:Below wr.heap.size wr w1:=zbL hb1 rfl;have HB2:=hid (hbx.trans (hb2.mono (by omega)));have HF2:=hid (show Fk D Pre n0 N T ls j w1 u7 from HSK.out.later (zb.of hb2));rw[show zaq false=190 from rfl];clear hb1 hb2 hbx hbw d0 d1 d2 d3 d4 HSK
    go_wp2
    go_roundw
    case rel=>exact ⟨j,by omega,rfl,HF2,HB2.out⟩
    case measure=>simp[RowKit.intOf]
   ·rw[hcm] at HCK
    have HCM:=hid hcm;clear hcm;obtain ⟨dg,hdg,hdo⟩:=zuj HCM.out;obtain ⟨g,lb,rfl,_,_⟩:=HF.out
    go_wp2_with fail
    refine (HCK.out _).mono ?_;rintro e w1 ⟨rfl,hb1⟩;rw[show zaq true=0 from rfl];have b1':Below (wr.heap.size+1) (wr.alloc (.cells #[.int .i64 m.kind,.string m.name,.string m.value,.slice A m.list.length c,.int .i64 m.n] 24)) w1:=by simpa using hb1
    clear hb1;have HB3:=hid (zw b1');have hMW:(wr.alloc (.cells #[.int .i64 m.kind,.string m.name,.string m.value,.slice A m.list.length c,.int .i64 m.n] 24)).heap.size=wr.heap.size+1:=by simp
    have hMid:∀w' i,Below (wr.heap.size+1) (wr.alloc (.cells #[.int .i64 m.kind,.string m.name,.string m.value,.slice A m.list.length c,.int .i64 m.n] 24)) w'→w'.cell? ⟨wr.heap.size,i,none⟩=(zf m A c)[i]?:=fun w' i h=>(zH h i).1
    have hWM:Below wr.heap.size wr (wr.alloc (.cells #[.int .i64 m.kind,.string m.name,.string m.value,.slice A m.list.length c,.int .i64 m.n] 24)):=(Below.refl _ _).alloc (Nat.le_refl _) _;have HMID:=hid hMid;have HMW:=hid hMW;have HWM:=hid hWM;clear hMid hMW hWM;generalize wr.alloc (.cells #[.int .i64 m.kind,.string m.name,.string m.value,.slice A m.list.length c,.int .i64 m.n] 24)=MW at *;have hsz1:wr.heap.size+1≤w1.heap.size:=by rw[←HMW.out];exact b1'.size
    have hs1z:wr.heap.size<w1.heap.size:=by omega
    have hkr:1≤m.kind∧m.kind≤10:=by
     have h:=HCM.out;unfold zr zcz at h;simp at h;exact h.1
    obtain ⟨q,hq⟩:∃q:Nat,q=(m.kind - 1).toNat:=⟨_,rfl⟩;rw[←hq] at hdg;have hw1:IntKind.i64.wrap (m.kind - 1)=(q:Int):=by rw[show m.kind - 1=(q:Int) by omega];exact IntWalk.i64_in _ (by omega)
    have hj0:(0:Int)≤(q:Int):=by omega
    have hj1:(q:Int)<10:=by omega
    have hj2:q<10:=by omega
    have HS:=hid (fun (w':World) (h:Below (wr.heap.size+1) MW w')=>(⟨h,HMID.out w' 0 h⟩:Below (wr.heap.size+1) MW w'∧w'.cell? ⟨wr.heap.size,0,none⟩=some (.int .i64 m.kind)));have HWJ:=hid (show ∀w:World,Calls Tryz.prog 35 #[] w fun e w'=>e= .returned (.slice (some ⟨w.heap.size,0,none⟩) 10 10)∧w'.cell? ⟨w.heap.size,q*3+2,none⟩=some (.func (.func dg) #[] #[])∧w.heap.size<w'.heap.size∧Below w.heap.size w w' by
     intro w;refine (HWK.out w).mono fun e w' h=>⟨h.1,?_,?_,?_⟩
     ·rw[h.2]
      exact (World.cell?_alloc_at _ _ _ _ rfl).trans hdg
     ·rw[h.2];simp
     ·rw[h.2];exact (Below.refl _ _).alloc (Nat.le_refl _) _)
    have HKR:=hid hkr;clear hq hdg hkr hkY hbw d0 d1 d2 d3 d4 hb hsz;have HBX:=hid hbx;clear hbx;obtain ⟨_,d0⟩:=HS.out w1 b1'
    go_upto_region 9 with (fail)
    go_cut [10,11] (fun x y wx=>zp8 (wr.heap.size+1) MW (.func (.func dg) #[] #[]) (.func (.func g) #[] lb) x y wx)
    case first=>
     go_region_with (first
      |(go_at_call 35;refine (HWJ.out _).mono ?_;rintro e w2 ⟨rfl,k2,hs2,bw⟩;(have bq:Below w1.heap.size w1 w2:=(by refine zif (W:=w1) rfl bw (by simp) ?_;repeat (first|exact Below.refl _ _|(with_reducible refine zar ?_)|(with_reducible refine zby rfl ?_ _))));(have bz:wr.heap.size<w2.heap.size:=Nat.lt_of_lt_of_le hs1z bq.size);(have d1:w2.cell? ⟨wr.heap.size,0,none⟩=some (.int .i64 m.kind):=(bq.cell hs1z).trans d0);(have bs:w1.heap.size<w2.heap.size:=Nat.lt_of_le_of_lt (by first|(simp;done)|(simp;omega)) hs2);(have hb2:Below (wr.heap.size+1) MW w2:=zif HMW.out bq rfl b1');(first|(obtain ⟨x0,y0,x1,y1⟩:=zmp (W:=w1) bw rfl;change w2.cell? ⟨w1.heap.size,0,none⟩=_ at x0;change w2.frozen? ⟨w1.heap.size,0,none⟩=_ at y0;change w2.cell? ⟨w1.heap.size+1,0,none⟩=_ at x1;change w2.frozen? ⟨w1.heap.size+1,0,none⟩=_ at y1;(have bt:w1.heap.size+1<w2.heap.size:=Nat.lt_of_le_of_lt (by first|(simp;done)|(simp;omega)) hs2))|(obtain ⟨x0,y0⟩:=zmH (W:=w1) bw rfl;change w2.cell? ⟨w1.heap.size,0,none⟩=_ at x0;change w2.frozen? ⟨w1.heap.size,0,none⟩=_ at y0)|skip);(first|simp at k2|skip);(first|simp at hs2|skip)))
     all_goals
      go_wp2_with fail
      go_meet
      first
       |exact zwu HMW.out hb2
       |exact zwV HMW.out hb2
       |exact zwE HMW.out hb2 hsz1 bs x0
       |exact zwQ HMW.out hb2 hsz1 bs x0
       |exact zwY hb2 hsz1 bt x0 x1
       |exact zwl hb2 hsz1 bt x0 x1
    obtain ⟨p,p2,rfl,rfl,hp,hp2,⟨hpl,hql⟩,⟨hpn,hqn⟩,hbc⟩:=hcut;have hwc:Below wr.heap.size wr wc:=HWM.out.trans (hbc.mono (by omega));have hkc:zb D w wc:=HKW.out.step hwc;have hwm:w.heap.size≤wr.heap.size:=HKW.out.size;have hmz:wr.heap.size<wc.heap.size:=by have:=hbc.size;rw[HMW.out] at this;omega
    have hnd:∀b,w.heap.size≤b→¬D b:=fun b h hd=>by have:=HL.out b hd;omega
    have HF2:=hid (zxa (x:=(m,A,c)) HX.out HCM.out (zvV (m:=m) (A:=A) (c:=c) (b1:=p) (b2:=wr.heap.size) (b3:=p2) hdo (HE.out.later hkc) (HF.out.later (zb.of hwc)) (Nat.le_trans HN0.out hkc.size) (by omega) (by omega) (HA.out.keep (zb.of hwc)) HCAP.out HFM.out hp (fun i _=>HMID.out wc i hbc) hp2 ⟨⟨hpl,hmz,hql⟩,hnd p (by omega),hnd _ hwm,hnd p2 (by omega)⟩));have HB4:=hid (HBX.out.trans (hwc.mono (by have:=HBX.out.size;rw[zdt] at this;omega)));clear hp hp2 hpl hql hpn hqn hbc hwc hkc hwm hmz hnd hdo b1' d0 hsz1 hs1z hw1 hj0 hj1 hj2
    go_wp2
    go_roundw
    case rel=>exact ⟨j,by omega,rfl,HF2,HB4.out⟩
    case measure=>simp[RowKit.intOf]
end Go.Proofs.YtbnafbdhomdcoaaGreatDoor
