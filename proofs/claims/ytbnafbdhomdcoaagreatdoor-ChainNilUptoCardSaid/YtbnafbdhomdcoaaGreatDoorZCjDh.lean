/-
 CjDh, without what this claim does not reach.
-/
import Derived.Test.YtbnafbdhomdcoaaGreatDoorZCjDg
import Derived.Test.YtbnafbdhomdcoaaGreatDoorZm8
import Derived.Test.YtbnafbdhomdcoaaGreatDoorZm4
namespace Go.Proofs.YtbnafbdhomdcoaaGreatDoor
open Go.RowKit Go.Shelf Go.Lib
theorem zr4 {m:zY} {r:Rq} (hk:m.kind=8) (h:zcq m r=none):zx m r= .inl r∧zB m r=fun y=>{y with fields:=y.fields++zb2 m}:=by
 refine ⟨?_,?_⟩
 ·unfold zx zcV
  rw[if_neg (by omega),if_neg (by omega),if_neg (by omega),if_neg (by omega),if_pos hk,h]
 ·funext y
  unfold zB;rw[if_neg (by omega),if_neg (by omega),if_neg (by omega),if_pos hk,h];simp
theorem zqR {m:zY} {r:Rq} {o:ByteArray} (hk:m.kind=8) (h:zcq m r=some o) (hf:zcV m r=none):zx m r= .inl r∧zB m r=fun y=>{y with fields:=(y.fields++[(za0,o)])++zb2 m}:=by
 refine ⟨?_,?_⟩
 ·unfold zx
  rw[if_neg (by omega),if_neg (by omega),if_neg (by omega),if_neg (by omega),if_pos hk,hf]
 ·funext y
  unfold zB;rw[if_neg (by omega),if_neg (by omega),if_neg (by omega),if_pos hk,h]
theorem zpt {m:zY} {r:Rq} {x:ByteArray×ByteArray} (hk:m.kind=8) (hf:zcV m r=some x):zx m r= .inr (zeB m r x):=by
 unfold zx;rw[if_neg (by omega),if_neg (by omega),if_neg (by omega),if_neg (by omega),if_pos hk,hf]
theorem zlZ {m:zY} {r:Rq} (h:zaD r.fields zaT=none):zcq m r=none:=by unfold zcq;rw[h]
theorem ziU {m:zY} {r:Rq} {s:ByteArray} (h:zaD r.fields zaT=some s):zcq m r=if zaW m=true then some zcl else if zb5 m.list s=true then some s else none:=by unfold zcq;rw[h]
theorem zr1 {m:zY} {r:Rq} (h:zaD r.fields zd5=none∨¬r.method=zdI):zcV m r=none:=by
 unfold zcV
 cases zcq m r with
 |none=>rfl
 |some o=>
  dsimp only
  cases ha:zaD r.fields zd5 with
  |none=>rfl
  |some v=>
   dsimp only
   rcases h with h|h
   ·rw[ha] at h;cases h
   ·rw[if_neg h]
theorem zlB {m:zY} {r:Rq} {o v:ByteArray} (h:zcq m r=some o) (ha:zaD r.fields zd5=some v) (hm:r.method=zdI):zcV m r=some (o,if m.value.size=0 then v else m.value):=by
 unfold zcV;rw[h];dsimp only;rw[ha];dsimp only;rw[if_pos hm]
theorem zer:zaT.size≤maxLen:=by unfold maxLen;decide +kernel
theorem zkm:zd5.size≤maxLen:=by unfold maxLen;decide +kernel
theorem zqd:zcF.size≤maxLen:=by unfold maxLen;decide +kernel
def DoR (m:zY) (g:FuncId) (r:Rq):Prop:=∀(D:Nat→Prop) (Pre:World→Prop) (n0 N:Nat) (T:Ans) (f:Value) (w:World) (A:Option Addr) (c:Nat) (FA:Option Addr) (fc:Nat) (TA:Option Addr) (tc:Nat),
  Env D Pre w→Pre w→Nx D Pre n0 N w f T→n0≤w.heap.size→8≤N→N≤1099511627776→zQ D w A (m.list.map .string)→m.list.length≤c→zQ D w FA (zj r.fields)→zQ D w TA (zj r.trailers)→zaY m→zcO r→
   Calls Tryz.prog g #[zL m A c,rqV r FA fc TA tc,f] w (zcB D n0 (N+2) (doT m T r) w)
theorem zQ.lit {D:Nat→Prop} {W:World} {a b:ByteArray} (hD:∀k,D k→k<W.heap.size):zQ D (W.alloc (.cells #[.string a,.string b] 59)) (some ⟨W.heap.size,0,none⟩) (zj [(a,b)]):=fun hl=>by
 obtain ⟨b0,off,e,hb,hc⟩:=zaV W a b rfl hl;injection e with e;injection e with e e2;subst e;subst e2;exact ⟨_,_,rfl,hb,fun hd=>by have:=hD _ hd;omega,hc⟩
theorem zfW {N:Nat} {y:Rs} {l:List Fl} (h:zbH N y) (hl:l.length≤2) (hw:zd6 l):zbH (N+2) {y with fields:=y.fields++l}:=
 ⟨by show (y.fields++l).length≤_;have:=h.many;rw[List.length_append];omega,zan h.wide hw⟩
theorem zhE {m:zY} {w:World} {A:Option Addr} (h:Row w A (m.list.map .string)) (h0:0<m.list.length):∃b off s0,A=some ⟨b,off,none⟩∧b<w.heap.size∧w.cell? ⟨b,off,none⟩=some (.string s0)∧(s0.toList==[42])=zaW m:=by
 obtain ⟨s,hs⟩:=zD h0;obtain ⟨b,off,e,hb,hc⟩:=h.str hs;exact ⟨b,off,s,e,hb,by simpa using hc,by rw[ze5,zfM hs]⟩
set_option maxRecDepth 20000 in
set_option maxHeartbeats 16000000 in
theorem znO {m:zY} {r:Rq} (hkd:m.kind=8) (h0l:0<m.list.length) (hfr:zcq m r=none):DoR m 71 r:=by
 intro D Pre n0 N T f w A c FA fc TA tc hE hP hX hn0 hN8 hN hA hcap hF hT hm hr;obtain ⟨g,lb,rfl,he,hc⟩:=hX;obtain ⟨lb0,lo0,sf,rfl,hlb,hlc,hst⟩:=zhE hA.row h0l;have HC:=hid (zdH fc tc hE hP hc hF hT hr);have HL:=hid hE.low;have HG:=hid (fun W h=>hE.globC (W:=W) h);have HN0:=hid hn0;have HN8:=hid hN8;have HN:=hid hN;have HON:=hid (fun (name:ByteArray) (hz:name.size≤maxLen) (W:World) (h:Below w.heap.size w W)=>zgq r FA fc TA tc name W (hF.below h).row hr hz);have HCT:=hid (fun (s:ByteArray) (W:World) (h:Below w.heap.size w W)=>zcC (some ⟨lb0,lo0,none⟩) c m.list s W (hA.below h).row (zg2 hm.list).1);have HVR:=hid (fun (W:World) (h:zb D w W)=>zlw m (some ⟨lb0,lo0,none⟩) c W (hA.keep h).row h0l);have HVF:=hid (zfR m);have HFB:=hid (fun (W:World) (h:Below w.heap.size w W)=>((h.cell (p:=⟨lb0,lo0,none⟩) hlb).trans hlc));have HSC:=hid (fun (W:World) (h:zb D (X3 w (zf m (some ⟨lb0,lo0,none⟩) c) (zu r FA fc TA tc)) W)=>(⟨(zh hE.low h).1.1,(zh hE.low h).1.2⟩:(W.cell? ⟨w.heap.size,0,none⟩=some (.int .i64 m.kind)∧W.cell? ⟨w.heap.size,1,none⟩=some (.string m.name)∧W.cell? ⟨w.heap.size,2,none⟩=some (.string m.value)∧W.cell? ⟨w.heap.size,3,none⟩=some (.slice (some ⟨lb0,lo0,none⟩) m.list.length c)∧W.cell? ⟨w.heap.size,4,none⟩=some (.int .i64 m.n))∧(W.cell? ⟨w.heap.size+1,0,none⟩=some (.string r.method)∧W.cell? ⟨w.heap.size+1,1,none⟩=some (.string r.target)∧W.cell? ⟨w.heap.size+1,2,none⟩=some (.int .i64 r.major)∧W.cell? ⟨w.heap.size+1,3,none⟩=some (.int .i64 r.minor)∧W.cell? ⟨w.heap.size+1,4,none⟩=some (.slice FA r.fields.length fc)∧W.cell? ⟨w.heap.size+1,5,none⟩=some (.string r.body)∧W.cell? ⟨w.heap.size+1,6,none⟩=some (.slice TA r.trailers.length tc))));obtain ⟨hai,hbe⟩:=zr4 hkd hfr;have HAI:=hid hai;have HBE:=hid hbe;have hfs:zaD r.fields zaT=none∨∃s,zaD r.fields zaT=some s∧zaW m=false∧zb5 m.list s=false:=by
  cases hon:zaD r.fields zaT with
  |none=>exact .inl rfl
  |some s=>
   rw[ziU hon] at hfr
   cases h1:zaW m
   ·cases h2:zb5 m.list s
    ·exact .inr ⟨s,rfl,rfl,h2⟩
    ·rw[h1,h2] at hfr;cases hfr
   ·rw[h1] at hfr;cases hfr
 clear hai hbe hfr;have hi0:(0:Int)<(m.list.length:Int):=by omega
 have hX0:=Below.refl (X3 w (zf m (some ⟨lb0,lo0,none⟩) c) (zu r FA fc TA tc)).heap.size (X3 w (zf m (some ⟨lb0,lo0,none⟩) c) (zu r FA fc TA tc));have hWx:Below w.heap.size w (X3 w (zf m (some ⟨lb0,lo0,none⟩) c) (zu r FA fc TA tc)):=zae w _ _;clear hc hE hP hn0 hN8 hN hA hcap hF hT hm hr hkd h0l;generalize zb2 m=vp at *;unfold zL rqV at *
 rcases hfs with hon|⟨s,hon,hs1,hs2⟩
 ·have HO1:=hid (fun W h=>HON.out zaT zer W h)
  rw[hon] at HO1;unfold zbO zaT at HO1;clear hon HON
  go_enter Tryz.func71,Tryz.ntmps71
  go_wp2_with fail
  refine (HO1.out _ hWx).mono ?_;rintro e w1 ⟨rfl,hb1⟩;have hb1:Below (X3 w (zf m (some ⟨lb0,lo0,none⟩) c) (zu r FA fc TA tc)).heap.size (X3 w (zf m (some ⟨lb0,lo0,none⟩) c) (zu r FA fc TA tc)) w1:=hb1;have hlb:=Nat.lt_of_lt_of_le hlb (zl hb1).size;obtain ⟨⟨⟨m0,m1,m2,m3,m4⟩,a0,a1,a2,a3,a4,a5,a6⟩,⟨r0,r1,r2,r3⟩,f0,f1,f2,f3⟩:=zh HL.out (zb.of (D:=D) hb1);have hz2:=zS hb1;have hz1:=Nat.lt_of_succ_lt hz2;have hz0:=Nat.lt_of_succ_lt hz1;have hlc1:=HFB.out _ (zl hb1)
  go_wp2_with fail
  have hBd:=zaM hb1;have hS0:=HSC.out _ (zb.of hBd);refine zO (t:=6) (S:=fun W=>(W.cell? ⟨w.heap.size,0,none⟩=some (.int .i64 m.kind)∧W.cell? ⟨w.heap.size,1,none⟩=some (.string m.name)∧W.cell? ⟨w.heap.size,2,none⟩=some (.string m.value)∧W.cell? ⟨w.heap.size,3,none⟩=some (.slice (some ⟨lb0,lo0,none⟩) m.list.length c)∧W.cell? ⟨w.heap.size,4,none⟩=some (.int .i64 m.n))∧(W.cell? ⟨w.heap.size+1,0,none⟩=some (.string r.method)∧W.cell? ⟨w.heap.size+1,1,none⟩=some (.string r.target)∧W.cell? ⟨w.heap.size+1,2,none⟩=some (.int .i64 r.major)∧W.cell? ⟨w.heap.size+1,3,none⟩=some (.int .i64 r.minor)∧W.cell? ⟨w.heap.size+1,4,none⟩=some (.slice FA r.fields.length fc)∧W.cell? ⟨w.heap.size+1,5,none⟩=some (.string r.body)∧W.cell? ⟨w.heap.size+1,6,none⟩=some (.slice TA r.trailers.length tc))) (by kernel_rfl) hS0 (fun hHeld=>?_);refine za 0 (s:=hHeld) (h:=?_);refine za 1 (y:=fun w hSw=>by (try dsimp only at hSw);obtain ⟨⟨s0,s1,s2,s3,s4⟩,t0,t1,t2,t3,t4,t5,t6⟩:=hSw;exact yl) (s:=hHeld) (h:=?_);refine za 3 (y:=fun w hSw=>by (try dsimp only at hSw);obtain ⟨⟨s0,s1,s2,s3,s4⟩,t0,t1,t2,t3,t4,t5,t6⟩:=hSw;exact yl) (s:=hHeld) (h:=?_);have hKc:zb D (X3 w (zf m (some ⟨lb0,lo0,none⟩) c) (zu r FA fc TA tc)) (w1).drew:=zb.of hBd;have hBc:=hBd;clear hS0 hHeld;refine zc 2 (h:=fun K hK=>?_)
  go_simp
  refine (HC.out _ (zl hBc)).mono ?_;rintro e wq1 ⟨y,A1,c1,rfl,hrow,hfit,hTT,hk⟩;obtain ⟨ys,yr,yf,yb⟩:=y;unfold rsV;dsimp only at hrow hfit ⊢;have hX1:=zl hBc;have hwl:=zS hBc;have hKc:=hKc.trans hk
  skip
  have hn:Below wq1.heap.size wq1 wq1:=Below.refl _ _;clear hBc
  (try go_wp2_with fail)
  refine hK.out _ _ (.inr (HSC.out _ hKc)) (fun _=>nm ?_);clear hK K;refine zc 4 (h:=fun K hK=>?_)
  go_simp
  go_at_call 111
  refine (HVR.out _ (zb.ahead hWx hKc)).mono ?_;rintro e wq2 ⟨VA,vc,rfl,hov,hbv⟩;have hcapv:=zdq hov;have hr3:=hrow.below hbv;have hr4:zQ D wq2 VA (zj vp):=zQ.of_own hov hov (fun k hd=>Nat.lt_of_lt_of_le (HL.out k hd) (zb.ahead hWx hKc).size);have hn:=hn.trans (hbv.mono hn.size);have hKc:zb D (X3 w (zf m (some ⟨lb0,lo0,none⟩) c) (zu r FA fc TA tc)) wq2:=hKc.step hbv;clear hov;clear hbv
  (try go_wp2_with fail)
  refine hK.out _ _ (.inr (HSC.out _ hKc)) (fun _=>nm ?_);clear hK K;refine zc 5 (h:=fun K hK=>?_)
  go_simp
  go_at_call 93
  refine (zbV ys yr yb A1 _ _ _ _ _ _ hr3.row hr4.row (Nat.le_trans hfit.many (Nat.le_trans HN.out (by decide))) (by have:=HVF.out.2;omega)).mono ?_;rintro e wq5 ⟨B5,d5,rfl,hol,hbv⟩;have hr6:=hr3.below hbv;have hr7:=hr4.below hbv;have hr8:zQ D wq5 B5 _:=zQ.of_own hol hol (fun k hd=>Nat.lt_of_lt_of_le (HL.out k hd) (zb.ahead hWx hKc).size);have hnl:=hn.size;have hn:=hn.trans (hbv.mono hn.size);have hKc:zb D (X3 w (zf m (some ⟨lb0,lo0,none⟩) c) (zu r FA fc TA tc)) wq5:=hKc.step hbv;have hbl:=hbv
  (try go_wp2_with fail)
  refine hK.out _ _ (.inr (HSC.out _ hKc)) (fun _=>nm ?_);clear hK K;refine zc 6 (h:=fun K hK=>?_);obtain ⟨_,⟨r0,r1,r2,r3⟩,f0,f1,f2,f3⟩:=zh HL.out hKc;have hz2:w.heap.size+1+1<wq5.heap.size:=by have:=zbp hKc;omega
  have HKZ:=hid (show zb (Btw w (w1).drew) wq1 wq5 from zb.of hn);have hsb:((w1).drew).heap.size≤(wq2).heap.size:=Nat.le_trans hk.size hnl;have HO:=hid (zn (b':=((w1).drew).heap.size) hol hsb);have HTT:=hid hTT;have HK2:=hid hk;have HFT:=hid hfit;have HX1:=hid hX1;have HWL:=hid (show w.heap.size+1+1<((w1).drew).heap.size from hwl);clear hfit hTT hk hKc hn hol hbl hrow hX1 hsb hcapv hnl hwl hr6 hr7 hr8
  go_simp
  refine hK.out _ _ (.inl (by rfl)) (fun _=>nm ?_);clear hK K;refine zy (by kernel_rfl) ?_ _
  go_wp2
  exact bodyPost_ret (v:=rsV ⟨ys,yr,yf++vp,yb⟩ B5 d5) (by simp[results,Tryz.results71,go_sem,rsV,r0,r1,r2,r3]) rfl
   ((zdb (x:=⟨ys,yr,yf++vp,yb⟩) (F:=zB m r) (M:=N+2) (b:=w.heap.size+1+1) HL.out HX1.out (by omega) HWL.out HTT.out HK2.out HKZ.out HO.out (by rw[HBE.out]) (zfW HFT.out (Nat.le_trans HVF.out.2 (by decide)) HVF.out.1) _ _ _ _).imp (Nat.le_refl _) fun _ _ _ h=>zbc HAI.out h)
 ·have HO1:=hid (fun W h=>HON.out zaT zer W h)
  rw[hon] at HO1;unfold zbO zaT at HO1;have HCS:=hid (fun W h=>HCT.out s W h);rw[hs2] at HCS;rw[hs1] at hst;clear hon HON HCT hs1 hs2
  go_enter Tryz.func71,Tryz.ntmps71
  go_wp2_with fail
  refine (HO1.out _ hWx).mono ?_;rintro e w1 ⟨rfl,hb1⟩;have hb1:Below (X3 w (zf m (some ⟨lb0,lo0,none⟩) c) (zu r FA fc TA tc)).heap.size (X3 w (zf m (some ⟨lb0,lo0,none⟩) c) (zu r FA fc TA tc)) w1:=hb1;have hlb:=Nat.lt_of_lt_of_le hlb (zl hb1).size;obtain ⟨⟨⟨m0,m1,m2,m3,m4⟩,a0,a1,a2,a3,a4,a5,a6⟩,⟨r0,r1,r2,r3⟩,f0,f1,f2,f3⟩:=zh HL.out (zb.of (D:=D) hb1);have hz2:=zS hb1;have hz1:=Nat.lt_of_succ_lt hz2;have hz0:=Nat.lt_of_succ_lt hz1;have hlc1:=HFB.out _ (zl hb1)
  go_wp2_with fail
  refine (HCS.out _ (zl hb1)).mono ?_;rintro e w9 ⟨rfl,rfl⟩
  go_wp2_with fail
  have hBd:=zaM hb1;have hS0:=HSC.out _ (zb.of hBd);refine zO (t:=6) (S:=fun W=>(W.cell? ⟨w.heap.size,0,none⟩=some (.int .i64 m.kind)∧W.cell? ⟨w.heap.size,1,none⟩=some (.string m.name)∧W.cell? ⟨w.heap.size,2,none⟩=some (.string m.value)∧W.cell? ⟨w.heap.size,3,none⟩=some (.slice (some ⟨lb0,lo0,none⟩) m.list.length c)∧W.cell? ⟨w.heap.size,4,none⟩=some (.int .i64 m.n))∧(W.cell? ⟨w.heap.size+1,0,none⟩=some (.string r.method)∧W.cell? ⟨w.heap.size+1,1,none⟩=some (.string r.target)∧W.cell? ⟨w.heap.size+1,2,none⟩=some (.int .i64 r.major)∧W.cell? ⟨w.heap.size+1,3,none⟩=some (.int .i64 r.minor)∧W.cell? ⟨w.heap.size+1,4,none⟩=some (.slice FA r.fields.length fc)∧W.cell? ⟨w.heap.size+1,5,none⟩=some (.string r.body)∧W.cell? ⟨w.heap.size+1,6,none⟩=some (.slice TA r.trailers.length tc))) (by kernel_rfl) hS0 (fun hHeld=>?_);refine za 0 (s:=hHeld) (h:=?_);refine za 1 (y:=fun w hSw=>by (try dsimp only at hSw);obtain ⟨⟨s0,s1,s2,s3,s4⟩,t0,t1,t2,t3,t4,t5,t6⟩:=hSw;exact yl) (s:=hHeld) (h:=?_);refine za 3 (y:=fun w hSw=>by (try dsimp only at hSw);obtain ⟨⟨s0,s1,s2,s3,s4⟩,t0,t1,t2,t3,t4,t5,t6⟩:=hSw;exact yl) (s:=hHeld) (h:=?_);have hKc:zb D (X3 w (zf m (some ⟨lb0,lo0,none⟩) c) (zu r FA fc TA tc)) (w1).drew:=zb.of hBd;have hBc:=hBd;clear hS0 hHeld;refine zc 2 (h:=fun K hK=>?_)
  go_simp
  refine (HC.out _ (zl hBc)).mono ?_;rintro e wq9 ⟨y,A1,c1,rfl,hrow,hfit,hTT,hk⟩;obtain ⟨ys,yr,yf,yb⟩:=y;unfold rsV;dsimp only at hrow hfit ⊢;have hX1:=zl hBc;have hwl:=zS hBc;have hKc:=hKc.trans hk
  skip
  have hn:Below wq9.heap.size wq9 wq9:=Below.refl _ _;clear hBc
  (try go_wp2_with fail)
  refine hK.out _ _ (.inr (HSC.out _ hKc)) (fun _=>nm ?_);clear hK K;refine zc 4 (h:=fun K hK=>?_)
  go_simp
  go_at_call 111
  refine (HVR.out _ (zb.ahead hWx hKc)).mono ?_;rintro e wq10 ⟨VA,vc,rfl,hov,hbv⟩;have hcapv:=zdq hov;have hr11:=hrow.below hbv;have hr12:zQ D wq10 VA (zj vp):=zQ.of_own hov hov (fun k hd=>Nat.lt_of_lt_of_le (HL.out k hd) (zb.ahead hWx hKc).size);have hn:=hn.trans (hbv.mono hn.size);have hKc:zb D (X3 w (zf m (some ⟨lb0,lo0,none⟩) c) (zu r FA fc TA tc)) wq10:=hKc.step hbv;clear hov;clear hbv
  (try go_wp2_with fail)
  refine hK.out _ _ (.inr (HSC.out _ hKc)) (fun _=>nm ?_);clear hK K;refine zc 5 (h:=fun K hK=>?_)
  go_simp
  go_at_call 93
  refine (zbV ys yr yb A1 _ _ _ _ _ _ hr11.row hr12.row (Nat.le_trans hfit.many (Nat.le_trans HN.out (by decide))) (by have:=HVF.out.2;omega)).mono ?_;rintro e wq13 ⟨B5,d5,rfl,hol,hbv⟩;have hr14:=hr11.below hbv;have hr15:=hr12.below hbv;have hr16:zQ D wq13 B5 _:=zQ.of_own hol hol (fun k hd=>Nat.lt_of_lt_of_le (HL.out k hd) (zb.ahead hWx hKc).size);have hnl:=hn.size;have hn:=hn.trans (hbv.mono hn.size);have hKc:zb D (X3 w (zf m (some ⟨lb0,lo0,none⟩) c) (zu r FA fc TA tc)) wq13:=hKc.step hbv;have hbl:=hbv
  (try go_wp2_with fail)
  refine hK.out _ _ (.inr (HSC.out _ hKc)) (fun _=>nm ?_);clear hK K;refine zc 6 (h:=fun K hK=>?_);obtain ⟨_,⟨r0,r1,r2,r3⟩,f0,f1,f2,f3⟩:=zh HL.out hKc;have hz2:w.heap.size+1+1<wq13.heap.size:=by have:=zbp hKc;omega
  have HKZ:=hid (show zb (Btw w (w1).drew) wq9 wq13 from zb.of hn);have hsb:((w1).drew).heap.size≤(wq10).heap.size:=Nat.le_trans hk.size hnl;have HO:=hid (zn (b':=((w1).drew).heap.size) hol hsb);have HTT:=hid hTT;have HK2:=hid hk;have HFT:=hid hfit;have HX1:=hid hX1;have HWL:=hid (show w.heap.size+1+1<((w1).drew).heap.size from hwl);clear hfit hTT hk hKc hn hol hbl hrow hX1 hsb hcapv hnl hwl hr14 hr15 hr16
  go_simp
  refine hK.out _ _ (.inl (by rfl)) (fun _=>nm ?_);clear hK K;refine zy (by kernel_rfl) ?_ _
  go_wp2
  exact bodyPost_ret (v:=rsV ⟨ys,yr,yf++vp,yb⟩ B5 d5) (by simp[results,Tryz.results71,go_sem,rsV,r0,r1,r2,r3]) rfl
   ((zdb (x:=⟨ys,yr,yf++vp,yb⟩) (F:=zB m r) (M:=N+2) (b:=w.heap.size+1+1) HL.out HX1.out (by omega) HWL.out HTT.out HK2.out HKZ.out HO.out (by rw[HBE.out]) (zfW HFT.out (Nat.le_trans HVF.out.2 (by decide)) HVF.out.1) _ _ _ _).imp (Nat.le_refl _) fun _ _ _ h=>zbc HAI.out h)
end Go.Proofs.YtbnafbdhomdcoaaGreatDoor
