/-
 CjDi, without what this claim does not reach.
-/
import Derived.Test.YtbnafbdhomdcoaaGreatDoorZCjDh
namespace Go.Proofs.YtbnafbdhomdcoaaGreatDoor
open Go.RowKit Go.Shelf Go.Lib
theorem zpT {W w1 w3:World} {a b:Value} {t:TypeId} (hb1:Below W.heap.size W w1) (hb3:Below (w1.alloc (.cells #[a,b] t)).heap.size (w1.alloc (.cells #[a,b] t)) w3):Below W.heap.size W w3∧w3.cell? ⟨w1.heap.size,0,none⟩=some a∧w3.cell? ⟨w1.heap.size,1,none⟩=some b∧w1.heap.size<w3.heap.size:=by
 have h:Below (w1.heap.size+1) (w1.alloc (.cells #[a,b] t)) w3:=by simpa using hb3
 have h2:=hb1.alloc hb1.size (.cells #[a,b] t);exact ⟨h2.trans (hb3.mono h2.size),(zH h 0).1,(zH h 1).1,zas h⟩
theorem zlq {D:Nat→Prop} {w w3:World} {q:Nat} {a b:Value} (hD:∀k,D k→k<w.heap.size) (hq:w.heap.size≤q) (hz:q<w3.heap.size) (c0:w3.cell? ⟨q,0,none⟩=some a) (c1:w3.cell? ⟨q,1,none⟩=some b) (W:World) (h:zb D w3 W):W.cell? ⟨q,0,none⟩=some a∧W.cell? ⟨q,1,none⟩=some b:=
 ⟨(h.cell (p:=⟨q,0,none⟩) hz (fun hd=>by have h2:q<w.heap.size:=hD _ hd;omega)).trans c0,(h.cell (p:=⟨q,1,none⟩) hz (fun hd=>by have h2:q<w.heap.size:=hD _ hd;omega)).trans c1⟩
set_option maxRecDepth 20000 in
set_option maxHeartbeats 16000000 in
theorem ziD {m:zY} {r:Rq} (hkd:m.kind=8) (h0l:0<m.list.length) {ov:ByteArray} (hfr:zcq m r=some ov) (hq:zaD r.fields zd5=none∨¬r.method=zdI):DoR m 71 r:=by
 intro D Pre n0 N T f w A c FA fc TA tc hE hP hX hn0 hN8 hN hA hcap hF hT hm hr;obtain ⟨g,lb,rfl,he,hc⟩:=hX;obtain ⟨lb0,lo0,sf,rfl,hlb,hlc,hst⟩:=zhE hA.row h0l;have HC:=hid (zdH fc tc hE hP hc hF hT hr);have HL:=hid hE.low;have HG:=hid (fun W h=>hE.globC (W:=W) h);have HN0:=hid hn0;have HN8:=hid hN8;have HN:=hid hN;have HON:=hid (fun (name:ByteArray) (hz:name.size≤maxLen) (W:World) (h:Below w.heap.size w W)=>zgq r FA fc TA tc name W (hF.below h).row hr hz);have HCT:=hid (fun (s:ByteArray) (W:World) (h:Below w.heap.size w W)=>zcC (some ⟨lb0,lo0,none⟩) c m.list s W (hA.below h).row (zg2 hm.list).1);have HVR:=hid (fun (W:World) (h:zb D w W)=>zlw m (some ⟨lb0,lo0,none⟩) c W (hA.keep h).row h0l);have HVF:=hid (zfR m);have HFB:=hid (fun (W:World) (h:Below w.heap.size w W)=>((h.cell (p:=⟨lb0,lo0,none⟩) hlb).trans hlc));have HSC:=hid (fun (W:World) (h:zb D (X3 w (zf m (some ⟨lb0,lo0,none⟩) c) (zu r FA fc TA tc)) W)=>(⟨(zh hE.low h).1.1,(zh hE.low h).1.2⟩:(W.cell? ⟨w.heap.size,0,none⟩=some (.int .i64 m.kind)∧W.cell? ⟨w.heap.size,1,none⟩=some (.string m.name)∧W.cell? ⟨w.heap.size,2,none⟩=some (.string m.value)∧W.cell? ⟨w.heap.size,3,none⟩=some (.slice (some ⟨lb0,lo0,none⟩) m.list.length c)∧W.cell? ⟨w.heap.size,4,none⟩=some (.int .i64 m.n))∧(W.cell? ⟨w.heap.size+1,0,none⟩=some (.string r.method)∧W.cell? ⟨w.heap.size+1,1,none⟩=some (.string r.target)∧W.cell? ⟨w.heap.size+1,2,none⟩=some (.int .i64 r.major)∧W.cell? ⟨w.heap.size+1,3,none⟩=some (.int .i64 r.minor)∧W.cell? ⟨w.heap.size+1,4,none⟩=some (.slice FA r.fields.length fc)∧W.cell? ⟨w.heap.size+1,5,none⟩=some (.string r.body)∧W.cell? ⟨w.heap.size+1,6,none⟩=some (.slice TA r.trailers.length tc))));obtain ⟨hai,hbe⟩:=zqR hkd hfr (zr1 hq);have HAI:=hid hai;have HBE:=hid hbe;have HOV:=hid (zhD hr hfr);have hfs:∃s,zaD r.fields zaT=some s∧((zaW m=true∧ov=⟨#[42]⟩)∨(zaW m=false∧zb5 m.list s=true∧ov=s)):=by
  cases hon:zaD r.fields zaT with
  |none=>rw[zlZ hon] at hfr;cases hfr
  |some s=>
   rw[ziU hon] at hfr
   cases h1:zaW m
   ·cases h2:zb5 m.list s
    ·rw[h1,h2] at hfr;cases hfr
    ·rw[h1,h2] at hfr;injection hfr with hfr;exact ⟨s,rfl,.inr ⟨rfl,h2,hfr.symm⟩⟩
   ·rw[h1] at hfr;injection hfr with hfr;exact ⟨s,rfl,.inl ⟨rfl,hfr.symm⟩⟩
 have hq2:(r.method.toList==[79,80,84,73,79,78,83])=false∨((r.method.toList==[79,80,84,73,79,78,83])=true∧zaD r.fields zd5=none):=by
  have e:=zi0 r.method zdI;rw[show zdI.data.toList=[79,80,84,73,79,78,83] from rfl] at e
  by_cases h:r.method=zdI
  ·exact .inr ⟨by rw[e];exact decide_eq_true h,hq.elim id (fun g=>absurd h g)⟩
  ·exact .inl (by rw[e];exact decide_eq_false h)
 clear hai hbe hfr hq;have hi0:(0:Int)<(m.list.length:Int):=by omega
 have hX0:=Below.refl (X3 w (zf m (some ⟨lb0,lo0,none⟩) c) (zu r FA fc TA tc)).heap.size (X3 w (zf m (some ⟨lb0,lo0,none⟩) c) (zu r FA fc TA tc));have hWx:Below w.heap.size w (X3 w (zf m (some ⟨lb0,lo0,none⟩) c) (zu r FA fc TA tc)):=zae w _ _;clear hc hE hP hn0 hN8 hN hA hcap hF hT hm hr hkd h0l;generalize zb2 m=vp at *;unfold zL rqV at *;obtain ⟨s,hon,hfs⟩:=hfs;have HO1:=hid (fun W h=>HON.out zaT zer W h);rw[hon] at HO1;unfold zbO zaT at HO1;have HO2:=hid (fun W h=>HON.out zd5 zkm W h);have HCS:=hid (fun W h=>HCT.out s W h);clear hon HON HCT;have HLB:=hid hlb
 rcases hq2 with hm|⟨hm,hq3⟩
 all_goals
  (first|(rw[hq3] at HO2;clear hq3)|generalize zaD r.fields zd5=oo at *)
  unfold zbO zd5 at HO2
  rcases hfs with ⟨h1,hov⟩|⟨h1,h2,rfl⟩
 all_goals
  rw[h1] at hst
  (first|(rw[h2] at HCS;clear h1 h2)|clear h1 HCS)
  go_enter Tryz.func71,Tryz.ntmps71
  go_wp2_with fail
  refine (HO1.out _ hWx).mono ?_;rintro e w1 ⟨rfl,hb1⟩;have hb1:Below (X3 w (zf m (some ⟨lb0,lo0,none⟩) c) (zu r FA fc TA tc)).heap.size (X3 w (zf m (some ⟨lb0,lo0,none⟩) c) (zu r FA fc TA tc)) w1:=hb1;have hlb:=Nat.lt_of_lt_of_le hlb (zl hb1).size;obtain ⟨⟨⟨m0,m1,m2,m3,m4⟩,a0,a1,a2,a3,a4,a5,a6⟩,⟨r0,r1,r2,r3⟩,f0,f1,f2,f3⟩:=zh HL.out (zb.of (D:=D) hb1);have hz2:=zS hb1;have hz1:=Nat.lt_of_succ_lt hz2;have hz0:=Nat.lt_of_succ_lt hz1;have hlc1:=HFB.out _ (zl hb1)
  go_wp2_with fail
  (try (refine (HCS.out _ (zl hb1)).mono ?_;rintro e w9 ⟨rfl,rfl⟩;go_wp2_with fail))
  refine (HO2.out _ (zl (hb1.alloc hb1.size _))).mono ?_;rintro e w3 ⟨rfl,hb3⟩;obtain ⟨hb4,c0,c1,hzx⟩:=zpT hb1 hb3
  (try (rw[←hov] at c1;clear hov))
  have HB9:=hid (zlq HL.out (Nat.le_trans hWx.size hb1.size) hzx (show w3.cell? ⟨w1.heap.size,0,none⟩=some (.string za0) from c0) c1);clear m0 m1 m2 m3 m4 a0 a1 a2 a3 a4 a5 a6 r0 r1 r2 r3 f0 f1 f2 f3 hz2 hz1 hz0 hlc1 hlb hb3 hb1 c0 c1;have hlb:=Nat.lt_of_lt_of_le (HLB.out) (zl hb4).size;obtain ⟨⟨⟨m0,m1,m2,m3,m4⟩,a0,a1,a2,a3,a4,a5,a6⟩,⟨r0,r1,r2,r3⟩,f0,f1,f2,f3⟩:=zh HL.out (zb.of (D:=D) hb4);have hz2:=zS hb4;have hz1:=Nat.lt_of_succ_lt hz2;have hz0:=Nat.lt_of_succ_lt hz1;have hlc1:=HFB.out _ (zl hb4)
  go_wp2_with fail
  have hBd:=zaM hb4;have hS0:=HSC.out _ (zb.of hBd);refine zO (t:=9) (S:=fun W=>((W.cell? ⟨w.heap.size,0,none⟩=some (.int .i64 m.kind)∧W.cell? ⟨w.heap.size,1,none⟩=some (.string m.name)∧W.cell? ⟨w.heap.size,2,none⟩=some (.string m.value)∧W.cell? ⟨w.heap.size,3,none⟩=some (.slice (some ⟨lb0,lo0,none⟩) m.list.length c)∧W.cell? ⟨w.heap.size,4,none⟩=some (.int .i64 m.n))∧(W.cell? ⟨w.heap.size+1,0,none⟩=some (.string r.method)∧W.cell? ⟨w.heap.size+1,1,none⟩=some (.string r.target)∧W.cell? ⟨w.heap.size+1,2,none⟩=some (.int .i64 r.major)∧W.cell? ⟨w.heap.size+1,3,none⟩=some (.int .i64 r.minor)∧W.cell? ⟨w.heap.size+1,4,none⟩=some (.slice FA r.fields.length fc)∧W.cell? ⟨w.heap.size+1,5,none⟩=some (.string r.body)∧W.cell? ⟨w.heap.size+1,6,none⟩=some (.slice TA r.trailers.length tc)))∧W.cell? ⟨w1.heap.size,0,none⟩=some (.string za0)∧W.cell? ⟨w1.heap.size,1,none⟩=some (.string ov)) (by kernel_rfl) ⟨hS0,HB9.out _ (zb.of (zaM (Below.refl _ _)))⟩ (fun hHeld=>?_);refine za 0 (s:=hHeld) (h:=?_);refine za 1 (y:=fun w hSw=>by (try dsimp only at hSw);obtain ⟨⟨⟨s0,s1,s2,s3,s4⟩,t0,t1,t2,t3,t4,t5,t6⟩,z0,z1⟩:=hSw;exact yl) (s:=hHeld) (h:=?_);refine za 3 (y:=fun w hSw=>by (try dsimp only at hSw);obtain ⟨⟨⟨s0,s1,s2,s3,s4⟩,t0,t1,t2,t3,t4,t5,t6⟩,z0,z1⟩:=hSw;exact yl) (s:=hHeld) (h:=?_);refine za 6 (y:=fun w hSw=>by (try dsimp only at hSw);obtain ⟨⟨⟨s0,s1,s2,s3,s4⟩,t0,t1,t2,t3,t4,t5,t6⟩,z0,z1⟩:=hSw;exact yl) (s:=hHeld) (h:=?_);have hKc:zb D (X3 w (zf m (some ⟨lb0,lo0,none⟩) c) (zu r FA fc TA tc)) (w3).drew:=zb.of hBd;have hBc:=hBd;clear hS0 hHeld;have hK3:zb D w3 (w3).drew:=zb.of (zaM (Below.refl _ _));refine zbC (rs:=[2,4]) (by kernel_rfl) (by simp) ?_;refine (zJ.cons rfl (fun K hK=>?_) (zJ.cons rfl (fun K hK=>?_) zJ.nil))
  ·skip
   go_simp
   refine (HC.out _ (zl hBc)).mono ?_;rintro e wq17 ⟨y,A1,c1,rfl,hrow,hfit,hTT,hk⟩;obtain ⟨ys,yr,yf,yb⟩:=y;unfold rsV;dsimp only at hrow hfit ⊢;have hX1:=zl hBc;have hwl:=zS hBc;have hKc:=hKc.trans hk;have hK3:=hK3.trans hk;have hn:Below wq17.heap.size wq17 wq17:=Below.refl _ _;clear hBc
   (try go_wp2_with fail)
   refine hK.out _ _ (.inr ⟨HSC.out _ hKc,HB9.out _ hK3⟩) (fun _=>nm ?_);clear hK K;refine zc 4 (h:=fun K hK=>?_)
   go_simp
   have hbv:Below (wq17).heap.size (wq17) ((wq17).alloc (.cells #[.string za0,.string ov] 59)):=(Below.refl _ _).alloc (Nat.le_refl _) _;have hr19:=hrow.below hbv;have hr20:zQ D ((wq17).alloc (.cells #[.string za0,.string ov] 59)) (some ⟨(wq17).heap.size,0,none⟩) (zj [(za0,ov)]):=zQ.lit (fun k hd=>Nat.lt_of_lt_of_le (HL.out k hd) (zb.ahead hWx hKc).size);have hn:=hn.trans (hbv.mono hn.size);have hKc:zb D (X3 w (zf m (some ⟨lb0,lo0,none⟩) c) (zu r FA fc TA tc)) ((wq17).alloc (.cells #[.string za0,.string ov] 59)):=hKc.step hbv;have hK3:=hK3.step hbv;clear hbv
   skip
   refine hK.out _ _ (.inr ⟨HSC.out _ hKc,HB9.out _ hK3⟩) (fun _=>nm ?_);clear hK K;refine zc 5 (h:=fun K hK=>?_)
   go_simp
   have hLD:=fun c d=>zbV ys yr yb A1 (some ⟨(wq17).heap.size,0,none⟩) c d (yf) ([(za0,ov)]) _ hr19.row hr20.row (Nat.le_trans hfit.many (Nat.le_trans HN.out (by decide))) (by simp)
   obtain ⟨l5,hLe⟩:∃x:List Fl,x=(yf)++([(za0,ov)]):=⟨_,rfl⟩;rw[←hLe] at hLD;have HLE:=hid hLe;clear hLe
   go_at_call 93
   refine (hLD _ _).mono ?_;rintro e wq21 ⟨B5,d5,rfl,hol,hbv⟩;clear hLD;have hr22:=hr19.below hbv;have hr23:=hr20.below hbv;have hr24:zQ D wq21 B5 _:=zQ.of_own hol hol (fun k hd=>Nat.lt_of_lt_of_le (HL.out k hd) (zb.ahead hWx hKc).size);have hnl:=hn.size;have hn:=hn.trans (hbv.mono hn.size);have hKc:zb D (X3 w (zf m (some ⟨lb0,lo0,none⟩) c) (zu r FA fc TA tc)) wq21:=hKc.step hbv;have hK3:=hK3.step hbv;have hbl:=hbv
   (try go_wp2_with fail)
   refine hK.out _ _ (.inr ⟨HSC.out _ hKc,HB9.out _ hK3⟩) (fun _=>nm ?_);clear hK K;refine zc 7 (h:=fun K hK=>?_)
   go_simp
   go_at_call 111
   refine (HVR.out _ (zb.ahead hWx hKc)).mono ?_;rintro e wq25 ⟨VA,vc,rfl,hov,hbv⟩;have hcapv:=zdq hov;have hr26:=hr22.below hbv;have hr27:=hr23.below hbv;have hr28:=hr24.below hbv;have hr29:zQ D wq25 VA (zj vp):=zQ.of_own hov hov (fun k hd=>Nat.lt_of_lt_of_le (HL.out k hd) (zb.ahead hWx hKc).size);have hn:=hn.trans (hbv.mono hn.size);have hKc:zb D (X3 w (zf m (some ⟨lb0,lo0,none⟩) c) (zu r FA fc TA tc)) wq25:=hKc.step hbv;have hK3:=hK3.step hbv;clear hov;clear hbv
   (try go_wp2_with fail)
   refine hK.out _ _ (.inr ⟨HSC.out _ hKc,HB9.out _ hK3⟩) (fun _=>nm ?_);clear hK K;refine zc 8 (h:=fun K hK=>?_)
   go_simp
   go_at_call 93
   refine (zbV ys yr yb B5 _ _ _ _ _ _ hr28.row hr29.row (by rw[HLE.out,List.length_append];have h1:=hfit.many;have h2:=HN.out;simp only[List.length_cons,List.length_nil];exact Nat.le_trans (Nat.succ_le_succ (Nat.le_trans h1 h2)) (by decide)) (by have:=HVF.out.2;omega)).mono ?_;rintro e wq30 ⟨B8,d8,rfl,hol,hbv⟩;have hr31:=hr26.below hbv;have hr32:=hr27.below hbv;have hr33:=hr28.below hbv;have hr34:=hr29.below hbv;have hr35:zQ D wq30 B8 _:=zQ.of_own hol hol (fun k hd=>Nat.lt_of_lt_of_le (HL.out k hd) (zb.ahead hWx hKc).size);have hnl:=hn.size;have hn:=hn.trans (hbv.mono hn.size);have hKc:zb D (X3 w (zf m (some ⟨lb0,lo0,none⟩) c) (zu r FA fc TA tc)) wq30:=hKc.step hbv;have hK3:=hK3.step hbv;have hbl:=hbv
   (try go_wp2_with fail)
   refine hK.out _ _ (.inr ⟨HSC.out _ hKc,HB9.out _ hK3⟩) (fun _=>nm ?_);clear hK K;refine zc 9 (h:=fun K hK=>?_);obtain ⟨_,⟨r0,r1,r2,r3⟩,f0,f1,f2,f3⟩:=zh HL.out hKc;have hz2:w.heap.size+1+1<wq30.heap.size:=by have:=zbp hKc;omega
   have HKZ:=hid (show zb (Btw w (w3).drew) wq17 wq30 from zb.of hn);have hsb:((w3).drew).heap.size≤(wq25).heap.size:=Nat.le_trans hk.size hnl;have HO:=hid (zn (b':=((w3).drew).heap.size) hol hsb);have HTT:=hid hTT;have HK2:=hid hk;have HFT:=hid hfit;have HX1:=hid hX1;have HWL:=hid (show w.heap.size+1+1<((w3).drew).heap.size from hwl);clear hfit hTT hk hKc hn hol hbl hrow hX1 hsb hcapv hnl hwl hK3 hr31 hr32 hr33 hr34 hr35
   go_simp
   refine hK.out _ _ (.inl (by rfl)) (fun _=>nm ?_);clear hK K;refine zy (by kernel_rfl) ?_ _
   go_wp2
   exact bodyPost_ret (v:=rsV ⟨ys,yr,l5++vp,yb⟩ B8 d8) (by simp[results,Tryz.results71,go_sem,rsV,r0,r1,r2,r3]) rfl
    ((zdb (x:=⟨ys,yr,l5++vp,yb⟩) (F:=zB m r) (M:=N+2) (b:=w.heap.size+1+1) HL.out HX1.out (by omega) HWL.out HTT.out HK2.out HKZ.out HO.out (by rw[HBE.out,HLE.out]<;>rfl) (by have h:=zfW (l:=[(za0,ov)]++vp) HFT.out (by have:=HVF.out.2;rw[List.length_append];simp;omega) (zan (zah zgh (Nat.le_trans HOV.out (by unfold maxLen;decide)) zR) HVF.out.1);rw[←List.append_assoc,show yf++[(za0,ov)]=l5 from HLE.out.symm] at h;exact h) _ _ _ _).imp (Nat.le_refl _) fun _ _ _ h=>zbc HAI.out h)
  ·skip
   go_simp
   have hbv:Below ((w3).drew).heap.size ((w3).drew) (((w3).drew).alloc (.cells #[.string za0,.string ov] 59)):=(Below.refl _ _).alloc (Nat.le_refl _) _;have hr37:zQ D (((w3).drew).alloc (.cells #[.string za0,.string ov] 59)) (some ⟨((w3).drew).heap.size,0,none⟩) (zj [(za0,ov)]):=zQ.lit (fun k hd=>Nat.lt_of_lt_of_le (HL.out k hd) (zb.ahead hWx hKc).size);have hBc:Below (X3 w (zf m (some ⟨lb0,lo0,none⟩) c) (zu r FA fc TA tc)).heap.size (X3 w (zf m (some ⟨lb0,lo0,none⟩) c) (zu r FA fc TA tc)) (((w3).drew).alloc (.cells #[.string za0,.string ov] 59)):=hBc.trans (hbv.mono hBc.size);have hKc:zb D (X3 w (zf m (some ⟨lb0,lo0,none⟩) c) (zu r FA fc TA tc)) (((w3).drew).alloc (.cells #[.string za0,.string ov] 59)):=hKc.step hbv;have hK3:=hK3.step hbv;clear hbv
   skip
   refine hK.out _ _ (.inr ⟨HSC.out _ hKc,HB9.out _ hK3⟩) (fun _=>nm ?_);clear hK K;refine zc 2 (h:=fun K hK=>?_)
   go_simp
   refine (HC.out _ (zl hBc)).mono ?_;rintro e wq38 ⟨y,A1,c1,rfl,hrow,hfit,hTT,hk⟩;obtain ⟨ys,yr,yf,yb⟩:=y;unfold rsV;dsimp only at hrow hfit ⊢;have hr39:=hr37.keep hk;have hX1:=zl hBc;have hwl:=zS hBc;have hKc:=hKc.trans hk;have hK3:=hK3.trans hk;have hn:Below wq38.heap.size wq38 wq38:=Below.refl _ _;clear hBc
   (try go_wp2_with fail)
   refine hK.out _ _ (.inr ⟨HSC.out _ hKc,HB9.out _ hK3⟩) (fun _=>nm ?_);clear hK K;refine zc 5 (h:=fun K hK=>?_)
   go_simp
   have hLD:=fun c d=>zbV ys yr yb A1 (some ⟨((w3).drew).heap.size,0,none⟩) c d (yf) ([(za0,ov)]) _ hrow.row hr39.row (Nat.le_trans hfit.many (Nat.le_trans HN.out (by decide))) (by simp)
   obtain ⟨l5,hLe⟩:∃x:List Fl,x=(yf)++([(za0,ov)]):=⟨_,rfl⟩;rw[←hLe] at hLD;have HLE:=hid hLe;clear hLe
   go_at_call 93
   refine (hLD _ _).mono ?_;rintro e wq40 ⟨B5,d5,rfl,hol,hbv⟩;clear hLD;have hr41:=hr39.below hbv;have hr42:=hrow.below hbv;have hr43:zQ D wq40 B5 _:=zQ.of_own hol hol (fun k hd=>Nat.lt_of_lt_of_le (HL.out k hd) (zb.ahead hWx hKc).size);have hnl:=hn.size;have hn:=hn.trans (hbv.mono hn.size);have hKc:zb D (X3 w (zf m (some ⟨lb0,lo0,none⟩) c) (zu r FA fc TA tc)) wq40:=hKc.step hbv;have hK3:=hK3.step hbv;have hbl:=hbv
   (try go_wp2_with fail)
   refine hK.out _ _ (.inr ⟨HSC.out _ hKc,HB9.out _ hK3⟩) (fun _=>nm ?_);clear hK K;refine zc 7 (h:=fun K hK=>?_)
   go_simp
   go_at_call 111
   refine (HVR.out _ (zb.ahead hWx hKc)).mono ?_;rintro e wq44 ⟨VA,vc,rfl,hov,hbv⟩;have hcapv:=zdq hov;have hr45:=hr41.below hbv;have hr46:=hr42.below hbv;have hr47:=hr43.below hbv;have hr48:zQ D wq44 VA (zj vp):=zQ.of_own hov hov (fun k hd=>Nat.lt_of_lt_of_le (HL.out k hd) (zb.ahead hWx hKc).size);have hn:=hn.trans (hbv.mono hn.size);have hKc:zb D (X3 w (zf m (some ⟨lb0,lo0,none⟩) c) (zu r FA fc TA tc)) wq44:=hKc.step hbv;have hK3:=hK3.step hbv;clear hov;clear hbv
   (try go_wp2_with fail)
   refine hK.out _ _ (.inr ⟨HSC.out _ hKc,HB9.out _ hK3⟩) (fun _=>nm ?_);clear hK K;refine zc 8 (h:=fun K hK=>?_)
   go_simp
   go_at_call 93
   refine (zbV ys yr yb B5 _ _ _ _ _ _ hr47.row hr48.row (by rw[HLE.out,List.length_append];have h1:=hfit.many;have h2:=HN.out;simp only[List.length_cons,List.length_nil];exact Nat.le_trans (Nat.succ_le_succ (Nat.le_trans h1 h2)) (by decide)) (by have:=HVF.out.2;omega)).mono ?_;rintro e wq49 ⟨B8,d8,rfl,hol,hbv⟩;have hr50:=hr45.below hbv;have hr51:=hr46.below hbv;have hr52:=hr47.below hbv;have hr53:=hr48.below hbv;have hr54:zQ D wq49 B8 _:=zQ.of_own hol hol (fun k hd=>Nat.lt_of_lt_of_le (HL.out k hd) (zb.ahead hWx hKc).size);have hnl:=hn.size;have hn:=hn.trans (hbv.mono hn.size);have hKc:zb D (X3 w (zf m (some ⟨lb0,lo0,none⟩) c) (zu r FA fc TA tc)) wq49:=hKc.step hbv;have hK3:=hK3.step hbv;have hbl:=hbv
   (try go_wp2_with fail)
   refine hK.out _ _ (.inr ⟨HSC.out _ hKc,HB9.out _ hK3⟩) (fun _=>nm ?_);clear hK K;refine zc 9 (h:=fun K hK=>?_);obtain ⟨_,⟨r0,r1,r2,r3⟩,f0,f1,f2,f3⟩:=zh HL.out hKc;have hz2:w.heap.size+1+1<wq49.heap.size:=by have:=zbp hKc;omega
   have HKZ:=hid (show zb (Btw w (((w3).drew).alloc (.cells #[.string za0,.string ov] 59))) wq38 wq49 from zb.of hn);have hsb:((((w3).drew).alloc (.cells #[.string za0,.string ov] 59))).heap.size≤(wq44).heap.size:=Nat.le_trans hk.size hnl;have HO:=hid (zn (b':=((((w3).drew).alloc (.cells #[.string za0,.string ov] 59))).heap.size) hol hsb);have HTT:=hid hTT;have HK2:=hid hk;have HFT:=hid hfit;have HX1:=hid hX1;have HWL:=hid (show w.heap.size+1+1<((((w3).drew).alloc (.cells #[.string za0,.string ov] 59))).heap.size from hwl);clear hfit hTT hk hKc hn hol hbl hrow hX1 hsb hcapv hnl hwl hK3 hr50 hr51 hr52 hr53 hr54
   go_simp
   refine hK.out _ _ (.inl (by rfl)) (fun _=>nm ?_);clear hK K;refine zy (by kernel_rfl) ?_ _
   go_wp2
   exact bodyPost_ret (v:=rsV ⟨ys,yr,l5++vp,yb⟩ B8 d8) (by simp[results,Tryz.results71,go_sem,rsV,r0,r1,r2,r3]) rfl
    ((zdb (x:=⟨ys,yr,l5++vp,yb⟩) (F:=zB m r) (M:=N+2) (b:=w.heap.size+1+1) HL.out HX1.out (by omega) HWL.out HTT.out HK2.out HKZ.out HO.out (by rw[HBE.out,HLE.out]<;>rfl) (by have h:=zfW (l:=[(za0,ov)]++vp) HFT.out (by have:=HVF.out.2;rw[List.length_append];simp;omega) (zan (zah zgh (Nat.le_trans HOV.out (by unfold maxLen;decide)) zR) HVF.out.1);rw[←List.append_assoc,show yf++[(za0,ov)]=l5 from HLE.out.symm] at h;exact h) _ _ _ _).imp (Nat.le_refl _) fun _ _ _ h=>zbc HAI.out h)
end Go.Proofs.YtbnafbdhomdcoaaGreatDoor
