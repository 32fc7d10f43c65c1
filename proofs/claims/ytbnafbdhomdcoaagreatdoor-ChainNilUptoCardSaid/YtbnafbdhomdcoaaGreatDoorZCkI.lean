/-
 CkI, without what this claim does not reach.
-/
import Derived.Test.YtbnafbdhomdcoaaGreatDoorZm10
import Derived.Test.YtbnafbdhomdcoaaGreatDoorZm3
import Derived.Test.YtbnafbdhomdcoaaGreatDoorZm7
import Derived.Deep.DeepCutAuto
import Derived.Deep.RegionWith
namespace Go.Proofs.YtbnafbdhomdcoaaGreatDoor
open Go.RowKit Go.Shelf Go.Lib
theorem zfJ {v p:ByteArray}:zc0 v p=(decide (v.size≤p.size)&&decide (p.extract 0 v.size=v)):=rfl
set_option maxRecDepth 20000 in
set_option maxHeartbeats 8000000 in
theorem zqb (m:zY) (A:Option Addr) (c:Nat) (r:Rq) (FA:Option Addr) (fc:Nat) (TA:Option Addr) (tc:Nat) (w:World) (hr:zcO r) (hm:zaY m):
  Calls Tryz.prog 43 #[zL m A c,rqV r FA fc TA tc] w (zcR FA fc TA tc w r (zhN m r)):=by
 have HPA:=hid (fun (W:World)=>T5.Rparse_any r.method r.target W (Nat.le_trans hr.target (by decide)));have HPL:=hid (fun W=>zdT 404 none 0 [] W (Row.nil _ _) (by decide) (by decide) (by decide) (zfS 404));have hts:=hr.target;have hvs:=hm.value;have HOK:=hid (show zfK m.value r.method r.target=(decide ((T5.parseT r.method r.target).2.2=0)&&((decide ((T5.parseT r.method r.target).1.form=1)||decide ((T5.parseT r.method r.target).1.form=2))&&(zc0 m.value (zcT r.method r.target)&&(decide ((zcT r.method r.target).size≤m.value.size)||decide (bt (zcT r.method r.target) m.value.size=47))))) from rfl);have HTX:=hid (show zhg m.value r.method r.target=r.target.extract 0 (rAt r.method r.target)++(if ((zcT r.method r.target).extract m.value.size (zcT r.method r.target).size).size=0 then zeJ else (zcT r.method r.target).extract m.value.size (zcT r.method r.target).size)++r.target.extract (ziI r.target (rAt r.method r.target)) r.target.size from rfl);have HPP:=hid (show zcT r.method r.target=r.target.extract (rAt r.method r.target) (ziI r.target (rAt r.method r.target)) from rfl);have HAT:=hid (show rAt r.method r.target=if (T5.parseT r.method r.target).2.2=0∧(T5.parseT r.method r.target).1.form=2 then T5.endA r.target 7 else 0 from rfl);have HLE:=hid (fun h hf=>(ziX (m:=r.method) (s:=r.target) h hf).2.2);have HSO:=hid (show zhN m r=if zfK m.value r.method r.target=true then .inl {r with target:=zhg m.value r.method r.target} else .inr (zT 404 []) from rfl);have HBD:=hid (show zT 404 []=⟨404,⟨#[]⟩,[ctF],zao 404⟩ from rfl);have hX0:=Below.refl (S4 w (zf m A c) (zu r FA fc TA tc)).heap.size (S4 w (zf m A c) (zu r FA fc TA tc));have HS0:=hid (zvS w (zf m A c) (zu r FA fc TA tc));generalize hso:zhN m r=so at *;clear hso;generalize T5.parseT r.method r.target=pt at *;obtain ⟨⟨tf,th,tp,tpa,tq,thq⟩,ti,te⟩:=pt;unfold T5.tgVal T5.Tg.val at HPA;dsimp only at HPA HOK HAT HLE;generalize zfK m.value r.method r.target=ok at *;generalize zhg m.value r.method r.target=tx at *;generalize zcT r.method r.target=p at *;generalize rAt r.method r.target=a at *;clear hr hm;unfold zL rqV
 go_enter Tryz.func43,Tryz.ntmps43
 go_wp2_with fail
 rw[zxc];refine (HPA.out (S4 w (zf m A c) (zu r FA fc TA tc))).mono ?_;rintro e w1 ⟨rfl,b1⟩;have HK1:=hid (show zb (fun _=>False) (S4 w (zf m A c) (zu r FA fc TA tc)) w1 from zb.of b1);have hz1:w.heap.size+4≤w1.heap.size:=by have h:=b1.size;rw[HS0.out] at h;exact h
 clear b1 hX0;have HKT:=hid (show zb (fun _=>False) (S4 w (zf m A c) (zu r FA fc TA tc)) (w1.alloc (.cells #[.int .i64 tf,.string th,.int .i64 tp,.string tpa,.string tq,.bool thq] 102)) from HK1.out.alloc _);have HRQ:=hid (zf9 HKT.out (fun h=>h));have HMD:=hid (ztE HKT.out (fun h=>h));have q1:w1.cell? ⟨w.heap.size+1,1,none⟩=some (.string r.target):=(zf9 HK1.out (fun h=>h)).2.1;have q2:w1.cell? ⟨w.heap.size,2,none⟩=some (.string m.value):=(ztE HK1.out (fun h=>h)).2.2.1;have hlt1:w.heap.size<w1.heap.size:=by omega
 have hlt2:w.heap.size+1<w1.heap.size:=by omega
 have hal:a≤r.target.size:=by
  by_cases hc:te=0∧tf=2
  ·exact HLE.out hc.1 (.inr hc.2)
  ·rw[HAT.out,if_neg hc];exact Nat.zero_le _
 obtain ⟨cb,hcb⟩:∃cb:Bool,cb=decide (te=0∧tf=2):=⟨_,rfl⟩;have HCB:=hid hcb;clear hcb
 go_upto_region 3 with (fail)
 go_cut [30] (fun x wx=>x= .bool cb∧wx=w1.alloc (.cells #[.int .i64 tf,.string th,.int .i64 tp,.string tpa,.string tq,.bool thq] 102))
 case first=>
  by_cases h1:te=0
  ·by_cases h2:tf=2
   ·have HC2:=hid (HCB.out.trans (decide_eq_true ⟨h1,h2⟩))
    subst h1;subst h2
    go_wp2_with fail
    go_meet
    exact ⟨by rw[HC2.out],rfl⟩
   ·have HC2:=hid (HCB.out.trans (decide_eq_false (fun h=>h2 h.2)))
    have hq:(tf==2)=false:=beq_eq_false_iff_ne.2 h2;clear h2;subst h1
    go_wp2_with fail
    go_meet
    exact ⟨by rw[HC2.out],rfl⟩
  ·have HC2:=hid (HCB.out.trans (decide_eq_false (fun h=>h1 h.1)))
   have hq:(te==0)=false:=beq_eq_false_iff_ne.2 h1;clear h1
   go_wp2_with fail
   go_meet
   exact ⟨by rw[HC2.out],rfl⟩
 obtain ⟨hu30,rfl⟩:=hcut;rw[hu30];clear hu30
 go_upto_if 30 with (fail)
 go_cut [10] (fun x wx=>x= .int .i64 (a:Int)∧wx=w1.alloc (.cells #[.int .i64 tf,.string th,.int .i64 tp,.string tpa,.string tq,.bool thq] 102))
 case first=>
  by_cases hc:te=0∧tf=2
  ·obtain rfl:cb=true:=HCB.out.trans (decide_eq_true hc)
   obtain ⟨rfl,rfl⟩:=hc;have ha7:=HAT.out.trans (if_pos ⟨rfl,rfl⟩);have h7:7≤r.target.size:=by
    have h1:7≤T5.endA r.target 7:=zro _ _ _
    omega
   have HA7:=hid ha7;clear ha7
   go_wp2
   go_loop [10] (fun v=>∃k:Nat,7≤k∧k≤r.target.size∧v= .int .i64 k∧Hid (∀j,7≤j→j<k→bt r.target j≠47∧bt r.target j≠63)) (fun v=>r.target.size - (RowKit.intOf v).toNat)
   case atStart=>exact ⟨7,Nat.le_refl _,h7,rfl,hid (fun j h1 h2=>by omega)⟩
   case round=>
    obtain ⟨k,hk7,hk,rfl,HN⟩:=hrel
    by_cases hlt:k<r.target.size
    ·have hb:=@zE r.target k hlt
     have hki:(k:Int)<(r.target.size:Int):=by omega
     by_cases h47:bt r.target k=47
     ·have h47b:(bt r.target k !=47)=false:=by rw[h47];rfl
      have HE:=hid (HA7.out.trans (zm7 hk7 hk HN.out (fun _=>.inl h47)));clear h47
      go_wp2
      go_meet
      exact ⟨by rw[HE.out],rfl⟩
     ·have h47b:(bt r.target k !=47)=true:=bne_iff_ne.2 h47
      by_cases h63:bt r.target k=63
      ·have h63b:(bt r.target k !=63)=false:=by rw[h63];rfl
       have HE:=hid (HA7.out.trans (zm7 hk7 hk HN.out (fun _=>.inr h63)));clear h47 h63
       go_wp2
       go_meet
       exact ⟨by rw[HE.out],rfl⟩
      ·have h63b:(bt r.target k !=63)=true:=bne_iff_ne.2 h63
       have HN2:=hid (show ∀j,7≤j→j<k+1→bt r.target j≠47∧bt r.target j≠63 from fun j h1 h2=>by
        by_cases e:j=k
        ·subst e;exact ⟨h47,h63⟩
        ·exact HN.out j h1 (by omega))
       clear h47 h63
       go_wp2
       go_round
       case rel=>exact ⟨k+1,by omega,by omega,by go_num,HN2⟩
       case measure=>simp[RowKit.intOf];omega
    ·have hki:¬(k:Int)<(r.target.size:Int):=by omega
     have HE:=hid (HA7.out.trans (zm7 hk7 hk HN.out (fun h=>absurd h hlt)))
     go_wp2
     go_meet
     exact ⟨by rw[HE.out],rfl⟩
  ·have ha0:(a:Int)=0:=by rw[HAT.out,if_neg hc];rfl
   have HA0:=hid ha0;obtain rfl:cb=false:=HCB.out.trans (decide_eq_false hc);clear hc ha0
   go_wp2
   go_meet
   exact ⟨by rw[HA0.out],rfl⟩
 obtain ⟨hu10,rfl⟩:=hcut;rw[hu10];clear hu10
 go_upto_region 7 with (fail)
 go_cut [11] (fun x wx=>x= .int .i64 (a:Int)∧wx=w1.alloc (.cells #[.int .i64 tf,.string th,.int .i64 tp,.string tpa,.string tq,.bool thq] 102))
 case first=>
  go_wp2
  go_meet
  exact ⟨rfl,rfl⟩
 obtain ⟨hu11,rfl⟩:=hcut;rw[hu11];clear hu11
 go_step
 go_step
 go_cut [11] (fun x wx=>x= .int .i64 (ziI r.target a:Int)∧wx=w1.alloc (.cells #[.int .i64 tf,.string th,.int .i64 tp,.string tpa,.string tq,.bool thq] 102))
 case first=>
  go_wp2
  go_loop [11] (fun v=>∃k:Nat,a≤k∧k≤r.target.size∧v= .int .i64 k∧Hid (∀j,a≤j→j<k→bt r.target j≠63)) (fun v=>r.target.size - (RowKit.intOf v).toNat)
  case atStart=>exact ⟨a,Nat.le_refl _,hal,rfl,hid (fun j h1 h2=>by omega)⟩
  case round=>
   obtain ⟨k,hka,hk,rfl,HN⟩:=hrel
   by_cases hlt:k<r.target.size
   ·have hb:=@zE r.target k hlt
    have hki:(k:Int)<(r.target.size:Int):=by omega
    by_cases h63:bt r.target k=63
    ·have h63b:(bt r.target k !=63)=false:=by rw[h63];rfl
     have HE:=hid (zq7 hka hk HN.out (fun _=>h63));clear h63
     go_wp2
     go_meet
     exact ⟨by rw[HE.out],rfl⟩
    ·have h63b:(bt r.target k !=63)=true:=bne_iff_ne.2 h63
     have HN2:=hid (show ∀j,a≤j→j<k+1→bt r.target j≠63 from fun j h1 h2=>by
      by_cases e:j=k
      ·subst e;exact h63
      ·exact HN.out j h1 (by omega))
     clear h63
     go_wp2
     go_round
     case rel=>exact ⟨k+1,by omega,by omega,by go_num,HN2⟩
     case measure=>simp[RowKit.intOf];omega
   ·have hki:¬(k:Int)<(r.target.size:Int):=by omega
    have HE:=hid (zq7 hka hk HN.out (fun h=>absurd h hlt))
    go_wp2
    go_meet
    exact ⟨by rw[HE.out],rfl⟩
 obtain ⟨hu11,rfl⟩:=hcut;rw[hu11];clear hu11;have hle:a≤ziI r.target a∧ziI r.target a≤r.target.size:=by
  have hz:=zk r.target (a:=a) (b:=r.target.size) hal (Nat.le_refl _);have hp:=zfx (r.target.extract a r.target.size) 63;unfold ziI
  omega
 obtain ⟨k,hk⟩:∃k,k=ziI r.target a:=⟨_,rfl⟩;rw[←hk] at hle HPP HTX ⊢;clear hk;obtain ⟨hka,hkz⟩:=hle;have hpz:p.size=k - a:=by rw[HPP.out,ByteArray.size_extract];omega
 have hps:p.size≤1048576:=by omega
 have HPE:=hid HPP.out.symm;have hpe:r.target.extract a k=p:=HPP.out.symm;have HEX:=hid (show (r.target.extract 0 a).size=a∧(r.target.extract k r.target.size).size=r.target.size - k by constructor<;>(rw[ByteArray.size_extract];omega));have hai:(a:Int)≤(k:Int):=by omega
 have hki2:(k:Int)≤(r.target.size:Int):=by omega
 clear HPP hpz
 go_upto_region 12 with (fail)
 have g0:(w1.alloc (.cells #[.int .i64 tf,.string th,.int .i64 tp,.string tpa,.string tq,.bool thq] 102)).cell? ⟨w1.heap.size,0,none⟩=some (.int .i64 tf):=World.cell?_alloc_at _ _ _ _ rfl;obtain ⟨_,_,d2,_,_⟩:=HMD.out;have hlt3:w1.heap.size<(w1.alloc (.cells #[.int .i64 tf,.string th,.int .i64 tp,.string tpa,.string tq,.bool thq] 102)).heap.size:=by simp
 have hlt4:w.heap.size<(w1.alloc (.cells #[.int .i64 tf,.string th,.int .i64 tp,.string tpa,.string tq,.bool thq] 102)).heap.size:=by simp;omega
 generalize w1.alloc (.cells #[.int .i64 tf,.string th,.int .i64 tp,.string tpa,.string tq,.bool thq] 102)=wt at *
 go_cut [112] (fun x wx=>x= .bool (!ok)∧∃n,wx=wt.drewN n)
 case first=>
  by_cases h1:te=0
  ·by_cases hf:tf=1∨tf=2
   ·have hfb:(decide (tf=1)||decide (tf=2))=true:=by rcases hf with h|h<;>simp[h]
    by_cases h3:m.value.size≤p.size
    ·have h3i:(m.value.size:Int)≤(p.size:Int):=by omega
     have h3b:decide ((p.size:Int)<(m.value.size:Int))=false:=decide_eq_false (by omega);have h3c:¬p.size<m.value.size:=by omega
     have h3d:decide (p.size<m.value.size)=false:=decide_eq_false h3c
     by_cases h4:p.extract 0 m.value.size=m.value
     ·have h4e:((p.extract 0 m.value.size).toList==m.value.toList)=true:=by rw[h4];simp
      have h4b:((p.extract 0 m.value.size).toList !=m.value.toList)=false:=by rw[h4];simp
      by_cases h5:p.size≤m.value.size
      ·have h5b:decide ((m.value.size:Int)<(p.size:Int))=false:=decide_eq_false (by omega)
       have h5c:¬m.value.size<p.size:=by omega
       have h5d:decide (m.value.size<p.size)=false:=decide_eq_false h5c;have HO:=hid (show ok=true by rw[HOK.out,zfJ,decide_eq_true h1,hfb,decide_eq_true h3,decide_eq_true h4,decide_eq_true h5];first|rfl|simp);clear h4 hfb;subst h1
       rcases hf with rfl|rfl
       all_goals
        go_wp2_with fail
        go_quiet (fail)
        go_wp2
        go_meet
        exact ⟨by rw[HO.out];first|rfl|(simp only[h3d];rfl)|(simp;done)|(simp;omega),_,rfl⟩
      ·have h5i:(m.value.size:Int)<(p.size:Int):=by omega
       have h5c:m.value.size<p.size:=by omega
       have hb:=@zE p m.value.size (by omega)
       by_cases h6:bt p m.value.size=47
       ·have h6b:(bt p m.value.size !=47)=false:=by rw[h6];rfl
        have h6e:=beq_iff_eq.2 h6;have HO:=hid (show ok=true by rw[HOK.out,zfJ,decide_eq_true h1,hfb,decide_eq_true h3,decide_eq_true h4,decide_eq_true h6];first|rfl|simp);clear h4 h6 hfb;subst h1
        rcases hf with rfl|rfl
        all_goals
         go_wp2_with fail
         go_quiet (fail)
         go_wp2
         go_meet
         exact ⟨by rw[HO.out];first|rfl|(simp only[h3d];rfl)|(simp;done)|(simp;omega),_,rfl⟩
       ·have h6b:(bt p m.value.size !=47)=true:=bne_iff_ne.2 h6
        have h6e:(bt p m.value.size==47)=false:=beq_eq_false_iff_ne.2 h6;have HO:=hid (show ok=false by rw[HOK.out,zfJ,decide_eq_true h1,hfb,decide_eq_true h3,decide_eq_true h4,decide_eq_false h5,decide_eq_false h6];first|rfl|simp);clear h4 h6 hfb;subst h1
        rcases hf with rfl|rfl
        all_goals
         go_wp2_with fail
         go_quiet (fail)
         go_wp2
         go_meet
         exact ⟨by rw[HO.out];first|rfl|(simp only[h3d];rfl)|(simp;done)|(simp;omega),_,rfl⟩
     ·have h4n:¬(p.extract 0 m.value.size).toList=m.value.toList:=fun h=>h4 (zV (by rw[←Lib.toList_data,←Lib.toList_data];exact h))
      have h4b:((p.extract 0 m.value.size).toList !=m.value.toList)=true:=bne_iff_ne.2 h4n;have h4e:((p.extract 0 m.value.size).toList==m.value.toList)=false:=beq_eq_false_iff_ne.2 h4n;clear h4n;have HO:=hid (show ok=false by rw[HOK.out,zfJ,decide_eq_true h1,hfb,decide_eq_true h3,decide_eq_false h4];first|rfl|simp);clear h4 hfb;subst h1
      rcases hf with rfl|rfl
      all_goals
       go_wp2_with fail
       go_quiet (fail)
       go_wp2
       go_meet
       exact ⟨by rw[HO.out];first|rfl|(simp only[h3d];rfl)|(simp;done)|(simp;omega),_,rfl⟩
    ·have h3i:(p.size:Int)<(m.value.size:Int):=by omega
     have HO:=hid (show ok=false by rw[HOK.out,zfJ,decide_eq_true h1,hfb,decide_eq_false h3];first|rfl|simp);clear h3 hfb;subst h1
     rcases hf with rfl|rfl
     all_goals
      go_wp2_with fail
      go_quiet (fail)
      go_wp2
      go_meet
      exact ⟨by rw[HO.out];first|rfl|(simp only[h3d];rfl)|(simp;done)|(simp;omega),_,rfl⟩
   ·have q1:(tf !=1)=true:=bne_iff_ne.2 (fun h=>hf (.inl h))
    have q2:(tf !=2)=true:=bne_iff_ne.2 (fun h=>hf (.inr h));have HO:=hid (show ok=false by rw[HOK.out,decide_eq_false (fun h=>hf (.inl h)),decide_eq_false (fun h=>hf (.inr h))];simp);clear hf;subst h1
    go_wp2_with fail
    go_quiet (fail)
    go_wp2
    go_meet
    exact ⟨by rw[HO.out];first|rfl|(simp only[h3d];rfl)|(simp;done)|(simp;omega),_,rfl⟩
  ·have hq:(te !=0)=true:=bne_iff_ne.2 h1
   have HO:=hid (show ok=false by rw[HOK.out,decide_eq_false h1];rfl);clear h1
   go_wp2_with fail
   go_quiet (fail)
   go_wp2
   go_meet
   exact ⟨by rw[HO.out];first|rfl|(simp only[h3d];rfl)|(simp;done)|(simp;omega),_,rfl⟩
 obtain ⟨hu112,nq,rfl⟩:=hcut;rw[hu112];clear hu112;have HKW:=hid (show zb (fun _=>False) (S4 w (zf m A c) (zu r FA fc TA tc)) (wt.drewN nq) from HKT.out.drewN nq)
 cases ok
 ·have HSR:=hid (show so= .inr ⟨404,⟨#[]⟩,[ctF],zao 404⟩ by rw[HSO.out,if_neg (by decide),HBD.out])
  have HB:=hid (show zb (fun k=>k=w.heap.size+1+1∨k=w.heap.size+1+1+1) (S4 w (zf m A c) (zu r FA fc TA tc)) (wt.drewN nq).drew from (HKW.out.wider (fun _ _ h=>h.elim)).drew);have H4:=hid (zqY HKW.out.drew (fun h=>h));have H5:=hid (zq4 HKW.out.drew (fun h=>h));generalize (wt.drewN nq)=wz at *
  go_wp2_with fail
  refine zO (t:=4) (S:=fun W=>zb (fun k=>k=w.heap.size+1+1∨k=w.heap.size+1+1+1) (S4 w (zf m A c) (zu r FA fc TA tc)) W) (by kernel_rfl) HB.out (fun hHeld=>?_);generalize wz.drew=wr0 at *;refine za 0 (y:=fun w hSw=>by (try dsimp only at hSw);obtain ⟨a0,a1,a2,a3,a4,a5,a6⟩:=zf9 hSw (fun h=>by rcases h with h|h<;>omega);exact yl) (s:=hHeld) (h:=?_);refine zbC (rs:=[1]) (by kernel_rfl) (by simp) ?_;refine (zJ.cons rfl (fun K hK=>?n1_1) zJ.nil)
  case n1_1=>
   (try rw[if_pos (by rfl)])
   go_simp
   go_at_call 13
   refine (HPL.out _).mono ?_;rintro e wn2 ⟨A1,c1,rfl,ho,hb⟩;have HZ:=hid (show w.heap.size+4≤wr0.heap.size by have h:=HB.out.size;rw[HS0.out] at h;exact h);have OX:=hid (zn ho HZ.out);have HB9:=hid (HB.out.step hb);have H4:=hid (H4.out.keep (zb.of (D:=fun _=>False) hb) (by have h:=HB.out.size;rw[HS0.out] at h;omega) (fun h=>h));have H5:=hid (H5.out.keep (zb.of (D:=fun _=>False) hb) (by have h:=HB.out.size;rw[HS0.out] at h;omega) (fun h=>h));clear HB;have HB:=HB9;clear HB9;clear ho hb
   (try go_wp2_with fail)
   refine hK.out _ _ (.inr HB.out) (fun _=>nm ?_);clear hK K;refine zbC (rs:=[2]) (by kernel_rfl) (by simp) ?_;refine (zJ.cons rfl (fun K hK=>?n3_2) zJ.nil)
   case n3_2=>
    obtain ⟨⟨p0,p1,p2,p3,p4,p5,p6⟩,z0,z1,z2,z3,z4,z5,z6⟩:=H4.out
    go_simp
    clear p0 p1 p2 p3 p4 p5 p6 z0 z1 z2 z3 z4 z5 z6;show K _ (zeY wn2 (w.heap.size+1+1) (.string r.method) (.string r.target) (.int .i64 r.major) (.int .i64 r.minor) (.slice FA r.fields.length fc) (.string r.body) (.slice TA r.trailers.length tc));have HK:Hid (zb (fun k=>k=(w.heap.size+1+1)) wn2 (zeY wn2 (w.heap.size+1+1) (.string r.method) (.string r.target) (.int .i64 r.major) (.int .i64 r.minor) (.slice FA r.fields.length fc) (.string r.body) (.slice TA r.trailers.length tc))):=hid (zbA (E:=fun k=>k=(w.heap.size+1+1)) wn2 rfl (.string r.method) (.string r.target) (.int .i64 r.major) (.int .i64 r.minor) (.slice FA r.fields.length fc) (.string r.body) (.slice TA r.trailers.length tc));have H5:=hid (H5.out.keep HK.out (by have h:=HB.out.size;rw[HS0.out] at h;omega) (by omega));have OX:=hid (zP OX.out HK.out (fun k hk=>by subst hk;omega));have H4:=hid (H4.out.put (r:=r) (FA:=FA) (fc:=fc) (TA:=TA) (tc:=tc));have HB9:=hid (HB.out.trans (HK.out.wider (fun k _ h=>.inl h)));clear HB HK;have HB:=HB9;clear HB9;generalize (zeY wn2 (w.heap.size+1+1) (.string r.method) (.string r.target) (.int .i64 r.major) (.int .i64 r.minor) (.slice FA r.fields.length fc) (.string r.body) (.slice TA r.trailers.length tc))=wn4 at *;refine hK.out _ _ (.inr HB.out) (fun _=>nm ?_);clear hK K;refine zbC (rs:=[3]) (by kernel_rfl) (by simp) ?_;refine (zJ.cons rfl (fun K hK=>?n5_3) zJ.nil)
    case n5_3=>
     obtain ⟨⟨p0,p1,p2,p3⟩,z0,z1,z2,z3⟩:=H5.out
     go_simp
     clear p0 p1 p2 p3 z0 z1 z2 z3;show K _ (zal wn4 (w.heap.size+1+1+1) (.int .i64 404) (.string ⟨#[]⟩) (.slice A1 [ctF].length c1) (.string (zao 404)));have HK:Hid (zb (fun k=>k=(w.heap.size+1+1+1)) wn4 (zal wn4 (w.heap.size+1+1+1) (.int .i64 404) (.string ⟨#[]⟩) (.slice A1 [ctF].length c1) (.string (zao 404)))):=hid (z7 (E:=fun k=>k=(w.heap.size+1+1+1)) wn4 rfl (.int .i64 404) (.string ⟨#[]⟩) (.slice A1 [ctF].length c1) (.string (zao 404)));have H4:=hid (H4.out.keep HK.out (by have h:=HB.out.size;rw[HS0.out] at h;omega) (by omega));have OX:=hid (zP OX.out HK.out (fun k hk=>by subst hk;omega));have H5:=hid (H5.out.put (.int .i64 404) (.string ⟨#[]⟩) (.slice A1 [ctF].length c1) (.string (zao 404)));have HB9:=hid (HB.out.trans (HK.out.wider (fun k _ h=>.inr h)));clear HB HK;have HB:=HB9;clear HB9;generalize (zal wn4 (w.heap.size+1+1+1) (.int .i64 404) (.string ⟨#[]⟩) (.slice A1 [ctF].length c1) (.string (zao 404)))=wn6 at *;refine hK.out _ _ (.inr HB.out) (fun _=>nm ?_);clear hK K;refine zc 4 (h:=fun K hK=>?_)
     (try go_simp)
     refine hK.out _ _ (.inl (by rfl)) (fun _=>nm ?_);clear hK K;refine zy (by kernel_rfl) ?_ _;have HW:=hid (zt HB.out (fun k h=>by rcases h with h|h<;>omega) (zkg w _ _));obtain ⟨a0,a1,a2,a3,a4,a5,a6⟩:=H4.out;obtain ⟨x0,x1,x2,x3⟩:=H5.out;have HO9:=hid (zn (b':=w.heap.size) OX.out (by omega));clear HB H4 H5 OX HZ hHeld
     go_wp2
     exact bodyPost_ret (v:=.tuple #[rqV r FA fc TA tc,rsV ⟨404,⟨#[]⟩,[ctF],zao 404⟩ A1 c1,.bool true]) (by simp[results,Tryz.results43,go_sem,rqV,rsV,a0,a1,a2,a3,a4,a5,a6,x0,x1,x2,x3]) rfl (by rw[HSR.out];exact ⟨A1,c1,rfl,HO9.out,HW.out⟩)
 ·have HSR:=hid (show so= .inl {r with target:=tx} by rw[HSO.out,if_pos rfl])
  have hvp:m.value.size≤p.size:=by
   have h:=HOK.out;rw[zfJ] at h;simp at h;exact h.2.2.1.1
  have hvi:(m.value.size:Int)≤(p.size:Int):=by omega
  have H2:=hid (zf9 HKW.out (fun h=>h));have H4:=hid (zqY HKW.out (fun h=>h));have H5:=hid (zq4 HKW.out (fun h=>h));have HBW:=hid (zt HKW.out (fun k h=>h.elim) (zkg w _ _));have hwz:w.heap.size+4≤wt.heap.size:=by have h:=HKT.out.size;rw[HS0.out] at h;exact h
  obtain ⟨ea,hea⟩:∃ea,r.target.extract 0 a=ea:=⟨_,rfl⟩;obtain ⟨eb,heb⟩:∃eb,r.target.extract k r.target.size=eb:=⟨_,rfl⟩;obtain ⟨rs,hrs⟩:∃rs,p.extract m.value.size p.size=rs:=⟨_,rfl⟩;have hez:ea.size≤1048576:=by rw[←hea,ByteArray.size_extract];omega
  have hbz:eb.size≤1048576:=by rw[←heb,ByteArray.size_extract];omega
  have hrz:rs.size≤1048576:=by rw[←hrs,ByteArray.size_extract];omega
  have HTE:=hid (show tx=ea++(if rs.size=0 then zeJ else rs)++eb by rw[HTX.out,hea,heb,hrs]);generalize (wt.drewN nq)=wz at *;have HB:=hid (show zb (fun _=>False) (S4 w (zf m A c) (zu r FA fc TA tc)) wz.drew from HKW.out.drew);have H2b:=hid (zf9 HB.out (fun h=>h));have H4b:=hid (zqY HB.out (fun h=>h));have H5b:=hid (zq4 HB.out (fun h=>h));have HBW:=hid (zt HB.out (fun k h=>h.elim) (zkg w _ _));have hz1:w.heap.size+1<wz.heap.size:=by have h:=HKW.out.size;rw[HS0.out] at h;omega
  have hs1:¬9223372036854775807<ea.size+1:=by omega
  have hs2:¬9223372036854775807<ea.size+1+eb.size:=by omega
  have hs3:¬9223372036854775807<ea.size+rs.size:=by omega
  have hs4:¬9223372036854775807<ea.size+rs.size+eb.size:=by omega
  have hfr:wz.frozen? ⟨w.heap.size+1,1,none⟩=false:=(zg (i:=1) (cs:=zu r FA fc TA tc) HKW.out rfl (fun h=>h) 1).2
  by_cases hz:rs.size=0
  ·have he:rs.toList.isEmpty=true:=by rw[zo];exact decide_eq_true hz
   have HTX2:=hid (show tx=ea++(⟨#[47]⟩:ByteArray)++eb by rw[HTE.out,if_pos hz];rfl);clear hz
   go_wp2_with fail
   refine zO (t:=12) (S:=fun W=>zb (fun _=>False) (S4 w (zf m A c) (zu r FA fc TA tc)) W) (by kernel_rfl) HB.out (fun hHeld=>?_);refine za 0 (s:=hHeld) (h:=?_);refine za 1 (y:=fun w hSw=>by (try dsimp only at hSw);obtain ⟨a0,a1,a2,a3,a4,a5,a6⟩:=zf9 hSw (fun h=>h);exact yl) (s:=hHeld) (h:=?_);refine za 2 (s:=hHeld) (h:=?_);refine za 3 (s:=hHeld) (h:=?_);refine za 4 (s:=hHeld) (h:=?_);refine za 5 (s:=hHeld) (h:=?_);refine za 6 (s:=hHeld) (h:=?_);refine za 7 (y:=fun w hSw=>by (try dsimp only at hSw);obtain ⟨a0,a1,a2,a3,a4,a5,a6⟩:=zf9 hSw (fun h=>h);exact yl) (s:=hHeld) (h:=?_);refine za 8 (s:=hHeld) (h:=?_);refine za 9 (s:=hHeld) (h:=?_);refine za 10 (s:=hHeld) (h:=?_);refine za 11 (s:=hHeld) (h:=?_);have hd1:wz.drew.cell? ⟨w.heap.size+1,1,none⟩=some (.string r.target):=H2.out.2.1;have hf1:wz.drew.frozen? ⟨w.heap.size+1,1,none⟩=false:=hfr;refine zc 12 (h:=fun K hK=>?_)
   go_simp
   show K _ (wz.drew.setCell ⟨w.heap.size+1,1,none⟩ (.string (ea++(⟨#[47]⟩:ByteArray)++eb)));rw[←HTX2.out];have HKX:Hid (zb (fun k=>k=w.heap.size+1) wz.drew (wz.drew.setCell ⟨w.heap.size+1,1,none⟩ (.string tx))):=hid (zag (E:=fun k=>k=w.heap.size+1) wz.drew rfl 1 (.string tx));have hzd:w.heap.size+4≤wz.drew.heap.size:=by have h:=HB.out.size;rw[HS0.out] at h;exact h
   have H2n:=hid (H2b.out.setT tx);have H4n:=hid (H4b.out.keep HKX.out (by omega) (by omega));have H5n:=hid (H5b.out.keep HKX.out (by omega) (by omega));have HWn:=hid (zt HKX.out (fun k h=>by omega) HBW.out);generalize wz.drew.setCell ⟨w.heap.size+1,1,none⟩ (.string tx)=wy at *;refine hK.out _ _ (.inl (by rfl)) (fun _=>nm ?_);clear hK K;refine zy (by kernel_rfl) ?_ _;clear hHeld H2 H4 H5 H2b H4b H5b HKX hd1 hf1 HB HBW HKW;obtain ⟨a0,a1,a2,a3,a4,a5,a6⟩:=H2n.out;obtain ⟨⟨p0,p1,p2,p3,p4,p5,p6⟩,z0,z1,z2,z3,z4,z5,z6⟩:=H4n.out;obtain ⟨⟨x0,x1,x2,x3⟩,y0,y1,y2,y3⟩:=H5n.out;have HWF:=hid (zt ((zbA (E:=fun k=>w.heap.size≤k) wy (show w.heap.size≤w.heap.size+1+1 by omega) (.string r.method) (.string tx) (.int .i64 r.major) (.int .i64 r.minor) (.slice FA r.fields.length fc) (.string r.body) (.slice TA r.trailers.length tc)).trans (z7 (E:=fun k=>w.heap.size≤k) _ (show w.heap.size≤w.heap.size+1+1+1 by omega) (.int .i64 0) (.string ⟨#[]⟩) (.slice none 0 0) (.string ⟨#[]⟩))) (fun k h=>h) HWn.out);clear H2n H4n H5n HWn
   go_wp2
   exact bodyPost_ret (v:=.tuple #[rqV {r with target:=tx} FA fc TA tc,rsZ,.bool false]) (by simp[results,Tryz.results43,go_sem,rqV,rsZ,p0,p1,p2,p3,p4,p5,p6,x0,x1,x2,x3]) rfl (by rw[HSR.out];exact ⟨rfl,HWF.out⟩)
  ·have he:rs.toList.isEmpty=false:=by rw[zo];exact decide_eq_false hz
   have HTX2:=hid (show tx=ea++rs++eb by rw[HTE.out,if_neg hz]);clear hz
   go_wp2_with fail
   refine zO (t:=12) (S:=fun W=>zb (fun _=>False) (S4 w (zf m A c) (zu r FA fc TA tc)) W) (by kernel_rfl) HB.out (fun hHeld=>?_);refine za 0 (s:=hHeld) (h:=?_);refine za 1 (y:=fun w hSw=>by (try dsimp only at hSw);obtain ⟨a0,a1,a2,a3,a4,a5,a6⟩:=zf9 hSw (fun h=>h);exact yl) (s:=hHeld) (h:=?_);refine za 2 (s:=hHeld) (h:=?_);refine za 3 (s:=hHeld) (h:=?_);refine za 4 (s:=hHeld) (h:=?_);refine za 5 (s:=hHeld) (h:=?_);refine za 6 (s:=hHeld) (h:=?_);refine za 7 (y:=fun w hSw=>by (try dsimp only at hSw);obtain ⟨a0,a1,a2,a3,a4,a5,a6⟩:=zf9 hSw (fun h=>h);exact yl) (s:=hHeld) (h:=?_);refine za 8 (s:=hHeld) (h:=?_);refine za 9 (s:=hHeld) (h:=?_);refine za 10 (s:=hHeld) (h:=?_);refine za 11 (s:=hHeld) (h:=?_);have hd1:wz.drew.cell? ⟨w.heap.size+1,1,none⟩=some (.string r.target):=H2.out.2.1;have hf1:wz.drew.frozen? ⟨w.heap.size+1,1,none⟩=false:=hfr;refine zc 12 (h:=fun K hK=>?_)
   go_simp
   show K _ (wz.drew.setCell ⟨w.heap.size+1,1,none⟩ (.string (ea++rs++eb)));rw[←HTX2.out];have HKX:Hid (zb (fun k=>k=w.heap.size+1) wz.drew (wz.drew.setCell ⟨w.heap.size+1,1,none⟩ (.string tx))):=hid (zag (E:=fun k=>k=w.heap.size+1) wz.drew rfl 1 (.string tx));have hzd:w.heap.size+4≤wz.drew.heap.size:=by have h:=HB.out.size;rw[HS0.out] at h;exact h
   have H2n:=hid (H2b.out.setT tx);have H4n:=hid (H4b.out.keep HKX.out (by omega) (by omega));have H5n:=hid (H5b.out.keep HKX.out (by omega) (by omega));have HWn:=hid (zt HKX.out (fun k h=>by omega) HBW.out);generalize wz.drew.setCell ⟨w.heap.size+1,1,none⟩ (.string tx)=wy at *;refine hK.out _ _ (.inl (by rfl)) (fun _=>nm ?_);clear hK K;refine zy (by kernel_rfl) ?_ _;clear hHeld H2 H4 H5 H2b H4b H5b HKX hd1 hf1 HB HBW HKW;obtain ⟨a0,a1,a2,a3,a4,a5,a6⟩:=H2n.out;obtain ⟨⟨p0,p1,p2,p3,p4,p5,p6⟩,z0,z1,z2,z3,z4,z5,z6⟩:=H4n.out;obtain ⟨⟨x0,x1,x2,x3⟩,y0,y1,y2,y3⟩:=H5n.out;have HWF:=hid (zt ((zbA (E:=fun k=>w.heap.size≤k) wy (show w.heap.size≤w.heap.size+1+1 by omega) (.string r.method) (.string tx) (.int .i64 r.major) (.int .i64 r.minor) (.slice FA r.fields.length fc) (.string r.body) (.slice TA r.trailers.length tc)).trans (z7 (E:=fun k=>w.heap.size≤k) _ (show w.heap.size≤w.heap.size+1+1+1 by omega) (.int .i64 0) (.string ⟨#[]⟩) (.slice none 0 0) (.string ⟨#[]⟩))) (fun k h=>h) HWn.out);clear H2n H4n H5n HWn
   go_wp2
   exact bodyPost_ret (v:=.tuple #[rqV {r with target:=tx} FA fc TA tc,rsZ,.bool false]) (by simp[results,Tryz.results43,go_sem,rqV,rsZ,p0,p1,p2,p3,p4,p5,p6,x0,x1,x2,x3]) rfl (by rw[HSR.out];exact ⟨rfl,HWF.out⟩)
end Go.Proofs.YtbnafbdhomdcoaaGreatDoor
