/-
  CkG, CkH, CkI0, CkF0, without what the claim does not reach.
-/
import Derived.Test.YtbnafbdhomdcoaaGreatDoorZm9
import Derived.Test.YtbnafbdhomdcoaaGreatDoorZm7
import Derived.Test.YtbnafbdhomdcoaaGreatDoorZTgRp
import Derived.Test.YtbnafbdhomdcoaaGreatDoorZTgHp
import Derived.Test.YtbnafbdhomdcoaaGreatDoorZCjDg
import Derived.Test.YtbnafbdhomdcoaaGreatDoorZm8
import Derived.Test.YtbnafbdhomdcoaaGreatDoorZm4
import Derived.Test.YtbnafbdhomdcoaaGreatDoorZm1
import Derived.Deep.QuietTactic
import Derived.BigQuiet
import Derived.Test.YtbnafbdhomdcoaaGreatDoorZm2
namespace Go.Proofs.YtbnafbdhomdcoaaGreatDoor
open Go.RowKit Go.Shelf Go.Lib
theorem zjT {w w':World} {t:TypeId} {r:Rq} {FA TA:Option Addr} {fc tc:Nat} (h:Below (w.heap.size+1) (w.alloc (.cells (zu r FA fc TA tc) t)) w'):
  w'.cell? ⟨w.heap.size,0,none⟩=some (.string r.method)∧w'.cell? ⟨w.heap.size,1,none⟩=some (.string r.target)∧w'.cell? ⟨w.heap.size,2,none⟩=some (.int .i64 r.major)∧w'.cell? ⟨w.heap.size,3,none⟩=some (.int .i64 r.minor)∧
  w'.cell? ⟨w.heap.size,4,none⟩=some (.slice FA r.fields.length fc)∧w'.cell? ⟨w.heap.size,5,none⟩=some (.string r.body)∧w'.cell? ⟨w.heap.size,6,none⟩=some (.slice TA r.trailers.length tc):=
 ⟨(zH h 0).1,(zH h 1).1,(zH h 2).1,(zH h 3).1,(zH h 4).1,(zH h 5).1,(zH h 6).1⟩
def zef (m:zY) (s:ByteArray):ByteArray:=if zaW m=true then zcl else s
set_option maxRecDepth 20000 in
theorem zix (m:zY) (A:Option Addr) (c:Nat) (f:ByteArray) (w:World) (hr:Row w A (m.list.map .string)) (h0:0<m.list.length):
  Calls Tryz.prog 48 #[zL m A c,.string f] w fun e w'=>e= .returned (.string (zef m f))∧Below w.heap.size w w':=by
 obtain ⟨s,hs⟩:=zD h0;obtain ⟨b,off,rfl,hb,hc⟩:=hr.str hs;rw[Nat.add_zero] at hc;have hst:=ze5 s;have HV:=hid (show zef m f=if decide (s=zcl)=true then zcl else f by unfold zef;rw[zfM hs]);have hi0:(0:Int)<(m.list.length:Int):=by omega
 generalize zef m f=vp at *;clear hs;unfold zL
 cases hd:decide (s=zcl)
 all_goals
  rw[hd] at HV hst
  go_enter Tryz.func48,Tryz.ntmps48
  go_wp2
  go_ret
  exact ⟨zbz (by rw[HV.out];rfl),(Below.refl _ w).alloc (Nat.le_refl _) _⟩
theorem zsd (w:World) {n:Nat} (hn:n=w.heap.size):(w.alloc (.cells #[.string ⟨#[86,97,114,121]⟩,.string ⟨#[79,114,105,103,105,110]⟩] 69)).ownsRow n 69 2 (.slice (some ⟨n,0,none⟩) 1 1) 1 (zj [zn5]):=by
 subst hn;exact World.ownsRow_lit w #[.string ⟨#[86,97,114,121]⟩,.string ⟨#[79,114,105,103,105,110]⟩] 1 (Nat.le_refl _) (by unfold maxLen;omega) rfl
set_option maxRecDepth 20000 in
theorem zmE (m:zY) (A:Option Addr) (c:Nat) (w:World) (hr:Row w A (m.list.map .string)) (h0:0<m.list.length):
  Calls Tryz.prog 50 #[zL m A c] w (zgf 69 w (zb2 m)):=by
 obtain ⟨s,hs⟩:=zD h0;obtain ⟨b,off,rfl,hb,hc⟩:=hr.str hs;rw[Nat.add_zero] at hc;have hst:=ze5 s;have HV:=hid (show zb2 m=if decide (s=zcl)=true then [] else [zn5] by unfold zb2;rw[zfM hs]);have hi0:(0:Int)<(m.list.length:Int):=by omega
 generalize zb2 m=vp at *;clear hs;unfold zL
 cases hd:decide (s=zcl)
 ·rw[hd] at HV hst
  have HO:=hid (zsd (w.alloc (.cells #[.int .i64 m.kind,.string m.name,.string m.value,.slice (some ⟨b,off,none⟩) m.list.length c,.int .i64 m.n] 65)) (n:=w.heap.size+1) (by simp))
  go_enter Tryz.func50,Tryz.ntmps50
  go_wp2
  go_ret
  have e:=HV.out;simp at e;subst e;exact ⟨_,1,rfl,zn HO.out (by omega),((Below.refl _ w).alloc (Nat.le_refl _) _).alloc (by simp) _⟩
 ·rw[hd] at HV hst
  go_enter Tryz.func50,Tryz.ntmps50
  go_wp2
  go_ret
  have e:=HV.out;simp at e;subst e;exact ⟨none,0,rfl,World.ownsRow_nil _ _ _ _,(Below.refl _ w).alloc (Nat.le_refl _) _⟩
def zg7 (w:World) (o:Option ByteArray) (e:Ending) (w':World):Prop:=∃h b,e= .returned (.tuple #[.string h,.bool b])∧Below w.heap.size w w'∧(match o with|some s=>h=s∧b=true|none=>b=false)
theorem zkP {w w':World} {o:Option ByteArray} {s:ByteArray} (h:o=some s) (hb:Below w.heap.size w w'):zg7 w o (.returned (.tuple #[.string s,.bool true])) w':=by
 subst h;exact ⟨s,true,rfl,hb,rfl,rfl⟩
theorem ziz {w w':World} {o:Option ByteArray} {s:ByteArray} (h:o=none) (hb:Below w.heap.size w w'):zg7 w o (.returned (.tuple #[.string s,.bool false])) w':=by
 subst h;exact ⟨s,false,rfl,hb,rfl⟩
set_option maxRecDepth 20000 in
set_option maxHeartbeats 4000000 in
theorem zs3 (r:Rq) (FA:Option Addr) (fc:Nat) (TA:Option Addr) (tc:Nat) (w:World) (hF:Row w FA (zj r.fields)) (hr:zcO r):
  Calls Tryz.prog 46 #[rqV r FA fc TA tc] w (zg7 w (zc9 r)):=by
 have HPA:=hid (fun (W:World)=>T5.Rparse_any r.method r.target W (Nat.le_trans hr.target (by decide)));have HON:=hid (fun (W:World) (h:Below w.heap.size w W)=>zgE r FA fc TA tc zeR W (hF.below h) hr zlk);have HAU:=hid (fun (s:ByteArray) (hs:s.size≤1048576) (W:World)=>T5.HostPort_any s W (Nat.le_trans hs (by decide)));have HOZ:=hid (fun s (h:zaD r.fields zeR=some s)=>zdS hr.fields h);have HAS:=hid (show zc9 r=if (T5.parseT r.method r.target).2.2=0∧(T5.parseT r.method r.target).1.form=2 then some (T5.parseT r.method r.target).1.host
  else match zaD r.fields zeR with
   |none=>none
   |some s=>if (T5.authR s).2.2=0 then some (T5.authR s).1 else none from rfl)
 generalize zc9 r=ah at *;generalize T5.parseT r.method r.target=pt at *;obtain ⟨⟨tf,th,tp,tpa,tq,thq⟩,ti,te⟩:=pt;unfold T5.tgVal T5.Tg.val at HPA;dsimp only at HPA HAS;clear hF hr;unfold rqV at *;unfold zeR at HON;have hcase:(te=0∧tf=2)∨(te=0∧¬tf=2)∨¬te=0:=by
  by_cases h1:te=0
  ·by_cases h2:tf=2
   ·exact .inl ⟨h1,h2⟩
   ·exact .inr (.inl ⟨h1,h2⟩)
  ·exact .inr (.inr h1)
 rcases hcase with ⟨h1,h2⟩|hcase
 ·subst h1
  subst h2;have HR:=hid (HAS.out.trans (if_pos ⟨rfl,rfl⟩))
  go_enter Tryz.func46,Tryz.ntmps46
  go_wp2_with fail
  refine (HPA.out _).mono ?_;rintro e w1 ⟨rfl,b0⟩;have hbw:=zbL b0 rfl;have hz1:w.heap.size<w1.heap.size:=by have h:=b0.size;simp at h;omega
  clear b0;have hb2:=hbw.alloc hbw.size (.cells #[.int .i64 2,.string th,.int .i64 tp,.string tpa,.string tq,.bool thq] 102)
  go_wp2
  go_ret2
  exact zkP HR.out hb2
 ·have hnf:¬(te=0∧tf=2):=by
   rintro ⟨h1,h2⟩
   rcases hcase with ⟨_,h⟩|h
   ·exact h h2
   ·exact h h1
  have hc2:(te=0∧(tf==2)=false)∨(te==0)=false:=by
   rcases hcase with ⟨h,h'⟩|h
   ·exact .inl ⟨h,beq_eq_false_iff_ne.2 h'⟩
   ·exact .inr (beq_eq_false_iff_ne.2 h)
  have HA2:=hid (HAS.out.trans (if_neg hnf));clear hcase hnf HAS;have key:∀(s:ByteArray) (b:Bool),zbO (zaD r.fields zeR)= .tuple #[.string s,.bool b]→s.size≤1048576→(∀h p f,T5.authR s=(h,p,f)→(b&&(f==0))=ah.isSome∧(ah.isSome=true→ah=some h))→
    Calls Tryz.prog 46 #[.agg #[.string r.method,.string r.target,.int .i64 r.major,.int .i64 r.minor,.slice FA r.fields.length fc,.string r.body,.slice TA r.trailers.length tc]] w (zg7 w ah):=by
   intro s b hv hs hres;unfold zeR at hv;rw[hv] at HON;have HAS:=hid (HAU.out s hs);unfold T5.authVal at HAS;have HRS:=hid (hres (T5.authR s).1 (T5.authR s).2.1 (T5.authR s).2.2 rfl);generalize T5.authR s=ar at *;obtain ⟨h,p,f⟩:=ar;dsimp only at HAS HRS;clear hv hres HAU HOZ HA2
   rcases hc2 with ⟨rfl,hq⟩|hq
   all_goals
    have HQ:=hid hq
    cases b
    ·go_enter Tryz.func46,Tryz.ntmps46
     go_wp2_with fail
     refine (HPA.out _).mono ?_;rintro e w1 ⟨rfl,b0⟩;obtain ⟨a0,a1,a2,a3,a4,a5,a6⟩:=zjT (r:=r) (FA:=FA) (fc:=fc) (TA:=TA) (tc:=tc) (zfi b0);have hbw:=zbL b0 rfl;have hz1:w.heap.size<w1.heap.size:=by have h:=b0.size;simp at h;omega
     clear b0;have hb2:=hbw.alloc hbw.size (.cells #[.int .i64 tf,.string th,.int .i64 tp,.string tpa,.string tq,.bool thq] 102)
     go_wp2_with fail
     refine (HON.out _ hb2).mono ?_;rintro e w2 ⟨rfl,b2⟩;have hb3:=hb2.trans (b2.mono hb2.size);clear b2 a0 a1 a2 a3 a4 a5 a6
     go_wp2_with fail
     refine (HAS.out _).mono ?_;rintro e w3 ⟨rfl,b3⟩;have hb4:=hb3.trans (b3.mono hb3.size);clear b3
     go_wp2
     go_ret2
     refine ziz ?_ hb4;have h:=HRS.out.1
     cases ah with
     |none=>rfl
     |some x=>simp at h
    ·cases hf:f==0
     ·rw[hf] at HRS
      go_enter Tryz.func46,Tryz.ntmps46
      go_wp2_with fail
      refine (HPA.out _).mono ?_;rintro e w1 ⟨rfl,b0⟩;obtain ⟨a0,a1,a2,a3,a4,a5,a6⟩:=zjT (r:=r) (FA:=FA) (fc:=fc) (TA:=TA) (tc:=tc) (zfi b0);have hbw:=zbL b0 rfl;have hz1:w.heap.size<w1.heap.size:=by have h:=b0.size;simp at h;omega
      clear b0;have hb2:=hbw.alloc hbw.size (.cells #[.int .i64 tf,.string th,.int .i64 tp,.string tpa,.string tq,.bool thq] 102)
      go_wp2_with fail
      refine (HON.out _ hb2).mono ?_;rintro e w2 ⟨rfl,b2⟩;have hb3:=hb2.trans (b2.mono hb2.size);clear b2 a0 a1 a2 a3 a4 a5 a6
      go_wp2_with fail
      refine (HAS.out _).mono ?_;rintro e w3 ⟨rfl,b3⟩;have hb4:=hb3.trans (b3.mono hb3.size);clear b3
      go_wp2
      go_ret2
      refine ziz ?_ hb4;have h:=HRS.out.1
      cases ah with
      |none=>rfl
      |some x=>simp at h
     ·rw[hf] at HRS
      go_enter Tryz.func46,Tryz.ntmps46
      go_wp2_with fail
      refine (HPA.out _).mono ?_;rintro e w1 ⟨rfl,b0⟩;obtain ⟨a0,a1,a2,a3,a4,a5,a6⟩:=zjT (r:=r) (FA:=FA) (fc:=fc) (TA:=TA) (tc:=tc) (zfi b0);have hbw:=zbL b0 rfl;have hz1:w.heap.size<w1.heap.size:=by have h:=b0.size;simp at h;omega
      clear b0;have hb2:=hbw.alloc hbw.size (.cells #[.int .i64 tf,.string th,.int .i64 tp,.string tpa,.string tq,.bool thq] 102)
      go_wp2_with fail
      refine (HON.out _ hb2).mono ?_;rintro e w2 ⟨rfl,b2⟩;have hb3:=hb2.trans (b2.mono hb2.size);clear b2 a0 a1 a2 a3 a4 a5 a6
      go_wp2_with fail
      refine (HAS.out _).mono ?_;rintro e w3 ⟨rfl,b3⟩;have hb4:=hb3.trans (b3.mono hb3.size);clear b3
      go_wp2
      go_ret2
      exact zkP (HRS.out.2 HRS.out.1.symm) hb4
  have HA3:=HA2.out
  cases hon:zaD r.fields zeR with
  |none=>
   rw[hon] at HA3;refine key ⟨#[]⟩ false (by rw[hon];rfl) (by decide) (fun h p f _=>?_);rw[HA3];exact ⟨rfl,fun h=>by cases h⟩
  |some s=>
   rw[hon] at HA3;refine key s true (by rw[hon];rfl) (HOZ.out s hon) (fun h p f ha=>?_);rw[HA3];dsimp only;rw[ha];dsimp only
   by_cases hf:f=0
   ·rw[if_pos hf,hf]
    exact ⟨rfl,fun _=>rfl⟩
   ·rw[if_neg hf,beq_eq_false_iff_ne.2 hf]
    exact ⟨rfl,fun h=>by cases h⟩
def Bx (w:World):List Obj→World
 |[]=>w
 |o::l=>Bx (w.alloc o) l
theorem zfZ (w:World) (l:List Obj):(Bx w l).heap.size=w.heap.size+l.length:=by
 induction l generalizing w with
 |nil=>rfl
 |cons o l ih=>show (Bx (w.alloc o) l).heap.size=_;rw[ih];simp;omega
theorem zd4 (w:World) (l:List Obj):Below w.heap.size w (Bx w l):=by
 induction l generalizing w with
 |nil=>exact Below.refl _ _
 |cons o l ih=>exact ((Below.refl _ w).alloc (Nat.le_refl _) o).trans ((ih (w.alloc o)).mono (by simp))
theorem zhz (w:World) (l:List Obj):∀{i:Nat} {cs:Array Value} {t:TypeId},l[i]?=some (.cells cs t)→∀j,(Bx w l).cell? ⟨w.heap.size+i,j,none⟩=cs[j]?∧(Bx w l).frozen? ⟨w.heap.size+i,j,none⟩=false:=by
 induction l generalizing w with
 |nil=>intro i cs t h;simp at h
 |cons o l ih=>
  intro i cs t h j
  cases i with
  |zero=>
   have e:o= .cells cs t:=by simpa using h
   subst e;have hb:=zd4 (w.alloc (.cells cs t)) l;have hp:(⟨w.heap.size+0,j,none⟩:Addr).block<(w.alloc (.cells cs t)).heap.size:=by simp
   show (Bx (w.alloc (.cells cs t)) l).cell? _=_∧(Bx (w.alloc (.cells cs t)) l).frozen? _=_;rw[hb.cell hp,hb.frozen hp];exact ⟨World.cell?_alloc_at _ _ _ _ (by simp),World.frozen?_alloc_at _ _ _ _ (by simp)⟩
  |succ i=>
   have h':l[i]?=some (.cells cs t):=by simpa using h
   have:=ih (w.alloc o) h' j;rw[show (w.alloc o).heap.size+i=w.heap.size+(i+1) by simp;omega] at this;exact this
theorem zg {E:Nat→Prop} {w w':World} {l:List Obj} (hk:zb E (Bx w l) w') {i:Nat} {cs:Array Value} {t:TypeId} (h:l[i]?=some (.cells cs t)) (hE:¬E (w.heap.size+i)) (j:Nat):
  w'.cell? ⟨w.heap.size+i,j,none⟩=cs[j]?∧w'.frozen? ⟨w.heap.size+i,j,none⟩=false:=by
 have hi:i<l.length:=(List.getElem?_eq_some_iff.1 h).1;have hp:(⟨w.heap.size+i,j,none⟩:Addr).block<(Bx w l).heap.size:=by rw[zfZ];show w.heap.size+i<_;omega
 rw[hk.cell hp hE,hk.frozen hp hE];exact zhz w l h j
def zhI:Array Value:=#[.string ⟨#[]⟩,.string ⟨#[]⟩,.int .i64 0,.int .i64 0,.slice none 0 0,.string ⟨#[]⟩,.slice none 0 0]
def zeY (w:World) (b:Nat) (v0 v1 v2 v3 v4 v5 v6:Value):World:=
 ((((((w.setCell ⟨b,0,none⟩ v0).setCell ⟨b,1,none⟩ v1).setCell ⟨b,2,none⟩ v2).setCell ⟨b,3,none⟩ v3).setCell ⟨b,4,none⟩ v4).setCell ⟨b,5,none⟩ v5).setCell ⟨b,6,none⟩ v6
theorem zag {E:Nat→Prop} (w:World) {b:Nat} (hb:E b) (j:Nat) (v:Value):zb E w (w.setCell ⟨b,j,none⟩ v):=
 ⟨rfl,rfl,rfl,by simp,fun k _ hn=>Below.heap_setCell _ _ _ _ (fun e=>hn (by subst e;exact hb))⟩
theorem zbA {E:Nat→Prop} (w:World) {b:Nat} (hb:E b) (v0 v1 v2 v3 v4 v5 v6:Value):zb E w (zeY w b v0 v1 v2 v3 v4 v5 v6):=
 ((((((zag w hb 0 v0).trans (zag _ hb 1 v1)).trans (zag _ hb 2 v2)).trans (zag _ hb 3 v3)).trans (zag _ hb 4 v4)).trans (zag _ hb 5 v5)).trans (zag _ hb 6 v6)
theorem zi4 (w:World) (b:Nat) (v0 v1 v2 v3 v4 v5 v6:Value):(zeY w b v0 v1 v2 v3 v4 v5 v6).heap.size=w.heap.size:=by simp[zeY]
theorem zrQ (w:World) (b:Nat) (v0 v1 v2 v3:Value):(zal w b v0 v1 v2 v3).heap.size=w.heap.size:=by simp[zal]
theorem zi {w:World} {b i j:Nat} {u v:Value} (h:w.cell? ⟨b,i,none⟩=some u):(w.setCell ⟨b,j,none⟩ v).cell? ⟨b,i,none⟩=some (if i=j then v else u):=by
 by_cases e:i=j
 ·subst e
  rw[if_pos rfl];exact World.cell?_setCell_same _ _ _ h
 ·rw[if_neg e,World.cell?_setCell_other _ _ _ _ (fun g=>e (congrArg Addr.off g).symm)]
  exact h
theorem zkR {w:World} {b:Nat} (v0 v1 v2 v3 v4 v5 v6:Value) {u0 u1 u2 u3 u4 u5 u6:Value}
  (h0:w.cell? ⟨b,0,none⟩=some u0) (h1:w.cell? ⟨b,1,none⟩=some u1) (h2:w.cell? ⟨b,2,none⟩=some u2) (h3:w.cell? ⟨b,3,none⟩=some u3) (h4:w.cell? ⟨b,4,none⟩=some u4) (h5:w.cell? ⟨b,5,none⟩=some u5) (h6:w.cell? ⟨b,6,none⟩=some u6):
  (zeY w b v0 v1 v2 v3 v4 v5 v6).cell? ⟨b,0,none⟩=some v0∧(zeY w b v0 v1 v2 v3 v4 v5 v6).cell? ⟨b,1,none⟩=some v1∧(zeY w b v0 v1 v2 v3 v4 v5 v6).cell? ⟨b,2,none⟩=some v2∧(zeY w b v0 v1 v2 v3 v4 v5 v6).cell? ⟨b,3,none⟩=some v3∧
  (zeY w b v0 v1 v2 v3 v4 v5 v6).cell? ⟨b,4,none⟩=some v4∧(zeY w b v0 v1 v2 v3 v4 v5 v6).cell? ⟨b,5,none⟩=some v5∧(zeY w b v0 v1 v2 v3 v4 v5 v6).cell? ⟨b,6,none⟩=some v6:=
 ⟨zi (zi (zi (zi (zi (zi (zi h0)))))),zi (zi (zi (zi (zi (zi (zi h1)))))),zi (zi (zi (zi (zi (zi (zi h2)))))),zi (zi (zi (zi (zi (zi (zi h3)))))),
  zi (zi (zi (zi (zi (zi (zi h4)))))),zi (zi (zi (zi (zi (zi (zi h5)))))),zi (zi (zi (zi (zi (zi (zi h6))))))⟩
theorem zhM {w:World} {b:Nat} (v0 v1 v2 v3:Value) {u0 u1 u2 u3:Value}
  (h0:w.cell? ⟨b,0,none⟩=some u0) (h1:w.cell? ⟨b,1,none⟩=some u1) (h2:w.cell? ⟨b,2,none⟩=some u2) (h3:w.cell? ⟨b,3,none⟩=some u3):
  (zal w b v0 v1 v2 v3).cell? ⟨b,0,none⟩=some v0∧(zal w b v0 v1 v2 v3).cell? ⟨b,1,none⟩=some v1∧(zal w b v0 v1 v2 v3).cell? ⟨b,2,none⟩=some v2∧(zal w b v0 v1 v2 v3).cell? ⟨b,3,none⟩=some v3:=
 ⟨zi (zi (zi (zi h0))),zi (zi (zi (zi h1))),zi (zi (zi (zi h2))),zi (zi (zi (zi h3)))⟩
def rsZ:Value:=.agg #[.int .i64 0,.string ⟨#[]⟩,.slice none 0 0,.string ⟨#[]⟩]
def zcR (FA:Option Addr) (fc:Nat) (TA:Option Addr) (tc:Nat) (w:World) (r:Rq) (o:Rq⊕Rs) (e:Ending) (w':World):Prop:=match o with
 | .inl q=>e= .returned (.tuple #[rqV q FA fc TA tc,rsZ,.bool false])∧Below w.heap.size w w'
 | .inr x=>∃A c,e= .returned (.tuple #[rqV r FA fc TA tc,rsV x A c,.bool true])∧w'.ownsRow w.heap.size 69 2 (.slice A x.fields.length c) x.fields.length (zj x.fields)∧Below w.heap.size w w'
theorem zro (P:Nat→Bool):∀(n i:Nat),i≤zdG P i n
 |0,i=>Nat.le_refl _
 |n+1,i=>by
  unfold zdG
  split
  ·exact Nat.le_trans (Nat.le_succ i) (zro P n (i+1))
  ·exact Nat.le_refl _
theorem zq7 {s:ByteArray} {a k:Nat} (h1:a≤k) (h2:k≤s.size) (hn:∀j,a≤j→j<k→bt s j≠63) (hb:k<s.size→bt s k=63):ziI s a=k:=by
 have hz:=zk s (a:=a) (b:=s.size) (by omega) (Nat.le_refl _);unfold ziI
 by_cases e:k<s.size
 ·rw[T5.place_at (k:=k - a) (by omega) (by rw[zbe s (by omega),show a+(k - a)=k by omega];exact hb e) (fun j hj=>by rw[zbe s (by omega)];exact hn _ (by omega) (by omega))]
  omega
 ·rw[T5.place_none (fun j hj=>by rw[zbe s (by omega)];exact hn _ (by omega) (by omega))]
  omega
theorem zm7 {s:ByteArray} {k:Nat} (h1:7≤k) (h2:k≤s.size) (hn:∀j,7≤j→j<k→bt s j≠47∧bt s j≠63) (hb:k<s.size→bt s k=47∨bt s k=63):T5.endA s 7=k:=by
 by_cases e:k<s.size
 ·exact T5.endA_at h1 e hn (hb e)
 ·have e2:k=s.size:=by omega
  rw[e2];exact T5.endA_none (by omega) (fun j h3 h4=>hn j h3 (by omega))
def S4 (w:World) (a b:Array Value):World:=Bx w [.cells a 65,.cells b 44,.cells zhI 44,.cells zei 39]
theorem zxc (w:World) (a b:Array Value):(((w.alloc (.cells a 65)).alloc (.cells b 44)).alloc (.cells #[.string ⟨#[]⟩,.string ⟨#[]⟩,.int .i64 0,.int .i64 0,.slice none 0 0,.string ⟨#[]⟩,.slice none 0 0] 44)).alloc (.cells #[.int .i64 0,.string ⟨#[]⟩,.slice none 0 0,.string ⟨#[]⟩] 39)=S4 w a b:=rfl
theorem zvS (w:World) (a b:Array Value):(S4 w a b).heap.size=w.heap.size+4:=zfZ w _
theorem zkg (w:World) (a b:Array Value):Below w.heap.size w (S4 w a b):=zd4 w _
section
variable {E:Nat→Prop} {w W:World} {m:zY} {A:Option Addr} {c:Nat} {r:Rq} {FA TA:Option Addr} {fc tc:Nat}
def ziP (W:World) (b:Nat) (m:zY) (A:Option Addr) (c:Nat):Prop:=W.cell? ⟨b,0,none⟩=some (.int .i64 m.kind)∧W.cell? ⟨b,1,none⟩=some (.string m.name)∧W.cell? ⟨b,2,none⟩=some (.string m.value)∧W.cell? ⟨b,3,none⟩=some (.slice A m.list.length c)∧W.cell? ⟨b,4,none⟩=some (.int .i64 m.n)
def zh5 (W:World) (b:Nat) (r:Rq) (FA:Option Addr) (fc:Nat) (TA:Option Addr) (tc:Nat):Prop:=W.cell? ⟨b,0,none⟩=some (.string r.method)∧W.cell? ⟨b,1,none⟩=some (.string r.target)∧W.cell? ⟨b,2,none⟩=some (.int .i64 r.major)∧W.cell? ⟨b,3,none⟩=some (.int .i64 r.minor)∧
  W.cell? ⟨b,4,none⟩=some (.slice FA r.fields.length fc)∧W.cell? ⟨b,5,none⟩=some (.string r.body)∧W.cell? ⟨b,6,none⟩=some (.slice TA r.trailers.length tc)
def znk (W:World) (b:Nat):Prop:=(W.cell? ⟨b,0,none⟩=some (.string ⟨#[]⟩)∧W.cell? ⟨b,1,none⟩=some (.string ⟨#[]⟩)∧W.cell? ⟨b,2,none⟩=some (.int .i64 0)∧W.cell? ⟨b,3,none⟩=some (.int .i64 0)∧W.cell? ⟨b,4,none⟩=some (.slice none 0 0)∧W.cell? ⟨b,5,none⟩=some (.string ⟨#[]⟩)∧W.cell? ⟨b,6,none⟩=some (.slice none 0 0))∧
  W.frozen? ⟨b,0,none⟩=false∧W.frozen? ⟨b,1,none⟩=false∧W.frozen? ⟨b,2,none⟩=false∧W.frozen? ⟨b,3,none⟩=false∧W.frozen? ⟨b,4,none⟩=false∧W.frozen? ⟨b,5,none⟩=false∧W.frozen? ⟨b,6,none⟩=false
def zic (W:World) (b:Nat):Prop:=(W.cell? ⟨b,0,none⟩=some (.int .i64 0)∧W.cell? ⟨b,1,none⟩=some (.string ⟨#[]⟩)∧W.cell? ⟨b,2,none⟩=some (.slice none 0 0)∧W.cell? ⟨b,3,none⟩=some (.string ⟨#[]⟩))∧
  W.frozen? ⟨b,0,none⟩=false∧W.frozen? ⟨b,1,none⟩=false∧W.frozen? ⟨b,2,none⟩=false∧W.frozen? ⟨b,3,none⟩=false
theorem ztE (h:zb E (S4 w (zf m A c) (zu r FA fc TA tc)) W) (hE:¬E w.heap.size):ziP W w.heap.size m A c:=
 ⟨(zg (i:=0) h rfl hE 0).1,(zg (i:=0) h rfl hE 1).1,(zg (i:=0) h rfl hE 2).1,(zg (i:=0) h rfl hE 3).1,(zg (i:=0) h rfl hE 4).1⟩
theorem zf9 (h:zb E (S4 w (zf m A c) (zu r FA fc TA tc)) W) (hE:¬E (w.heap.size+1)):zh5 W (w.heap.size+1) r FA fc TA tc:=
 ⟨(zg (i:=1) h rfl hE 0).1,(zg (i:=1) h rfl hE 1).1,(zg (i:=1) h rfl hE 2).1,(zg (i:=1) h rfl hE 3).1,(zg (i:=1) h rfl hE 4).1,(zg (i:=1) h rfl hE 5).1,(zg (i:=1) h rfl hE 6).1⟩
theorem zqY (h:zb E (S4 w (zf m A c) (zu r FA fc TA tc)) W) (hE:¬E (w.heap.size+1+1)):znk W (w.heap.size+1+1):=
 ⟨⟨(zg (i:=2) h rfl hE 0).1,(zg (i:=2) h rfl hE 1).1,(zg (i:=2) h rfl hE 2).1,(zg (i:=2) h rfl hE 3).1,(zg (i:=2) h rfl hE 4).1,(zg (i:=2) h rfl hE 5).1,(zg (i:=2) h rfl hE 6).1⟩,
  (zg (i:=2) h rfl hE 0).2,(zg (i:=2) h rfl hE 1).2,(zg (i:=2) h rfl hE 2).2,(zg (i:=2) h rfl hE 3).2,(zg (i:=2) h rfl hE 4).2,(zg (i:=2) h rfl hE 5).2,(zg (i:=2) h rfl hE 6).2⟩
theorem zq4 (h:zb E (S4 w (zf m A c) (zu r FA fc TA tc)) W) (hE:¬E (w.heap.size+1+1+1)):zic W (w.heap.size+1+1+1):=
 ⟨⟨(zg (i:=3) h rfl hE 0).1,(zg (i:=3) h rfl hE 1).1,(zg (i:=3) h rfl hE 2).1,(zg (i:=3) h rfl hE 3).1⟩,
  (zg (i:=3) h rfl hE 0).2,(zg (i:=3) h rfl hE 1).2,(zg (i:=3) h rfl hE 2).2,(zg (i:=3) h rfl hE 3).2⟩
end
section
variable {E:Nat→Prop} {W W':World} {b:Nat} {r:Rq} {m:zY} {A FA TA:Option Addr} {c fc tc:Nat}
theorem zaQ (hk:zb E W W') (hb:b<W.heap.size) (hn:¬E b) (j:Nat) {v:Value} (h:W.cell? ⟨b,j,none⟩=some v):W'.cell? ⟨b,j,none⟩=some v:=(hk.cell (p:=⟨b,j,none⟩) hb hn).trans h
theorem zdJ (hk:zb E W W') (hb:b<W.heap.size) (hn:¬E b) (j:Nat) (h:W.frozen? ⟨b,j,none⟩=false):W'.frozen? ⟨b,j,none⟩=false:=(hk.frozen (p:=⟨b,j,none⟩) hb hn).trans h
theorem ziP.keep (h:ziP W b m A c) (hk:zb E W W') (hb:b<W.heap.size) (hn:¬E b):ziP W' b m A c:=
 ⟨zaQ hk hb hn 0 h.1,zaQ hk hb hn 1 h.2.1,zaQ hk hb hn 2 h.2.2.1,zaQ hk hb hn 3 h.2.2.2.1,zaQ hk hb hn 4 h.2.2.2.2⟩
theorem zh5.keep (h:zh5 W b r FA fc TA tc) (hk:zb E W W') (hb:b<W.heap.size) (hn:¬E b):zh5 W' b r FA fc TA tc:=
 ⟨zaQ hk hb hn 0 h.1,zaQ hk hb hn 1 h.2.1,zaQ hk hb hn 2 h.2.2.1,zaQ hk hb hn 3 h.2.2.2.1,zaQ hk hb hn 4 h.2.2.2.2.1,zaQ hk hb hn 5 h.2.2.2.2.2.1,zaQ hk hb hn 6 h.2.2.2.2.2.2⟩
theorem znk.keep (h:znk W b) (hk:zb E W W') (hb:b<W.heap.size) (hn:¬E b):znk W' b:=by
 obtain ⟨⟨a0,a1,a2,a3,a4,a5,a6⟩,f0,f1,f2,f3,f4,f5,f6⟩:=h;exact ⟨⟨zaQ hk hb hn 0 a0,zaQ hk hb hn 1 a1,zaQ hk hb hn 2 a2,zaQ hk hb hn 3 a3,zaQ hk hb hn 4 a4,zaQ hk hb hn 5 a5,zaQ hk hb hn 6 a6⟩,
  zdJ hk hb hn 0 f0,zdJ hk hb hn 1 f1,zdJ hk hb hn 2 f2,zdJ hk hb hn 3 f3,zdJ hk hb hn 4 f4,zdJ hk hb hn 5 f5,zdJ hk hb hn 6 f6⟩
theorem zic.keep (h:zic W b) (hk:zb E W W') (hb:b<W.heap.size) (hn:¬E b):zic W' b:=by
 obtain ⟨⟨a0,a1,a2,a3⟩,f0,f1,f2,f3⟩:=h;exact ⟨⟨zaQ hk hb hn 0 a0,zaQ hk hb hn 1 a1,zaQ hk hb hn 2 a2,zaQ hk hb hn 3 a3⟩,zdJ hk hb hn 0 f0,zdJ hk hb hn 1 f1,zdJ hk hb hn 2 f2,zdJ hk hb hn 3 f3⟩
theorem znk.put (h:znk W b):zh5 (zeY W b (.string r.method) (.string r.target) (.int .i64 r.major) (.int .i64 r.minor) (.slice FA r.fields.length fc) (.string r.body) (.slice TA r.trailers.length tc)) b r FA fc TA tc:=by
 obtain ⟨⟨a0,a1,a2,a3,a4,a5,a6⟩,_⟩:=h;exact zkR _ _ _ _ _ _ _ a0 a1 a2 a3 a4 a5 a6
def zhZ (W:World) (b:Nat) (v0 v1 v2 v3:Value):Prop:=W.cell? ⟨b,0,none⟩=some v0∧W.cell? ⟨b,1,none⟩=some v1∧W.cell? ⟨b,2,none⟩=some v2∧W.cell? ⟨b,3,none⟩=some v3
theorem zhZ.keep {v0 v1 v2 v3:Value} (h:zhZ W b v0 v1 v2 v3) (hk:zb E W W') (hb:b<W.heap.size) (hn:¬E b):zhZ W' b v0 v1 v2 v3:=
 ⟨zaQ hk hb hn 0 h.1,zaQ hk hb hn 1 h.2.1,zaQ hk hb hn 2 h.2.2.1,zaQ hk hb hn 3 h.2.2.2⟩
theorem zic.put (h:zic W b) (v0 v1 v2 v3:Value):zhZ (zal W b v0 v1 v2 v3) b v0 v1 v2 v3:=by
 obtain ⟨⟨a0,a1,a2,a3⟩,_⟩:=h;exact zhM _ _ _ _ a0 a1 a2 a3
theorem zt {w:World} (h:zb E W W') (hE:∀k,E k→w.heap.size≤k) (hb:Below w.heap.size w W):Below w.heap.size w W':=
 ⟨h.os.trans hb.os,h.tape.trans hb.tape,h.output.trans hb.output,Nat.le_trans hb.size h.size,fun k hk=>by
  rw[h.block k (Nat.lt_of_lt_of_le hk hb.size) (fun hd=>by have:=hE k hd;omega),hb.block k hk]⟩
end
theorem zh5.setT {W:World} {b:Nat} {r:Rq} {FA TA:Option Addr} {fc tc:Nat} (h:zh5 W b r FA fc TA tc) (t:ByteArray):zh5 (W.setCell ⟨b,1,none⟩ (.string t)) b {r with target:=t} FA fc TA tc:=
 ⟨zi h.1,zi h.2.1,zi h.2.2.1,zi h.2.2.2.1,zi h.2.2.2.2.1,zi h.2.2.2.2.2.1,zi h.2.2.2.2.2.2⟩
def zhN (m:zY) (r:Rq):Rq⊕Rs:=if zfK m.value r.method r.target=true then .inl {r with target:=zhg m.value r.method r.target} else .inr (zT 404 [])
theorem zpb {m:zY} (h:zcz m.kind=true):m.kind=1∨m.kind=2∨m.kind=3∨m.kind=4∨m.kind=5∨m.kind=6∨m.kind=7∨m.kind=8∨m.kind=9∨m.kind=10:=by
 unfold zcz at h;simp at h
 omega
theorem zck {m:zY} (h:zcP m=false):zr m=false:=by unfold zr;rw[h];simp
theorem zdl {m:zY} (hk:zcz m.kind=true) (h:zcP m=true):zr m=zab m:=by unfold zr;rw[hk,h];rfl
theorem zp9 {m:zY} (h:zcz m.kind=false):zr m=false:=by unfold zr;rw[h];rfl
theorem zv3 {m:zY} (hk:m.kind=1):zab m=(zbn m.name&&zbf m.value):=by unfold zab;rw[if_pos (.inl hk)]
theorem zu8 {m:zY} (hk:m.kind=2):zab m=(zbn m.name&&zbf m.value):=by unfold zab;rw[if_pos (.inr hk)]
theorem zv0 {m:zY} (hk:m.kind=3):zab m=zbn m.name:=by unfold zab;rw[if_neg (by omega),if_pos hk]
theorem zv5 {m:zY} (hk:m.kind=4):zab m=(zcw [] m.list&&decide (0<m.list.length)):=by unfold zab;rw[if_neg (by omega),if_neg (by omega),if_pos hk]
theorem zvX {m:zY} (hk:m.kind=5):zab m=decide (0≤m.n):=by unfold zab;rw[if_neg (by omega),if_neg (by omega),if_neg (by omega),if_pos hk]
theorem zrs {m:zY} (hk:m.kind=6):zab m=zaZ m.value:=by unfold zab;rw[if_neg (by omega),if_neg (by omega),if_neg (by omega),if_neg (by omega),if_pos hk]
theorem zry {m:zY} (hk:m.kind=7):zab m=(zcb m.name&&zbX zbJ m.list):=by
 unfold zab zbX;rw[if_neg (by omega),if_neg (by omega),if_neg (by omega),if_neg (by omega),if_neg (by omega),if_pos hk]
 cases zcb m.name<;>simp
theorem znw {m:zY} (hk:m.kind=8):zab m=(zc3 m.value&&(decide (0≤m.n)&&zbX (zai m.list.length) m.list)):=by
 unfold zab zbX;rw[if_neg (by omega),if_neg (by omega),if_neg (by omega),if_neg (by omega),if_neg (by omega),if_neg (by omega),if_pos hk]
 cases zc3 m.value<;>cases decide (0≤m.n)<;>simp
theorem zwc {m:zY} (hk:m.kind=9):zab m=(!decide (m.value.size=0)&&zbf m.value):=by
 unfold zab;rw[if_neg (by omega),if_neg (by omega),if_neg (by omega),if_neg (by omega),if_neg (by omega),if_neg (by omega),if_neg (by omega),if_pos hk]
theorem ztc {m:zY} (hk:m.kind=10):zab m=zbX zcu m.list:=by
 unfold zab zbX;rw[if_neg (by omega),if_neg (by omega),if_neg (by omega),if_neg (by omega),if_neg (by omega),if_neg (by omega),if_neg (by omega),if_neg (by omega)]
theorem zuv {s:ByteArray} (h:T5.normR s=(s,0)):0<s.size:=by
 cases hp:T5.isPathB s
 ·rw[T5.normR_no hp] at h
  cases congrArg Prod.snd h
 ·have:=T5.path_heads hp
  unfold T5.heads at this;simp at this
  omega
theorem zws {s:ByteArray} {l:List ByteArray} (h:zdf s=some l):zc3 s=decide (zaw l=s):=by unfold zc3;rw[h]
theorem zw5 {s:ByteArray} (h:zdf s=none):zc3 s=false:=by unfold zc3;rw[h]
end Go.Proofs.YtbnafbdhomdcoaaGreatDoor
