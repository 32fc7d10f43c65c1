/-
  CkL, CkFa, CkFc, CkFd, without what the claim does not reach.
-/
import Derived.Test.YtbnafbdhomdcoaaGreatDoorZm10
import Derived.Test.YtbnafbdhomdcoaaGreatDoorZm7
import Derived.Test.YtbnafbdhomdcoaaGreatDoorZCjDg
namespace Go.Proofs.YtbnafbdhomdcoaaGreatDoor
open Go.RowKit Go.Shelf Go.Lib
theorem zki {t:ByteArray} (h:0<t.size):t.data.toList=gB t 0::(t.extract 1 t.size).data.toList:=by
 have e:=zle t 1 (t.size - 1);rw[show 1+(t.size - 1)=t.size by omega,List.take_of_length_le (by rw[zkt];exact Nat.le_refl _)] at e;rw[e];have hz:=size_eq t;have h0:0<t.data.toList.length:=by omega
 have e2:=List.drop_eq_getElem_cons h0;rw[List.drop_zero] at e2;refine e2.trans ?_;unfold gB;rw[List.getD_eq_getElem?_getD,List.getElem?_eq_getElem h0]
 rfl
theorem zsK {t:ByteArray} (h:0<t.size) (hb:bt t 0=32):Lib.trimLeftS (t.extract 1 t.size).data.toList [32]=Lib.trimLeftS t.data.toList [32]:=by
 rw[zki h];have h32:gB t 0=32:=(zjX t 0 32).2 hb;rw[h32]
 rfl
theorem zmy {t:ByteArray} (h:t.size=0∨¬bt t 0=32):Lib.trimLeftS t.data.toList [32]=t.data.toList:=by
 by_cases h0:0<t.size
 ·have hb:¬gB t 0=32:=fun e=>(h.resolve_left (by omega)) ((zjX t 0 32).1 e)
  rw[zki h0];unfold Lib.trimLeftS;rw[List.dropWhile_cons_of_neg]
  simpa using hb
 ·have e:t.data.toList=[]:=List.eq_nil_of_length_eq_zero (by rw[size_eq];omega)
  rw[e];rfl
def S2 (w:World) (a b:Array Value):World:=Bx w [.cells a 65,.cells b 44]
theorem ztR (w:World) (a b:Array Value):Below w.heap.size w (S2 w a b):=zd4 w _
theorem zwU {E:Nat→Prop} {w W:World} {m:zY} {A:Option Addr} {c:Nat} {b:Array Value} (h:zb E (S2 w (zf m A c) b) W) (hE:¬E w.heap.size):ziP W w.heap.size m A c:=
 ⟨(zg (i:=0) h rfl hE 0).1,(zg (i:=0) h rfl hE 1).1,(zg (i:=0) h rfl hE 2).1,(zg (i:=0) h rfl hE 3).1,(zg (i:=0) h rfl hE 4).1⟩
theorem zwX {E:Nat→Prop} {w W:World} {a:Array Value} {r:Rq} {FA TA:Option Addr} {fc tc:Nat} (h:zb E (S2 w a (zu r FA fc TA tc)) W) (hE:¬E (w.heap.size+1)):zh5 W (w.heap.size+1) r FA fc TA tc:=
 ⟨(zg (i:=1) h rfl hE 0).1,(zg (i:=1) h rfl hE 1).1,(zg (i:=1) h rfl hE 2).1,(zg (i:=1) h rfl hE 3).1,(zg (i:=1) h rfl hE 4).1,(zg (i:=1) h rfl hE 5).1,(zg (i:=1) h rfl hE 6).1⟩
set_option maxRecDepth 20000 in
set_option maxHeartbeats 4000000 in
theorem ztf (m:zY) (A:Option Addr) (c:Nat) (r:Rq) (FA:Option Addr) (fc:Nat) (TA:Option Addr) (tc:Nat) (w:World) (hA:Row w A (m.list.map .string)) (hF:Row w FA (zj r.fields)) (hr:zcO r) (hm:zaY m):
  Calls Tryz.prog 44 #[zL m A c,rqV r FA fc TA tc] w fun e w'=>e= .returned (.bool (zie m r))∧Below w.heap.size w w':=by
 have HON:=hid (fun (W:World) (h:Below w.heap.size w W)=>zgE r FA fc TA tc zfy W (hF.below h) hr zk9);have HIN:=hid (fun (s:ByteArray) (W:World) (h:Below w.heap.size w W)=>zhi A c m.list s W (hA.below h) (by have h:=(zdi hm).1;omega));have HOZ:=hid (fun s (h:zaD r.fields zfy=some s)=>zdS hr.fields h);have HL1:=hid (znT (m:=m) (r:=r));have HL2:=hid (fun s=>zq6 (m:=m) (r:=r) (s:=s));have HL3:=hid (fun s t=>zoI (m:=m) (r:=r) (s:=s) (t:=t));have HXB:=hid (ztR w (zf m A c) (zu r FA fc TA tc));have HKR:=hid (zwX (zb.refl (fun _=>False) (S2 w (zf m A c) (zu r FA fc TA tc))) (fun h=>h));have HKM:=hid (fun (W:World) (h:zb (fun _=>False) (S2 w (zf m A c) (zu r FA fc TA tc)) W)=>zwU h (fun h=>h));clear hA hF hr hm;unfold zL rqV at *;unfold zfy at HON
 cases ho:zaD r.fields ⟨#[65,117,116,104,111,114,105,122,97,116,105,111,110]⟩ with
 |none=>
  have HR:=hid (HL1.out ho);rw[ho] at HON;unfold zbO at HON;clear ho
  go_enter Tryz.func44,Tryz.ntmps44
  obtain ⟨a0,a1,a2,a3,a4,a5,a6⟩:=HKR.out
  go_wp2_with fail
  refine (HON.out _ HXB.out).mono ?_;rintro e w1 ⟨rfl,b1⟩;have hbw:=HXB.out.trans (b1.mono HXB.out.size);clear b1 a0 a1 a2 a3 a4 a5 a6
  go_wp2
  go_ret
  exact ⟨zd HR.out.symm,hbw⟩
 |some s=>
  have hsz:=HOZ.out s ho;have HB1:=hid (fun h=>HL2.out s ho h);have HG1:=hid (fun t h=>HL3.out s t ho h);rw[ho] at HON;unfold zbO at HON;clear ho HL1 HL2 HL3 HOZ;have hways:=zmi s;have HSM:=hid (fun W=>zrR (s.extract 0 5) zeg W (by rw[ByteArray.size_extract];unfold maxLen;omega) zjn);unfold zeg at HSM hways
  rcases hways with ⟨h1,h2⟩|⟨h1,h2,h3⟩|⟨h1,h2,h3,h4⟩|⟨h1,h2,h3,h4⟩
  ·have HR:=hid (HB1.out h2)
   have h6:(s.size:Int)<6:=by omega
   clear h1 h2
   go_enter Tryz.func44,Tryz.ntmps44
   obtain ⟨a0,a1,a2,a3,a4,a5,a6⟩:=HKR.out
   go_wp2_with fail
   refine (HON.out _ HXB.out).mono ?_;rintro e w1 ⟨rfl,b1⟩;have HK1:=hid (zb.of (D:=fun _=>False) b1);have hbw:=HXB.out.trans (b1.mono HXB.out.size);clear b1 a0 a1 a2 a3 a4 a5 a6;dsimp only[Option.getD,Option.isSome]
   go_wp2
   go_ret
   exact ⟨zd HR.out.symm,hbw⟩
  ·have HR:=hid (HB1.out h3)
   have h6:¬(s.size:Int)<6:=by omega
   have h5:(5:Int)≤(s.size:Int):=by omega
   rw[h2] at HSM;clear h2 h3
   go_enter Tryz.func44,Tryz.ntmps44
   obtain ⟨a0,a1,a2,a3,a4,a5,a6⟩:=HKR.out
   go_wp2_with fail
   refine (HON.out _ HXB.out).mono ?_;rintro e w1 ⟨rfl,b1⟩;have HK1:=hid (zb.of (D:=fun _=>False) b1);have hbw:=HXB.out.trans (b1.mono HXB.out.size);clear b1 a0 a1 a2 a3 a4 a5 a6;dsimp only[Option.getD,Option.isSome]
   go_wp2_with fail
   refine (HSM.out _).mono ?_;rintro e w2 ⟨rfl,b2⟩;have HK2:=hid (HK1.out.step b2);have hbw2:=hbw.trans (b2.mono hbw.size);clear b2
   go_wp2
   go_ret
   exact ⟨zd HR.out.symm,hbw2⟩
  ·have HR:=hid (HB1.out h4)
   have h6:¬(s.size:Int)<6:=by omega
   have h5:(5:Int)≤(s.size:Int):=by omega
   have h5':(5:Int)<(s.size:Int):=by omega
   have hb:=@zE s 5 h1;have h32:(bt s 5!=32)=true:=bne_iff_ne.2 h3;rw[h2] at HSM;clear h2 h3 h4
   go_enter Tryz.func44,Tryz.ntmps44
   obtain ⟨a0,a1,a2,a3,a4,a5,a6⟩:=HKR.out
   go_wp2_with fail
   refine (HON.out _ HXB.out).mono ?_;rintro e w1 ⟨rfl,b1⟩;have HK1:=hid (zb.of (D:=fun _=>False) b1);have hbw:=HXB.out.trans (b1.mono HXB.out.size);clear b1 a0 a1 a2 a3 a4 a5 a6;dsimp only[Option.getD,Option.isSome]
   go_wp2_with fail
   refine (HSM.out _).mono ?_;rintro e w2 ⟨rfl,b2⟩;have HK2:=hid (HK1.out.step b2);have hbw2:=hbw.trans (b2.mono hbw.size);clear b2
   go_wp2
   go_ret
   exact ⟨zd HR.out.symm,hbw2⟩
  ·have h6:¬(s.size:Int)<6:=by omega
   have h5:(5:Int)≤(s.size:Int):=by omega
   have h5':(5:Int)<(s.size:Int):=by omega
   have hb:=@zE s 5 h1;have h32:(bt s 5!=32)=false:=by rw[h3];rfl
   have HC:=hid h4;rw[h2] at HSM;clear h2 h3 h4;have hzs:=zk s (a:=5) (b:=s.size) (by omega) (Nat.le_refl _);obtain ⟨u0,hu0⟩:∃u0,u0=s.extract 5 s.size:=⟨_,rfl⟩;have hu0s:s.extract 5 s.size=u0:=hu0.symm;have hu0z:u0.size≤1048576:=by rw[hu0];omega
   rw[hu0s] at HC;clear hu0 hzs
   go_enter Tryz.func44,Tryz.ntmps44
   obtain ⟨a0,a1,a2,a3,a4,a5,a6⟩:=HKR.out
   go_wp2_with fail
   refine (HON.out _ HXB.out).mono ?_;rintro e w1 ⟨rfl,b1⟩;have HK1:=hid (zb.of (D:=fun _=>False) b1);have hbw:=HXB.out.trans (b1.mono HXB.out.size);clear b1 a0 a1 a2 a3 a4 a5 a6;dsimp only[Option.getD,Option.isSome]
   go_wp2_with fail
   refine (HSM.out _).mono ?_;rintro e w2 ⟨rfl,b2⟩;have HK2:=hid (HK1.out.step b2);have hbw2:=hbw.trans (b2.mono hbw.size);clear b2
   go_wp2
   go_loop [5] (fun v=>∃t:ByteArray,v= .string t∧t.size≤u0.size∧Hid (Lib.trimLeftS t.data.toList [32]=Lib.trimLeftS u0.data.toList [32])) (fun v=>match v with| .string t=>t.size|_=>0)
   case atStart=>exact ⟨u0,rfl,Nat.le_refl _,hid rfl⟩
   case round=>
    obtain ⟨t,rfl,htz,HTL⟩:=hrel
    by_cases h0:0<t.size
    ·have he:t.toList.isEmpty=false:=by rw[zo];exact decide_eq_false (by omega)
     have h0i:(0:Int)<(t.size:Int):=by omega
     have h1i:(1:Int)≤(t.size:Int):=by omega
     have hbt:=@zE t 0 h0
     by_cases h320:bt t 0=32
     ·have h320b:=beq_iff_eq.2 h320
      have HST:=hid (zsK h0 h320);have hsz2:(t.extract 1 t.size).size<t.size:=by rw[ByteArray.size_extract];omega
      clear h320
      go_wp2
      go_round
      case rel=>exact ⟨_,rfl,by omega,hid (by rw[HST.out,HTL.out])⟩
      case measure=>exact hsz2
     ·have h320b:(bt t 0==32)=false:=beq_eq_false_iff_ne.2 h320
      have HSP:=hid (zmy (t:=t) (.inr h320));clear h320;have HDC:=hid (fun W=>zjl t W (by omega));have HTT:=hid (show t.data.toList=Lib.trimLeftS u0.data.toList [32] from HSP.out.symm.trans HTL.out);rw[HTT.out] at HDC
      cases hbb:b64 (Lib.trimLeftS u0.data.toList [32]) with
      |none=>
       have HR:=hid (HB1.out (by rw[HC.out,hbb];rfl));rw[hbb] at HDC;clear hbb
       go_wp2_with fail
       refine (HDC.out _).mono ?_;rintro e w3 ⟨tt,p,x,rfl,b3,hx⟩;have hxb:(x==0)=false:=beq_eq_false_iff_ne.2 hx;have hbw3:=hbw2.trans (b3.mono hbw2.size);clear b3 hx
       go_wp2
       go_ret
       exact ⟨zd HR.out.symm,hbw3⟩
      |some l=>
       have HR:=hid (HG1.out ⟨l.toArray⟩ (by rw[HC.out,hbb];rfl));rw[hbb] at HDC;clear hbb
       go_wp2_with fail
       refine (HDC.out _).mono ?_;rintro e w3 ⟨tt,p,x,rfl,b3,rfl,rfl⟩;have hbw3:=hbw2.trans (b3.mono hbw2.size);have HM3:=hid (HKM.out _ (HK2.out.step b3));obtain ⟨m0,m1,m2,m3,m4⟩:=HM3.out;clear b3
       go_wp2_with fail
       refine (HIN.out _ _ hbw3).mono ?_;rintro e w4 ⟨rfl,rfl⟩
       go_wp2
       go_ret
       exact ⟨zd HR.out.symm,hbw3⟩
    ·have he:t.toList.isEmpty=true:=by rw[zo];exact decide_eq_true (by omega)
     have HSP:=hid (zmy (t:=t) (.inl (by omega)));have HDC:=hid (fun W=>zjl t W (by omega));have HTT:=hid (show t.data.toList=Lib.trimLeftS u0.data.toList [32] from HSP.out.symm.trans HTL.out);rw[HTT.out] at HDC
     cases hbb:b64 (Lib.trimLeftS u0.data.toList [32]) with
     |none=>
      have HR:=hid (HB1.out (by rw[HC.out,hbb];rfl));rw[hbb] at HDC;clear hbb
      go_wp2_with fail
      refine (HDC.out _).mono ?_;rintro e w3 ⟨tt,p,x,rfl,b3,hx⟩;have hxb:(x==0)=false:=beq_eq_false_iff_ne.2 hx;have hbw3:=hbw2.trans (b3.mono hbw2.size);clear b3 hx
      go_wp2
      go_ret
      exact ⟨zd HR.out.symm,hbw3⟩
     |some l=>
      have HR:=hid (HG1.out ⟨l.toArray⟩ (by rw[HC.out,hbb];rfl));rw[hbb] at HDC;clear hbb
      go_wp2_with fail
      refine (HDC.out _).mono ?_;rintro e w3 ⟨tt,p,x,rfl,b3,rfl,rfl⟩;have hbw3:=hbw2.trans (b3.mono hbw2.size);have HM3:=hid (HKM.out _ (HK2.out.step b3));obtain ⟨m0,m1,m2,m3,m4⟩:=HM3.out;clear b3
      go_wp2_with fail
      refine (HIN.out _ _ hbw3).mono ?_;rintro e w4 ⟨rfl,rfl⟩
      go_wp2
      go_ret
      exact ⟨zd HR.out.symm,hbw3⟩
set_option maxRecDepth 20000 in
set_option maxHeartbeats 4000000 in
theorem zoF (m:zY) (A:Option Addr) (c:Nat) (w:World) (hk:m.kind=1) (_hr:Row w A (m.list.map .string)) (_hc:m.list.length≤c) (hm:zaY m):
  Calls Tryz.prog 40 #[zL m A c] w fun e w'=>e= .returned (.int .i64 (zaq (zr m)))∧Below w.heap.size w w':=by
 have HBX:=hid (show Below w.heap.size w (w.alloc (.cells #[.int .i64 1,.string m.name,.string m.value,.slice A m.list.length c,.int .i64 m.n] 65)) from (Below.refl _ w).alloc (Nat.le_refl _) _);have HNO:=hid (fun h=>zck (m:=m) h);have HYES:=hid (fun h=>(zdl (m:=m) (by rw[hk];rfl) h).trans (zv3 hk));have HBR:=hid (show zcP m=((true||decide (m.name.size=0))&&((true||decide (m.value.size=0))&&((false||decide (m.list.length=0))&&(false||decide (m.n=0))))) by unfold zcP;rw[hk];rfl);have HT:=hid (fun w=>zeV m.name w (by have:=hm.name;unfold maxLen;omega));have HV:=hid (fun w=>zgg m.value w (by have:=hm.value;unfold maxLen;omega));clear hm;unfold zL;rw[hk];clear hk;generalize m.list.length=ll at *
 by_cases hL:ll=0
 ·have fL:=hL
  by_cases hN:m.n=0
  ·have fN:(m.n !=0)=false:=bne_eq_false_iff_eq.2 hN
   have HYE:=hid (HYES.out (by rw[HBR.out,decide_eq_true hL,decide_eq_true hN];first|rfl|simp));clear HYES HBR HNO hL hN;subst fL
   cases h1:zbn m.name
   ·have HRES:=hid (show zr m=false by rw[HYE.out,h1];rfl)
    rw[h1] at HT;clear h1
    go_enter Tryz.func40,Tryz.ntmps40
    go_wp2_with fail
    refine (HT.out _).mono ?_;rintro e w1 ⟨rfl,rfl⟩
    go_wp2
    go_ret
    exact ⟨zp (by rw[HRES.out];rfl),HBX.out⟩
   ·cases h2:zbf m.value
    all_goals
     have HRES:=hid (HYE.out.trans (by rw[h1,h2]));rw[h1] at HT;rw[h2] at HV;clear h1 h2
     go_enter Tryz.func40,Tryz.ntmps40
     go_wp2_with fail
     refine (HT.out _).mono ?_;rintro e w1 ⟨rfl,rfl⟩
     go_wp2_with fail
     refine (HV.out _).mono ?_;rintro e w1 ⟨rfl,rfl⟩
     go_wp2
     go_ret
     exact ⟨zp (by rw[HRES.out];rfl),HBX.out⟩
  ·have HRES:=hid (show zr m=false from HNO.out (by rw[HBR.out,decide_eq_true hL,decide_eq_false hN];first|rfl|simp))
   have fN:(m.n !=0)=true:=bne_iff_ne.2 hN;clear hL hN HYES HBR HNO;subst fL
   go_enter Tryz.func40,Tryz.ntmps40
   go_wp2
   go_ret
   exact ⟨zp (by rw[HRES.out];rfl),HBX.out⟩
 ·have HRES:=hid (show zr m=false from HNO.out (by rw[HBR.out,decide_eq_false hL];first|rfl|simp))
  have fL:(0:Int)<(ll:Int):=by omega
  clear hL HYES HBR HNO
  go_enter Tryz.func40,Tryz.ntmps40
  go_wp2
  go_ret
  exact ⟨zp (by rw[HRES.out];rfl),HBX.out⟩
set_option maxRecDepth 20000 in
set_option maxHeartbeats 4000000 in
theorem zof (m:zY) (A:Option Addr) (c:Nat) (w:World) (hk:m.kind=2) (_hr:Row w A (m.list.map .string)) (_hc:m.list.length≤c) (hm:zaY m):
  Calls Tryz.prog 40 #[zL m A c] w fun e w'=>e= .returned (.int .i64 (zaq (zr m)))∧Below w.heap.size w w':=by
 have HBX:=hid (show Below w.heap.size w (w.alloc (.cells #[.int .i64 2,.string m.name,.string m.value,.slice A m.list.length c,.int .i64 m.n] 65)) from (Below.refl _ w).alloc (Nat.le_refl _) _);have HNO:=hid (fun h=>zck (m:=m) h);have HYES:=hid (fun h=>(zdl (m:=m) (by rw[hk];rfl) h).trans (zu8 hk));have HBR:=hid (show zcP m=((true||decide (m.name.size=0))&&((true||decide (m.value.size=0))&&((false||decide (m.list.length=0))&&(false||decide (m.n=0))))) by unfold zcP;rw[hk];rfl);have HT:=hid (fun w=>zeV m.name w (by have:=hm.name;unfold maxLen;omega));have HV:=hid (fun w=>zgg m.value w (by have:=hm.value;unfold maxLen;omega));clear hm;unfold zL;rw[hk];clear hk;generalize m.list.length=ll at *
 by_cases hL:ll=0
 ·have fL:=hL
  by_cases hN:m.n=0
  ·have fN:(m.n !=0)=false:=bne_eq_false_iff_eq.2 hN
   have HYE:=hid (HYES.out (by rw[HBR.out,decide_eq_true hL,decide_eq_true hN];first|rfl|simp));clear HYES HBR HNO hL hN;subst fL
   cases h1:zbn m.name
   ·have HRES:=hid (show zr m=false by rw[HYE.out,h1];rfl)
    rw[h1] at HT;clear h1
    go_enter Tryz.func40,Tryz.ntmps40
    go_wp2_with fail
    refine (HT.out _).mono ?_;rintro e w1 ⟨rfl,rfl⟩
    go_wp2
    go_ret
    exact ⟨zp (by rw[HRES.out];rfl),HBX.out⟩
   ·cases h2:zbf m.value
    all_goals
     have HRES:=hid (HYE.out.trans (by rw[h1,h2]));rw[h1] at HT;rw[h2] at HV;clear h1 h2
     go_enter Tryz.func40,Tryz.ntmps40
     go_wp2_with fail
     refine (HT.out _).mono ?_;rintro e w1 ⟨rfl,rfl⟩
     go_wp2_with fail
     refine (HV.out _).mono ?_;rintro e w1 ⟨rfl,rfl⟩
     go_wp2
     go_ret
     exact ⟨zp (by rw[HRES.out];rfl),HBX.out⟩
  ·have HRES:=hid (show zr m=false from HNO.out (by rw[HBR.out,decide_eq_true hL,decide_eq_false hN];first|rfl|simp))
   have fN:(m.n !=0)=true:=bne_iff_ne.2 hN;clear hL hN HYES HBR HNO;subst fL
   go_enter Tryz.func40,Tryz.ntmps40
   go_wp2
   go_ret
   exact ⟨zp (by rw[HRES.out];rfl),HBX.out⟩
 ·have HRES:=hid (show zr m=false from HNO.out (by rw[HBR.out,decide_eq_false hL];first|rfl|simp))
  have fL:(0:Int)<(ll:Int):=by omega
  clear hL HYES HBR HNO
  go_enter Tryz.func40,Tryz.ntmps40
  go_wp2
  go_ret
  exact ⟨zp (by rw[HRES.out];rfl),HBX.out⟩
set_option maxRecDepth 20000 in
set_option maxHeartbeats 4000000 in
theorem zoR (m:zY) (A:Option Addr) (c:Nat) (w:World) (hk:m.kind=3) (_hr:Row w A (m.list.map .string)) (_hc:m.list.length≤c) (hm:zaY m):
  Calls Tryz.prog 40 #[zL m A c] w fun e w'=>e= .returned (.int .i64 (zaq (zr m)))∧Below w.heap.size w w':=by
 have HBX:=hid (show Below w.heap.size w (w.alloc (.cells #[.int .i64 3,.string m.name,.string m.value,.slice A m.list.length c,.int .i64 m.n] 65)) from (Below.refl _ w).alloc (Nat.le_refl _) _);have HNO:=hid (fun h=>zck (m:=m) h);have HYES:=hid (fun h=>(zdl (m:=m) (by rw[hk];rfl) h).trans (zv0 hk));have HBR:=hid (show zcP m=((true||decide (m.name.size=0))&&((false||decide (m.value.size=0))&&((false||decide (m.list.length=0))&&(false||decide (m.n=0))))) by unfold zcP;rw[hk];rfl);have HT:=hid (fun w=>zeV m.name w (by have:=hm.name;unfold maxLen;omega));clear hm;unfold zL;rw[hk];clear hk;generalize m.list.length=ll at *
 by_cases hV:m.value.size=0
 ·have fV:=zaR hV
  by_cases hL:ll=0
  ·have fL:=hL
   by_cases hN:m.n=0
   ·have fN:(m.n !=0)=false:=bne_eq_false_iff_eq.2 hN
    have HYE:=hid (HYES.out (by rw[HBR.out,decide_eq_true hV,decide_eq_true hL,decide_eq_true hN];first|rfl|simp));clear HYES HBR HNO hV hL hN;subst fL
    cases h1:zbn m.name
    all_goals
     have HRES:=hid (HYE.out.trans h1);rw[h1] at HT;clear h1
     go_enter Tryz.func40,Tryz.ntmps40
     go_wp2_with fail
     refine (HT.out _).mono ?_;rintro e w1 ⟨rfl,rfl⟩
     go_wp2
     go_ret
     exact ⟨zp (by rw[HRES.out];rfl),HBX.out⟩
   ·have HRES:=hid (show zr m=false from HNO.out (by rw[HBR.out,decide_eq_true hV,decide_eq_true hL,decide_eq_false hN];first|rfl|simp))
    have fN:(m.n !=0)=true:=bne_iff_ne.2 hN;clear hV hL hN HYES HBR HNO;subst fL
    go_enter Tryz.func40,Tryz.ntmps40
    go_wp2
    go_ret
    exact ⟨zp (by rw[HRES.out];rfl),HBX.out⟩
  ·have HRES:=hid (show zr m=false from HNO.out (by rw[HBR.out,decide_eq_true hV,decide_eq_false hL];first|rfl|simp))
   have fL:(0:Int)<(ll:Int):=by omega
   clear hV hL HYES HBR HNO
   go_enter Tryz.func40,Tryz.ntmps40
   go_wp2
   go_ret
   exact ⟨zp (by rw[HRES.out];rfl),HBX.out⟩
 ·have HRES:=hid (show zr m=false from HNO.out (by rw[HBR.out,decide_eq_false hV];first|rfl|simp))
  have fV:=zaa hV;clear hV HYES HBR HNO
  go_enter Tryz.func40,Tryz.ntmps40
  go_wp2
  go_ret
  exact ⟨zp (by rw[HRES.out];rfl),HBX.out⟩
set_option maxRecDepth 20000 in
set_option maxHeartbeats 4000000 in
theorem zoH (m:zY) (A:Option Addr) (c:Nat) (w:World) (hk:m.kind=9) (_hr:Row w A (m.list.map .string)) (_hc:m.list.length≤c) (hm:zaY m):
  Calls Tryz.prog 40 #[zL m A c] w fun e w'=>e= .returned (.int .i64 (zaq (zr m)))∧Below w.heap.size w w':=by
 have HBX:=hid (show Below w.heap.size w (w.alloc (.cells #[.int .i64 9,.string m.name,.string m.value,.slice A m.list.length c,.int .i64 m.n] 65)) from (Below.refl _ w).alloc (Nat.le_refl _) _);have HNO:=hid (fun h=>zck (m:=m) h);have HYES:=hid (fun h=>(zdl (m:=m) (by rw[hk];rfl) h).trans (zwc hk));have HBR:=hid (show zcP m=((false||decide (m.name.size=0))&&((true||decide (m.value.size=0))&&((false||decide (m.list.length=0))&&(false||decide (m.n=0))))) by unfold zcP;rw[hk];rfl);have HV:=hid (fun w=>zgg m.value w (by have:=hm.value;unfold maxLen;omega));clear hm;unfold zL;rw[hk];clear hk;generalize m.list.length=ll at *
 by_cases hA:m.name.size=0
 ·have fA:=zaR hA
  by_cases hL:ll=0
  ·have fL:=hL
   by_cases hN:m.n=0
   ·have fN:(m.n !=0)=false:=bne_eq_false_iff_eq.2 hN
    have HYE:=hid (HYES.out (by rw[HBR.out,decide_eq_true hA,decide_eq_true hL,decide_eq_true hN];first|rfl|simp));clear HYES HBR HNO hA hL hN;subst fL
    by_cases h1:m.value.size=0
    ·have HRES:=hid (HYE.out.trans (by rw[decide_eq_true h1]))
     have he:=zaR h1;clear h1
     go_enter Tryz.func40,Tryz.ntmps40
     go_wp2
     go_ret
     exact ⟨zp (by rw[HRES.out];rfl),HBX.out⟩
    ·have he:=zaa h1
     cases h2:zbf m.value
     all_goals
      have HRES:=hid (HYE.out.trans (by rw[decide_eq_false h1,h2]));rw[h2] at HV;clear h1 h2
      go_enter Tryz.func40,Tryz.ntmps40
      go_wp2_with fail
      refine (HV.out _).mono ?_;rintro e w1 ⟨rfl,rfl⟩
      go_wp2
      go_ret
      exact ⟨zp (by rw[HRES.out];rfl),HBX.out⟩
   ·have HRES:=hid (show zr m=false from HNO.out (by rw[HBR.out,decide_eq_true hA,decide_eq_true hL,decide_eq_false hN];first|rfl|simp))
    have fN:(m.n !=0)=true:=bne_iff_ne.2 hN;clear hA hL hN HYES HBR HNO;subst fL
    go_enter Tryz.func40,Tryz.ntmps40
    go_wp2
    go_ret
    exact ⟨zp (by rw[HRES.out];rfl),HBX.out⟩
  ·have HRES:=hid (show zr m=false from HNO.out (by rw[HBR.out,decide_eq_true hA,decide_eq_false hL];first|rfl|simp))
   have fL:(0:Int)<(ll:Int):=by omega
   clear hA hL HYES HBR HNO
   go_enter Tryz.func40,Tryz.ntmps40
   go_wp2
   go_ret
   exact ⟨zp (by rw[HRES.out];rfl),HBX.out⟩
 ·have HRES:=hid (show zr m=false from HNO.out (by rw[HBR.out,decide_eq_false hA];first|rfl|simp))
  have fA:=zaa hA;clear hA HYES HBR HNO
  go_enter Tryz.func40,Tryz.ntmps40
  go_wp2
  go_ret
  exact ⟨zp (by rw[HRES.out];rfl),HBX.out⟩
set_option maxRecDepth 20000 in
set_option maxHeartbeats 4000000 in
theorem znL (m:zY) (A:Option Addr) (c:Nat) (w:World) (hk:m.kind=6) (_hr:Row w A (m.list.map .string)) (_hc:m.list.length≤c) (hm:zaY m):
  Calls Tryz.prog 40 #[zL m A c] w fun e w'=>e= .returned (.int .i64 (zaq (zr m)))∧Below w.heap.size w w':=by
 have HBX:=hid (show Below w.heap.size w (w.alloc (.cells #[.int .i64 6,.string m.name,.string m.value,.slice A m.list.length c,.int .i64 m.n] 65)) from (Below.refl _ w).alloc (Nat.le_refl _) _);have HNO:=hid (fun h=>zck (m:=m) h);have HYES:=hid (fun h=>(zdl (m:=m) (by rw[hk];rfl) h).trans (zrs hk));have HBR:=hid (show zcP m=((false||decide (m.name.size=0))&&((true||decide (m.value.size=0))&&((false||decide (m.list.length=0))&&(false||decide (m.n=0))))) by unfold zcP;rw[hk];rfl);have hvz:=hm.value;have HN:=hid (fun w=>T5.rNormal_any m.value w (by have:=hm.value;omega));unfold T5.normVal at HN;clear hm;unfold zL;rw[hk];clear hk;generalize m.list.length=ll at *
 by_cases hA:m.name.size=0
 ·have fA:=zaR hA
  by_cases hL:ll=0
  ·have fL:=hL
   by_cases hN:m.n=0
   ·have fN:(m.n !=0)=false:=bne_eq_false_iff_eq.2 hN
    have HYE:=hid (HYES.out (by rw[HBR.out,decide_eq_true hA,decide_eq_true hL,decide_eq_true hN];first|rfl|simp));clear HYES HBR HNO hA hL hN;subst fL;have HPX:=hid (show zaZ m.value=(decide (T5.normR m.value=(m.value,0))&&!zj4 m.value 47) from rfl);have HPOS:=hid (fun h=>zuv (s:=m.value) h);generalize T5.normR m.value=r at *;obtain ⟨t,e0⟩:=r;dsimp only at HN
    by_cases h0:e0=0
    ·subst h0
     by_cases ht:t=m.value
     ·subst ht
      have hpos:=HPOS.out rfl;have hb:=@zE m.value (m.value.size - 1) (by omega);have hi:((m.value.size:Int) - 1).toNat=m.value.size - 1:=by omega
      have HTL:=hid (show zj4 m.value 47=decide (bt m.value (m.value.size - 1)=47) by unfold zj4;rw[decide_eq_true hpos];rfl)
      by_cases h47:bt m.value (m.value.size - 1)=47
      ·have HRES:=hid (HYE.out.trans (show zaZ m.value=false by rw[HPX.out,HTL.out,decide_eq_true h47];simp))
       have h47b:(bt m.value (m.value.size - 1)!=47)=false:=by rw[h47];rfl
       clear h47
       go_enter Tryz.func40,Tryz.ntmps40
       go_wp2_with fail
       refine (HN.out _).mono ?_;rintro e w1 ⟨rfl,b0⟩;have b1:=zfi b0;clear b0;obtain ⟨g0,_⟩:=zH b1 0;obtain ⟨g2,_⟩:=zH b1 2;simp only[List.getElem?_toArray] at g0 g2;have hbw:=zw b1;clear b1
       go_wp2
       go_ret
       exact ⟨zp (by rw[HRES.out];rfl),hbw⟩
      ·have HRES:=hid (HYE.out.trans (show zaZ m.value=true by rw[HPX.out,HTL.out,decide_eq_false h47];simp))
       have h47b:(bt m.value (m.value.size - 1)!=47)=true:=bne_iff_ne.2 h47;clear h47
       go_enter Tryz.func40,Tryz.ntmps40
       go_wp2_with fail
       refine (HN.out _).mono ?_;rintro e w1 ⟨rfl,b0⟩;have b1:=zfi b0;clear b0;obtain ⟨g0,_⟩:=zH b1 0;obtain ⟨g2,_⟩:=zH b1 2;simp only[List.getElem?_toArray] at g0 g2;have hbw:=zw b1;clear b1
       go_wp2
       go_ret
       exact ⟨zp (by rw[HRES.out];rfl),hbw⟩
     ·have hq:(t.toList==m.value.toList)=false:=beq_eq_false_iff_ne.2 fun h=>ht (zV (by rw[←Lib.toList_data,←Lib.toList_data];exact h))
      have HRES:=hid (HYE.out.trans (show zaZ m.value=false by rw[HPX.out,decide_eq_false (fun h=>ht (Prod.mk.inj h).1)];rfl));clear ht
      go_enter Tryz.func40,Tryz.ntmps40
      go_wp2_with fail
      refine (HN.out _).mono ?_;rintro e w1 ⟨rfl,b0⟩;have b1:=zfi b0;clear b0;obtain ⟨g0,_⟩:=zH b1 0;obtain ⟨g2,_⟩:=zH b1 2;simp only[List.getElem?_toArray] at g0 g2;have hbw:=zw b1;clear b1
      go_wp2
      go_ret
      exact ⟨zp (by rw[HRES.out];rfl),hbw⟩
    ·have hb:(e0==0)=false:=beq_eq_false_iff_ne.2 h0
     have HRES:=hid (HYE.out.trans (show zaZ m.value=false by rw[HPX.out,decide_eq_false (fun h=>h0 (Prod.mk.inj h).2)];rfl));clear h0
     go_enter Tryz.func40,Tryz.ntmps40
     go_wp2_with fail
     refine (HN.out _).mono ?_;rintro e w1 ⟨rfl,b0⟩;have b1:=zfi b0;clear b0;obtain ⟨g0,_⟩:=zH b1 0;obtain ⟨g2,_⟩:=zH b1 2;simp only[List.getElem?_toArray] at g0 g2;have hbw:=zw b1;clear b1
     go_wp2
     go_ret
     exact ⟨zp (by rw[HRES.out];rfl),hbw⟩
   ·have HRES:=hid (show zr m=false from HNO.out (by rw[HBR.out,decide_eq_true hA,decide_eq_true hL,decide_eq_false hN];first|rfl|simp))
    have fN:(m.n !=0)=true:=bne_iff_ne.2 hN;clear hA hL hN HYES HBR HNO;subst fL
    go_enter Tryz.func40,Tryz.ntmps40
    go_wp2
    go_ret
    exact ⟨zp (by rw[HRES.out];rfl),HBX.out⟩
  ·have HRES:=hid (show zr m=false from HNO.out (by rw[HBR.out,decide_eq_true hA,decide_eq_false hL];first|rfl|simp))
   have fL:(0:Int)<(ll:Int):=by omega
   clear hA hL HYES HBR HNO
   go_enter Tryz.func40,Tryz.ntmps40
   go_wp2
   go_ret
   exact ⟨zp (by rw[HRES.out];rfl),HBX.out⟩
 ·have HRES:=hid (show zr m=false from HNO.out (by rw[HBR.out,decide_eq_false hA];first|rfl|simp))
  have fA:=zaa hA;clear hA HYES HBR HNO
  go_enter Tryz.func40,Tryz.ntmps40
  go_wp2
  go_ret
  exact ⟨zp (by rw[HRES.out];rfl),HBX.out⟩
set_option maxRecDepth 20000 in
set_option maxHeartbeats 4000000 in
theorem zov (m:zY) (A:Option Addr) (c:Nat) (w:World) (hk:m.kind=7) (hr:Row w A (m.list.map .string)) (hc:m.list.length≤c) (hm:zaY m):
  Calls Tryz.prog 40 #[zL m A c] w fun e w'=>e= .returned (.int .i64 (zaq (zr m)))∧Below w.heap.size w w':=by
 have HBX:=hid (show Below w.heap.size w (w.alloc (.cells #[.int .i64 7,.string m.name,.string m.value,.slice A m.list.length c,.int .i64 m.n] 65)) from (Below.refl _ w).alloc (Nat.le_refl _) _);have HNO:=hid (fun h=>zck (m:=m) h);have HYES:=hid (fun h=>(zdl (m:=m) (by rw[hk];rfl) h).trans (zry hk));have HBR:=hid (show zcP m=((true||decide (m.name.size=0))&&((false||decide (m.value.size=0))&&((true||decide (m.list.length=0))&&(false||decide (m.n=0))))) by unfold zcP;rw[hk];rfl);have HF:=hid (fun w=>zhQ m.name w (by have:=hm.name;unfold maxLen;omega));have HL:=hid (fun o=>zqQ m A c (w.alloc o) hk (hr.alloc o) hc hm);unfold zL at HL;rw[hk] at HL;clear hr hc hm;unfold zL;rw[hk];clear hk;generalize m.list.length=ll at *
 by_cases hV:m.value.size=0
 ·have fV:=zaR hV
  by_cases hN:m.n=0
  ·have fN:(m.n !=0)=false:=bne_eq_false_iff_eq.2 hN
   have HYE:=hid (HYES.out (by rw[HBR.out,decide_eq_true hV,decide_eq_true hN];first|rfl|simp));clear HYES HBR HNO hV hN
   cases h1:zcb m.name
   ·have HRES:=hid (HYE.out.trans (by rw[h1]))
    rw[h1] at HF;clear h1
    go_enter Tryz.func40,Tryz.ntmps40
    go_wp2_with fail
    refine (HF.out _).mono ?_;rintro e w1 ⟨rfl,rfl⟩
    go_wp2
    go_ret
    exact ⟨zp (by rw[HRES.out];rfl),HBX.out⟩
   ·cases h2:zbX zbJ m.list
    all_goals
     have HRES:=hid (HYE.out.trans (by rw[h1,h2]));rw[h1] at HF;rw[h2] at HL;clear h1 h2
     go_enter Tryz.func40,Tryz.ntmps40
     go_wp2_with fail
     refine (HF.out _).mono ?_;rintro e w1 ⟨rfl,rfl⟩
     go_wp2_with fail
     refine (HL.out _).mono ?_;rintro e w1 ⟨rfl,b1⟩;have hbw:=zbL b1 rfl;clear b1
     go_wp2
     go_ret
     exact ⟨zp (by rw[HRES.out];rfl),hbw⟩
  ·have HRES:=hid (show zr m=false from HNO.out (by rw[HBR.out,decide_eq_true hV,decide_eq_false hN];first|rfl|simp))
   have fN:(m.n !=0)=true:=bne_iff_ne.2 hN;clear hV hN HYES HBR HNO
   go_enter Tryz.func40,Tryz.ntmps40
   go_wp2
   go_ret
   exact ⟨zp (by rw[HRES.out];rfl),HBX.out⟩
 ·have HRES:=hid (show zr m=false from HNO.out (by rw[HBR.out,decide_eq_false hV];first|rfl|simp))
  have fV:=zaa hV;clear hV HYES HBR HNO
  go_enter Tryz.func40,Tryz.ntmps40
  go_wp2
  go_ret
  exact ⟨zp (by rw[HRES.out];rfl),HBX.out⟩
set_option maxRecDepth 20000 in
set_option maxHeartbeats 4000000 in
theorem zpd (m:zY) (A:Option Addr) (c:Nat) (w:World) (hk:zcz m.kind=false) (_hr:Row w A (m.list.map .string)) (_hc:m.list.length≤c) (_hm:zaY m):
  Calls Tryz.prog 40 #[zL m A c] w fun e w'=>e= .returned (.int .i64 (zaq (zr m)))∧Below w.heap.size w w':=by
 have HBX:=hid (show Below w.heap.size w (w.alloc (.cells #[.int .i64 m.kind,.string m.name,.string m.value,.slice A m.list.length c,.int .i64 m.n] 65)) from (Below.refl _ w).alloc (Nat.le_refl _) _);have HRES:=hid (zp9 hk);have hkk:¬m.kind=1∧¬m.kind=2∧¬m.kind=3∧¬m.kind=4∧¬m.kind=5∧¬m.kind=6∧¬m.kind=7∧¬m.kind=8∧¬m.kind=9∧¬m.kind=10:=by
  unfold zcz at hk;simp at hk
  omega
 obtain ⟨k1,k2,k3,k4,k5,k6,k7,k8,k9,k10⟩:=hkk;have q1:(m.kind==1)=false:=beq_eq_false_iff_ne.2 k1;have q2:(m.kind==2)=false:=beq_eq_false_iff_ne.2 k2;have q3:(m.kind==3)=false:=beq_eq_false_iff_ne.2 k3;have q4:(m.kind==4)=false:=beq_eq_false_iff_ne.2 k4;have q5:(m.kind==5)=false:=beq_eq_false_iff_ne.2 k5;have q6:(m.kind==6)=false:=beq_eq_false_iff_ne.2 k6;have q7:(m.kind==7)=false:=beq_eq_false_iff_ne.2 k7;have q8:(m.kind==8)=false:=beq_eq_false_iff_ne.2 k8;have q9:(m.kind==9)=false:=beq_eq_false_iff_ne.2 k9;have q10:(m.kind==10)=false:=beq_eq_false_iff_ne.2 k10;clear hk k1 k2 k3 k4 k5 k6 k7 k8 k9 k10;unfold zL;generalize m.list.length=ll at *
 by_cases hA:m.name.size=0
 ·have fA:=zaR hA
  by_cases hV:m.value.size=0
  ·have fV:=zaR hV
   by_cases hL:ll=0
   ·have fL:=hL
    by_cases hN:m.n=0
    ·have fN:(m.n !=0)=false:=bne_eq_false_iff_eq.2 hN
     clear hA hV hL hN;subst fL
     go_enter Tryz.func40,Tryz.ntmps40
     go_wp2
     go_ret
     exact ⟨zp (by rw[HRES.out];rfl),HBX.out⟩
    ·have fN:(m.n !=0)=true:=bne_iff_ne.2 hN
     clear hA hV hL hN;subst fL
     go_enter Tryz.func40,Tryz.ntmps40
     go_wp2
     go_ret
     exact ⟨zp (by rw[HRES.out];rfl),HBX.out⟩
   ·have fL:(0:Int)<(ll:Int):=by omega
    clear hA hV hL
    go_enter Tryz.func40,Tryz.ntmps40
    go_wp2
    go_ret
    exact ⟨zp (by rw[HRES.out];rfl),HBX.out⟩
  ·have fV:=zaa hV
   clear hA hV
   go_enter Tryz.func40,Tryz.ntmps40
   go_wp2
   go_ret
   exact ⟨zp (by rw[HRES.out];rfl),HBX.out⟩
 ·have fA:=zaa hA
  clear hA
  go_enter Tryz.func40,Tryz.ntmps40
  go_wp2
  go_ret
  exact ⟨zp (by rw[HRES.out];rfl),HBX.out⟩
end Go.Proofs.YtbnafbdhomdcoaaGreatDoor
