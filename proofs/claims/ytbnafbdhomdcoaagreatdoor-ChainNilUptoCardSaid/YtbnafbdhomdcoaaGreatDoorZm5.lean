/-
  TgDc, TgRs, TgAw, without what the claim does not reach.
-/
import Derived.Test.YtbnafbdhomdcoaaGreatDoorZTgEn
import Derived.Test.YtbnafbdhomdcoaaGreatDoorZm1
import Derived.Test.YtbnafbdhomdcoaaGreatDoorZTgR
import Derived.Test.YtbnafbdhomdcoaaGreatDoorZTgLib
namespace Go.Proofs.YtbnafbdhomdcoaaGreatDoor.T5
open Go.RowKit Go.Shelf Go.Lib
theorem zja (w:World):zZ (w.alloc (.cells #[] 5)) w.heap.size (.slice (some ⟨w.heap.size,0,none⟩) 0 0) []:=World.ownsRow_lit w #[] 0 (Nat.le_refl _) (by unfold maxLen;omega) rfl
end Go.Proofs.YtbnafbdhomdcoaaGreatDoor.T5
namespace Go.Proofs.YtbnafbdhomdcoaaGreatDoor.T5
open Go.RowKit Go.Shelf Go.Lib
theorem ztl {s:ByteArray} {i:Nat} (h:tri s i=true):zbY (s.extract (i+1) (i+3)) 255 16=(ziK s i,0):=by
 obtain ⟨h1,_,h3,h4⟩:=zbB.1 h;have hz:=zk s (a:=i+1) (b:=i+3) (by omega) (by omega);have b0:bt (s.extract (i+1) (i+3)) 0=bt s (i+1):=zbe s (j:=0) (by omega);have b1:bt (s.extract (i+1) (i+3)) 1=bt s (i+2):=zbe s (j:=1) (by omega);have r1:=zc5 (bt s (i+1));have r2:=zc5 (bt s (i+2));have hv:ziK s i=zaE (bt s (i+1))*16+zaE (bt s (i+2)):=rfl;rw[←b0] at h3 r1 hv;rw[←b1] at h4 r2 hv;generalize s.extract (i+1) (i+3)=t at *;have hz:t.size=2:=by omega
 have n0:zch 16 (t.data.toList.take 0)=0:=rfl;have n1:=zfd (s:=t) (base:=16) (k:=0) (by omega);have n2:=zfd (s:=t) (base:=16) (k:=1) (by omega);have d2:zdY 16 t 2:=zdY.succ (k:=1) (zdY.succ (k:=0) zdY.zero (by omega) h3 (by omega)) (by omega) h4 (by omega);have hn:zch 16 (t.data.toList.take 2)=ziK s i:=by
  rw[hv];rw[n0] at n1;rw[n1] at n2;rw[n2]
  omega
 have:=zjR (s:=t) (base:=16) (most:=255) (by omega) (by rw[hz];exact d2) (by rw[hz,hn,hv];omega);rw[this,hz,hn]
theorem zuy (s:ByteArray) (i:Nat) (w:World) (hs:s.size≤1099511627776) (h:tri s i=true):
  Calls Tryz.prog 175 #[.string s,.int .i64 i] w fun e w'=>e= .returned (.int .u8 (ziK s i))∧w=w':=by
 have h1:=(zbB.1 h).1;have hr:=zmz h;obtain ⟨hr1,hr2⟩:=hr;have hz:=zk s (a:=i+1) (b:=i+3) (by omega) (by omega);have HN:=hid (fun w=>zmu (s.extract (i+1) (i+3)) 255 w (by omega) (by omega) (by omega));rw[ztl h] at HN;have i1:((i:Int)+1).toNat=i+1:=by omega
 have i3:((i:Int)+3).toNat=i+3:=by omega
 have l3:(i:Int)+3≤(s.size:Int):=by omega
 generalize ziK s i=v at *;clear hz h
 go_enter Tryz.func175,Tryz.ntmps175
 go_wp2_with fail
 refine (HN.out _).mono ?_;rintro e w' ⟨rfl,rfl⟩
 go_wp2
 go_ret
 exact ⟨rfl,rfl⟩
end Go.Proofs.YtbnafbdhomdcoaaGreatDoor.T5
namespace Go.Proofs.YtbnafbdhomdcoaaGreatDoor.T5
open Go.RowKit Go.Shelf Go.Lib
def Tg.val (t:Tg):Value:=.agg #[.int .i64 t.form,.string t.host,.int .i64 t.port,.string t.path,.string t.query,.bool t.hasq]
def tgVal (r:Tg×Nat×Int):Value:=.tuple #[r.1.val,.int .i64 (r.2.1:Int),.int .i64 r.2.2]
theorem zmF (s:ByteArray) (i:Nat) (o:Int) (w:World) (hi:i<s.size):
  Calls Tryz.prog 192 #[.string s,.int .i64 i,.int .i64 o] w fun e w'=>e= .returned (.int .i64 (zbk s i o))∧w=w':=by
 have hb:=@zE s i hi;have HW:=hid (show zbk s i o=if bt s i=37 then 51 else o from rfl)
 by_cases h:bt s i=37
 ·have he:(bt s i==37)=true:=by rw[h];rfl
  rw[if_pos h] at HW;clear h
  go_enter Tryz.func192,Tryz.ntmps192
  go_wp2
  go_ret
  exact ⟨zp HW.out.symm,rfl⟩
 ·have he:(bt s i==37)=false:=by simpa using h
  rw[if_neg h] at HW;clear h
  go_enter Tryz.func192,Tryz.ntmps192
  go_wp2
  go_ret
  exact ⟨zp HW.out.symm,rfl⟩
section
variable {t:Tg} {s:ByteArray} {i:Nat}
theorem zoG (h:zb0 s i=s.size):zaK t s i=(t.laid (s.extract i (zb0 s i)) ⟨#[]⟩ false,0,0):=by unfold zaK;rw[if_pos h]
theorem zoT (h:¬zb0 s i=s.size) (hb:bt s (zb0 s i)≠63):zaK t s i=(zbK,zb0 s i,zbk s (zb0 s i) 53):=by unfold zaK;rw[if_neg h,if_neg hb]
theorem zlR (h:¬zb0 s i=s.size) (hb:bt s (zb0 s i)=63) (hq:zjL s (zb0 s i+1)<s.size):zaK t s i=(zbK,zjL s (zb0 s i+1),zbk s (zjL s (zb0 s i+1)) 54):=by unfold zaK;rw[if_neg h,if_pos hb,if_pos hq]
theorem zqD (h:¬zb0 s i=s.size) (hb:bt s (zb0 s i)=63) (hq:¬zjL s (zb0 s i+1)<s.size):zaK t s i=(t.laid (s.extract i (zb0 s i)) (s.extract (zb0 s i+1) s.size) true,0,0):=by unfold zaK;rw[if_neg h,if_pos hb,if_neg hq]
end
theorem zbr {a b:Tg×Nat×Int} (h:a=b):Ending.returned (tgVal a)= .returned (tgVal b):=by rw[h]
def Tg.with_ (f:Int) (h:ByteArray) (p:Int):Tg:=⟨f,h,p,⟨#[]⟩,⟨#[]⟩,false⟩
theorem zms {f p:Int} {h x q:ByteArray} {b:Bool} (hx:x.size=0):(Tg.with_ f h p).laid x q b=⟨f,h,p,⟨#[47]⟩,q,b⟩:=by unfold Tg.laid Tg.with_;rw[if_pos hx];rfl
theorem zmd {f p:Int} {h x q:ByteArray} {b:Bool} (hx:¬x.size=0):(Tg.with_ f h p).laid x q b=⟨f,h,p,x,q,b⟩:=by unfold Tg.laid Tg.with_;rw[if_neg hx]
set_option maxRecDepth 100000 in
set_option maxHeartbeats 4000000 in
theorem zkA (f:Int) (h:ByteArray) (p:Int) (s:ByteArray) (i:Nat) (w:World) (hs:s.size≤1099511627776) (hi:i≤s.size):
  Calls Tryz.prog 151 #[(Tg.with_ f h p).val,.string s,.int .i64 i] w fun e w'=>e= .returned (tgVal (zaK (Tg.with_ f h p) s i))∧Below w.heap.size w w':=by
 have hz:=zk s hi (Nat.le_refl _);have HP:=hid (fun w=>zkq (s.extract i s.size) w (by omega));have hE:=zhG hi;have e0:zb0 s i=i+zz (s.extract i s.size):=rfl;have hbq:=@zlR (Tg.with_ f h p) s i;have hbo:=@zqD (Tg.with_ f h p) s i;have hbb:=@zoT (Tg.with_ f h p) s i;have hbe:=@zoG (Tg.with_ f h p) s i;rw[e0] at hE hbq hbo hbb hbe;have HQ:=hid hbq;have HO:=hid hbo;have HBB:=hid hbb;have HEE:=hid hbe;clear hbq hbo hbb hbe e0;generalize zz (s.extract i s.size)=n at *;have i1:((i:Int)+(n:Int)).toNat=i+n:=by omega
 have l1:(i:Int)+(n:Int)≤(s.size:Int):=by omega
 have l2:(i:Int)≤(i:Int)+(n:Int):=by omega
 have hpz:=zk s (a:=i) (b:=i+n) (by omega) (by omega);have hcase:∃pv:ByteArray,(∀(q:ByteArray) (b:Bool),(Tg.with_ f h p).laid (s.extract i (i+n)) q b=⟨f,h,p,pv,q,b⟩)∧((pv=⟨#[47]⟩∧(s.extract i (i+n)).toList.isEmpty=true)∨(pv=s.extract i (i+n)∧(s.extract i (i+n)).toList.isEmpty=false)):=by
  by_cases hn0:n=0
  ·exact ⟨_,fun q b=>zms (by omega),.inl ⟨rfl,by rw[zo];exact decide_eq_true (by omega)⟩⟩
  ·exact ⟨_,fun q b=>zmd (by omega),.inr ⟨rfl,by rw[zo];exact decide_eq_false (by omega)⟩⟩
 clear hpz;obtain ⟨pv,hpv,hcs⟩:=hcase;have HPV:=hid hpv;clear hpv;rw[show (Tg.with_ f h p).val= .agg #[.int .i64 f,.string h,.int .i64 p,.string ⟨#[]⟩,.string ⟨#[]⟩,.bool false] from rfl]
 rcases hcs with ⟨rfl,he⟩|⟨rfl,he⟩
 all_goals
  by_cases hend:i+n=s.size
  ·have hee:((i:Int)+(n:Int)==(s.size:Int))=true:=beq_iff_eq.2 (by omega)
   have HB:=hid ((HEE.out hend).trans (by rw[HPV.out]));clear hend hz
   go_enter Tryz.func151,Tryz.ntmps151
   go_wp2_with fail
   refine (HP.out _).mono ?_;rintro e w1 ⟨rfl,q,rfl⟩
   go_wp2
   exact bodyPost_ret (v:=tgVal (⟨f,h,p,_,⟨#[]⟩,false⟩,0,0)) (by simp[results,Tryz.results151,go_sem,tgVal,Tg.val]) rfl ⟨zbr HB.out.symm,by (repeat (first|(with_reducible refine Below.setCell ?_ (by simp) _)|(with_reducible refine ze ?_ _)|(with_reducible refine Below.alloc ?_ (by simp) _)));exact Below.refl _ _⟩
  ·have hee:((i:Int)+(n:Int)==(s.size:Int))=false:=beq_eq_false_iff_ne.2 (by omega)
   have hlt:i+n<s.size:=by omega
   have l3:(i:Int)+(n:Int)<(s.size:Int):=by omega
   have hb:=@zE s (i+n) hlt
   by_cases h63:bt s (i+n)=63
   ·have hne:(bt s (i+n)!=63)=false:=by rw[h63];rfl
    have hz2:=zk s (a:=i+n+1) (b:=s.size) (by omega) (Nat.le_refl _);have HQ2:=hid (fun w=>zpn (s.extract (i+n+1) s.size) w (by omega));have hE2:=zqe (s:=s) (i:=i+n+1) (by omega);have e2:zjL s (i+n+1)=i+n+1+zay (s.extract (i+n+1) s.size):=rfl;have hqq:=HQ.out hend h63;have hoo:=HO.out hend h63;rw[e2] at hE2 hqq hoo;clear e2;generalize zay (s.extract (i+n+1) s.size)=m at *;have i2:((i:Int)+(n:Int)+1).toNat=i+n+1:=by omega
    have i3:((i:Int)+(n:Int)+1+(m:Int)).toNat=i+n+1+m:=by omega
    have l4:(i:Int)+(n:Int)+1≤(s.size:Int):=by omega
    have l5:(i:Int)+(n:Int)+1+(m:Int)≤(s.size:Int):=by omega
    have l6:(i:Int)+(n:Int)+1≤(i:Int)+(n:Int)+1+(m:Int):=by omega
    by_cases hlt2:i+n+1+m<s.size
    ·have hd:decide ((i:Int)+(n:Int)+1+(m:Int)<(s.size:Int))=true:=decide_eq_true (by omega)
     have HB:=hid (hqq hlt2);have HW:=hid (fun w=>zmF s (i+n+1+m) 54 w hlt2);rw[Int.natCast_add,Int.natCast_add,Int.natCast_add] at HW;clear hend hz h63 hqq hoo hz2
     go_enter Tryz.func151,Tryz.ntmps151
     go_wp2_with fail
     refine (HP.out _).mono ?_;rintro e w1 ⟨rfl,q,rfl⟩
     go_wp2_with fail
     refine (HQ2.out _).mono ?_;rintro e w1 ⟨rfl,q2,rfl⟩
     go_wp2_with fail
     refine (HW.out _).mono ?_;rintro e w1 ⟨rfl,rfl⟩
     go_wp2
     exact bodyPost_ret (v:=tgVal (zbK,i+n+1+m,zbk s (i+n+1+m) 54)) (by simp[results,Tryz.results151,go_sem,tgVal,Tg.val,zbK]) rfl ⟨zbr HB.out.symm,by (repeat (first|(with_reducible refine Below.setCell ?_ (by simp) _)|(with_reducible refine ze ?_ _)|(with_reducible refine Below.alloc ?_ (by simp) _)));exact Below.refl _ _⟩
    ·have hd:decide ((i:Int)+(n:Int)+1+(m:Int)<(s.size:Int))=false:=decide_eq_false (by omega)
     have HB:=hid ((hoo hlt2).trans (by rw[HPV.out,show s.extract (i+n+1) s.size=s.extract (i+n+1) (i+n+1+m) by rw[show i+n+1+m=s.size by omega]]));clear hend hz h63 hqq hoo hz2
     go_enter Tryz.func151,Tryz.ntmps151
     go_wp2_with fail
     refine (HP.out _).mono ?_;rintro e w1 ⟨rfl,q,rfl⟩
     go_wp2_with fail
     refine (HQ2.out _).mono ?_;rintro e w1 ⟨rfl,q2,rfl⟩
     go_wp2
     exact bodyPost_ret (v:=tgVal (⟨f,h,p,_,s.extract (i+n+1) (i+n+1+m),true⟩,0,0)) (by simp[results,Tryz.results151,go_sem,tgVal,Tg.val]) rfl ⟨zbr HB.out.symm,by (repeat (first|(with_reducible refine Below.setCell ?_ (by simp) _)|(with_reducible refine ze ?_ _)|(with_reducible refine Below.alloc ?_ (by simp) _)));exact Below.refl _ _⟩
   ·have hne:(bt s (i+n)!=63)=true:=by simpa using h63
    have HB:=hid (HBB.out hend h63);have HW:=hid (fun w=>zmF s (i+n) 53 w hlt);rw[Int.natCast_add] at HW;clear hend hz h63
    go_enter Tryz.func151,Tryz.ntmps151
    go_wp2_with fail
    refine (HP.out _).mono ?_;rintro e w1 ⟨rfl,q,rfl⟩
    go_wp2_with fail
    refine (HW.out _).mono ?_;rintro e w1 ⟨rfl,rfl⟩
    go_wp2
    exact bodyPost_ret (v:=tgVal (zbK,i+n,zbk s (i+n) 53)) (by simp[results,Tryz.results151,go_sem,tgVal,Tg.val,zbK]) rfl ⟨zbr HB.out.symm,by (repeat (first|(with_reducible refine Below.setCell ?_ (by simp) _)|(with_reducible refine ze ?_ _)|(with_reducible refine Below.alloc ?_ (by simp) _)));exact Below.refl _ _⟩
end Go.Proofs.YtbnafbdhomdcoaaGreatDoor.T5
namespace Go.Proofs.YtbnafbdhomdcoaaGreatDoor.T5
open Go.RowKit Go.Shelf Go.Lib
def zfO (P:Int→Bool) (s:ByteArray) (o:Int):Nat×Int:=if zbi P s 0<s.size then (zbi P s 0,zbk s (zbi P s 0) o) else (0,0)
def zdZ (r:Nat×Int):Value:=.tuple #[.int .i64 (r.1:Int),.int .i64 r.2]
theorem ztU {P:Int→Bool} {s:ByteArray} {o:Int} {i:Nat} (h:zbi P s 0=i) (hi:i<s.size) (hp:bt s i≠37):zfO P s o=(i,o):=by
 unfold zfO zbk;rw[h,if_pos hi,if_neg hp]
theorem zsy {P:Int→Bool} {s:ByteArray} {o:Int} {i:Nat} (h:zbi P s 0=i) (hi:i<s.size) (hp:bt s i=37):zfO P s o=(i,51):=by
 unfold zfO zbk;rw[h,if_pos hi,if_pos hp]
theorem zsE {P:Int→Bool} {s:ByteArray} {o:Int} (h:zbi P s 0=s.size):zfO P s o=(0,0):=by
 unfold zfO;rw[h,if_neg (Nat.lt_irrefl _)]
theorem zkj {a b:Nat×Int} (h:a=b):Ending.returned (zdZ a)= .returned (zdZ b):=by rw[h]
theorem zwo (a:UInt8) (c:Int):inB ⟨#[a]⟩ c=decide (c=(a.toNat:Int)):=by
 unfold inB;rw[show zb3 (fun b=>!decide (b=c)) ⟨#[a]⟩=!decide ((a.toNat:Int)=c) from by simp[zb3]]
 by_cases h:c=(a.toNat:Int)<;>simp[h,eq_comm]
theorem zpE (a b:UInt8) (c:Int):inB ⟨#[a,b]⟩ c=(decide (c=(a.toNat:Int))||decide (c=(b.toNat:Int))):=by
 unfold inB;rw[show zb3 (fun b=>!decide (b=c)) ⟨#[a,b]⟩=((!decide ((a.toNat:Int)=c))&&!decide ((b.toNat:Int)=c)) from by simp[zb3]]
 by_cases h:c=(a.toNat:Int)<;>by_cases h2:c=(b.toNat:Int)<;>simp[h,h2,eq_comm]
set_option maxRecDepth 20000 in
set_option maxHeartbeats 4000000 in
theorem zmx (more:ByteArray) (P:Int→Bool) (s:ByteArray) (o:Int) (w:World) (hs:s.size≤1099511627776) (hm:more.size≤1099511627776)
  (hP:∀c,P c=(((zdc c||zpp c)||inB ⟨#[58,64]⟩ c)||inB more c)) (h0:P 37=false):
  Calls Tryz.prog 173 #[.string s,.int .i64 0,.string more,.int .i64 o] w fun e w'=>e= .returned (zdZ (zfO P s o))∧w=w':=by
 have HP:=hid hP;clear hP
 go_enter Tryz.func173,Tryz.ntmps173
 go_wp2
 go_loop [10] (fun v=>∃i:Nat,i≤s.size∧v= .int .i64 i∧zbi P s i=zbi P s 0) (fun v=>s.size - (RowKit.intOf v).toNat)
 case atStart=>exact ⟨0,by omega,rfl,rfl⟩
 case round=>
  obtain ⟨i,hi,rfl,hst⟩:=hrel;have HST:=hid hst;clear hst
  by_cases hlt:i<s.size
  ·have hb:=@zE s i hlt
   by_cases h37:bt s i=37
   ·have HT:=hid (zgK s i w hs hi)
    have heq:(bt s i==37)=true:=by rw[h37];rfl
    cases ht:tri s i
    ·rw[ht] at HT
     have HN:=hid (zsy (o:=o) (HST.out.symm.trans (zeI (P:=P) hlt ht (by rw[h37];exact h0))) hlt h37);clear h37 ht
     go_wp2_with fail
     refine HT.out.mono ?_;rintro e w1 ⟨rfl,rfl⟩
     go_wp2
     go_ret2
     exact ⟨zkj HN.out.symm,rfl⟩
    ·rw[ht] at HT
     have HF:=hid ((ziR (P:=P) ht).symm.trans HST.out);have h3:=(zbB.1 ht).1;clear h37 ht
     go_wp2_with fail
     refine HT.out.mono ?_;rintro e w1 ⟨rfl,rfl⟩
     go_wp2
     go_round
     case rel=>exact ⟨i+3,by omega,by go_num,HF.out⟩
     case measure=>simp[RowKit.intOf];omega
   ·have heq:(bt s i==37)=false:=by simpa using h37
    have ht:tri s i=false:=zhc h37;have HU:=hid (fun w=>zhB (bt s i) w);have HS:=hid (fun w=>zpl (bt s i) w);have HC:=hid (fun w=>zj0 ⟨#[58,64]⟩ (bt s i) w (by show 2≤1099511627776;omega));have HM:=hid (fun w=>zj0 more (bt s i) w hm);have hpp:=HP.out (bt s i)
    cases ha:zdc (bt s i)
    rotate_left
    ·rw[ha] at HU hpp
     have HF:=hid ((zeK (P:=P) hlt ht (by rw[hpp];simp)).symm.trans HST.out);clear ha ht hpp h37 HS HC HM
     go_wp2_with fail
     refine (HU.out _).mono ?_;rintro e w1 ⟨rfl,rfl⟩
     go_wp2
     go_round
     case rel=>exact ⟨i+1,by omega,by go_num,HF.out⟩
     case measure=>simp[RowKit.intOf];omega
    rw[ha] at HU hpp;clear ha
    cases hb:zpp (bt s i)
    rotate_left
    ·rw[hb] at HS hpp
     have HF:=hid ((zeK (P:=P) hlt ht (by rw[hpp];simp)).symm.trans HST.out);clear hb ht hpp h37 HC HM
     go_wp2_with fail
     refine (HU.out _).mono ?_;rintro e w1 ⟨rfl,rfl⟩
     go_wp2_with fail
     refine (HS.out _).mono ?_;rintro e w1 ⟨rfl,rfl⟩
     go_wp2
     go_round
     case rel=>exact ⟨i+1,by omega,by go_num,HF.out⟩
     case measure=>simp[RowKit.intOf];omega
    rw[hb] at HS hpp;clear hb
    cases hc:inB ⟨#[58,64]⟩ (bt s i)
    rotate_left
    ·rw[hc] at HC hpp
     have HF:=hid ((zeK (P:=P) hlt ht (by rw[hpp];simp)).symm.trans HST.out);clear hc ht hpp h37 HM
     go_wp2_with fail
     refine (HU.out _).mono ?_;rintro e w1 ⟨rfl,rfl⟩
     go_wp2_with fail
     refine (HS.out _).mono ?_;rintro e w1 ⟨rfl,rfl⟩
     go_wp2_with fail
     refine (HC.out _).mono ?_;rintro e w1 ⟨rfl,rfl⟩
     go_wp2
     go_round
     case rel=>exact ⟨i+1,by omega,by go_num,HF.out⟩
     case measure=>simp[RowKit.intOf];omega
    rw[hc] at HC hpp;clear hc
    cases hd:inB more (bt s i)
    rotate_left
    ·rw[hd] at HM hpp
     have HF:=hid ((zeK (P:=P) hlt ht (by rw[hpp];simp)).symm.trans HST.out);clear hd ht hpp h37
     go_wp2_with fail
     refine (HU.out _).mono ?_;rintro e w1 ⟨rfl,rfl⟩
     go_wp2_with fail
     refine (HS.out _).mono ?_;rintro e w1 ⟨rfl,rfl⟩
     go_wp2_with fail
     refine (HC.out _).mono ?_;rintro e w1 ⟨rfl,rfl⟩
     go_wp2_with fail
     refine (HM.out _).mono ?_;rintro e w1 ⟨rfl,rfl⟩
     go_wp2
     go_round
     case rel=>exact ⟨i+1,by omega,by go_num,HF.out⟩
     case measure=>simp[RowKit.intOf];omega
    rw[hd] at HM hpp;clear hd;have HN:=hid (ztU (o:=o) (HST.out.symm.trans (zeI (P:=P) hlt ht (by rw[hpp];rfl))) hlt h37);clear ht hpp h37
    go_wp2_with fail
    refine (HU.out _).mono ?_;rintro e w1 ⟨rfl,rfl⟩
    go_wp2_with fail
    refine (HS.out _).mono ?_;rintro e w1 ⟨rfl,rfl⟩
    go_wp2_with fail
    refine (HC.out _).mono ?_;rintro e w1 ⟨rfl,rfl⟩
    go_wp2_with fail
    refine (HM.out _).mono ?_;rintro e w1 ⟨rfl,rfl⟩
    go_wp2
    go_ret2
    exact ⟨zkj HN.out.symm,rfl⟩
  ·obtain rfl:i=s.size:=by omega
   have HN:=hid (zsE (o:=o) (HST.out.symm.trans (zcp (Nat.le_refl _))))
   go_wp2
   go_ret2
   exact ⟨zkj HN.out.symm,rfl⟩
theorem zl6 (s:ByteArray) (w:World) (hs:s.size≤1099511627776):
  Calls Tryz.prog 173 #[.string s,.int .i64 0,.string ⟨#[47]⟩,.int .i64 53] w fun e w'=>e= .returned (zdZ (zfO zbt s 53))∧w=w':=
 zmx ⟨#[47]⟩ zbt s 53 w hs (by show 1≤1099511627776;omega) (fun c=>by unfold zbt zbW;rw[zpE,zwo];rfl) zkd.2.1
theorem zq1 (s:ByteArray) (w:World) (hs:s.size≤1099511627776):
  Calls Tryz.prog 173 #[.string s,.int .i64 0,.string ⟨#[47,63]⟩,.int .i64 54] w fun e w'=>e= .returned (zdZ (zfO zcv s 54))∧w=w':=
 zmx ⟨#[47,63]⟩ zcv s 54 w hs (by show 2≤1099511627776;omega) (fun c=>by unfold zcv zbt zbW;rw[zpE,zpE,Bool.or_assoc (_||_) (decide (c=47))];rfl) zkd.2.2
end Go.Proofs.YtbnafbdhomdcoaaGreatDoor.T5
namespace Go.Proofs.YtbnafbdhomdcoaaGreatDoor.T5
open Go.RowKit Go.Shelf Go.Lib
theorem zgH (s:ByteArray) (i:Nat) (o:Int) (ho:o=53∨o=54):(zbk s i o !=0)=true:=by
 unfold zbk
 split
 ·rfl
 ·rcases ho with rfl|rfl<;>rfl
theorem zlV {t:Tg} {s:ByteArray} {i:Nat} {a q:ByteArray} {b:Bool} (hc:zbI (s.extract i s.size) 63=(a,q,b)) (h:zz a<a.size):zjq t s i=(zbK,i+zz a,zbk a (zz a) 53):=by
 unfold zjq;rw[hc];exact if_pos h
theorem zks {t:Tg} {s:ByteArray} {i:Nat} {a q:ByteArray} {b:Bool} (hc:zbI (s.extract i s.size) 63=(a,q,b)) (h:¬zz a<a.size) (h2:zay q<q.size):zjq t s i=(zbK,i+a.size+1+zay q,zbk q (zay q) 54):=by
 unfold zjq;rw[hc];exact (if_neg h).trans (if_pos h2)
theorem zvQ {t:Tg} {s:ByteArray} {i:Nat} {a q:ByteArray} {b:Bool} (hc:zbI (s.extract i s.size) 63=(a,q,b)) (h:¬zz a<a.size) (h2:¬zay q<q.size):zjq t s i=(t.laid a q b,0,0):=by
 unfold zjq;rw[hc];exact (if_neg h).trans (if_neg h2)
theorem zln {P:Int→Bool} {s:ByteArray} {o:Int} (h:zbi P s 0<s.size):zfO P s o=(zbi P s 0,zbk s (zbi P s 0) o):=if_pos h
theorem zmX {P:Int→Bool} {s:ByteArray} {o:Int} (h:¬zbi P s 0<s.size):zfO P s o=(0,0):=if_neg h
set_option maxRecDepth 100000 in
set_option maxHeartbeats 4000000 in
theorem zmJ (f:Int) (h:ByteArray) (p:Int) (s:ByteArray) (i:Nat) (w:World) (hs:s.size≤1099511627776) (hi:i≤s.size):
  Calls Tryz.prog 127 #[.string s,.int .i64 i,(Tg.with_ f h p).val] w fun e w'=>e= .returned (tgVal (zaK (Tg.with_ f h p) s i))∧Below w.heap.size w w':=by
 have hz:=zk s hi (Nat.le_refl _);have HC:=hid (fun w=>zii (s.extract i s.size) 63 w (by omega));unfold zfn at HC;have hsz:=zg0 (s.extract i s.size) 63;rw[←zv9 _ s hi];have hb1:=@zlV (Tg.with_ f h p) s i;have hb2:=@zks (Tg.with_ f h p) s i;have hb3:=@zvQ (Tg.with_ f h p) s i;generalize hcut:zbI (s.extract i s.size) 63=c at *;obtain ⟨a,q,b⟩:=c;simp only at HC hsz;obtain ⟨z1,z2,z3⟩:=hsz;rw[hz] at z1 z2 z3;clear hcut hz;have HSP:=hid (fun w=>zl6 a w (by omega));have HSQ:=hid (fun w=>zq1 q w (by omega));rw[show (Tg.with_ f h p).val= .agg #[.int .i64 f,.string h,.int .i64 p,.string ⟨#[]⟩,.string ⟨#[]⟩,.bool false] from rfl]
 by_cases h1:zz a<a.size
 ·have HB:=hid (hb1 rfl h1)
  have hne:=zgH a (zz a) 53 (.inl rfl);have hy:=zln (P:=zbt) (o:=53) h1;unfold zdZ at HSP;rw[hy] at HSP;change Hid (∀w,Calls _ _ _ w fun e w'=>e= .returned (.tuple #[.int .i64 ((zz a:Nat):Int),.int .i64 (zbk a (zz a) 53)])∧w=w') at HSP;clear hb1 hb2 hb3 HSQ hy;generalize zz a=n at *;generalize zbk a n 53=o at *
  go_enter Tryz.func127,Tryz.ntmps127
  go_wp2_with fail
  refine (HC.out _).mono ?_;rintro e w1 ⟨rfl,q1,rfl⟩
  go_wp2_with fail
  refine (HSP.out _).mono ?_;rintro e w1 ⟨rfl,rfl⟩
  go_wp2
  exact bodyPost_ret (v:=tgVal (zbK,i+n,o)) (by simp[results,Tryz.results127,go_sem,tgVal,Tg.val,zbK]) rfl ⟨zbr HB.out.symm,by (repeat (first|(with_reducible refine Below.setCell ?_ (by simp) _)|(with_reducible refine ze ?_ _)|(with_reducible refine Below.alloc ?_ (by simp) _)));exact Below.refl _ _⟩
 ·have hno:=zmX (P:=zbt) (o:=53) h1
  unfold zdZ at HSP;rw[hno] at HSP;change Hid (∀w,Calls _ _ _ w fun e w'=>e= .returned (.tuple #[.int .i64 0,.int .i64 0])∧w=w') at HSP
  by_cases h2:zay q<q.size
  ·have HB:=hid (hb2 rfl h1 h2)
   have hne:=zgH q (zay q) 54 (.inr rfl);have hy:=zln (P:=zcv) (o:=54) h2;unfold zdZ at HSQ;rw[hy] at HSQ;change Hid (∀w,Calls _ _ _ w fun e w'=>e= .returned (.tuple #[.int .i64 ((zay q:Nat):Int),.int .i64 (zbk q (zay q) 54)])∧w=w') at HSQ;clear hb1 hb2 hb3 hy hno h1;generalize zay q=n at *;generalize zbk q n 54=o at *
   go_enter Tryz.func127,Tryz.ntmps127
   go_wp2_with fail
   refine (HC.out _).mono ?_;rintro e w1 ⟨rfl,q1,rfl⟩
   go_wp2_with fail
   refine (HSP.out _).mono ?_;rintro e w1 ⟨rfl,rfl⟩
   go_wp2_with fail
   refine (HSQ.out _).mono ?_;rintro e w1 ⟨rfl,rfl⟩
   go_wp2
   exact bodyPost_ret (v:=tgVal (zbK,i+a.size+1+n,o)) (by simp[results,Tryz.results127,go_sem,tgVal,Tg.val,zbK]) rfl ⟨zbr HB.out.symm,by (repeat (first|(with_reducible refine Below.setCell ?_ (by simp) _)|(with_reducible refine ze ?_ _)|(with_reducible refine Below.alloc ?_ (by simp) _)));exact Below.refl _ _⟩
  ·have HB:=hid (hb3 rfl h1 h2)
   have hno2:=zmX (P:=zcv) (o:=54) h2;unfold zdZ at HSQ;rw[hno2] at HSQ;change Hid (∀w,Calls _ _ _ w fun e w'=>e= .returned (.tuple #[.int .i64 0,.int .i64 0])∧w=w') at HSQ;clear hb1 hb2 hb3 hno hno2 h1 h2
   by_cases ha:a.size=0
   ·have he:a.toList.isEmpty=true:=by rw[zo];exact decide_eq_true ha
    have HB2:=hid (HB.out.trans (by rw[zms ha]));clear ha HB
    go_enter Tryz.func127,Tryz.ntmps127
    go_wp2_with fail
    refine (HC.out _).mono ?_;rintro e w1 ⟨rfl,q1,rfl⟩
    go_wp2_with fail
    refine (HSP.out _).mono ?_;rintro e w1 ⟨rfl,rfl⟩
    go_wp2_with fail
    refine (HSQ.out _).mono ?_;rintro e w1 ⟨rfl,rfl⟩
    go_wp2
    exact bodyPost_ret (v:=tgVal (⟨f,h,p,⟨#[47]⟩,q,b⟩,0,0)) (by simp[results,Tryz.results127,go_sem,tgVal,Tg.val]) rfl ⟨zbr HB2.out.symm,by (repeat (first|(with_reducible refine Below.setCell ?_ (by simp) _)|(with_reducible refine ze ?_ _)|(with_reducible refine Below.alloc ?_ (by simp) _)));exact Below.refl _ _⟩
   ·have he:a.toList.isEmpty=false:=by rw[zo];exact decide_eq_false ha
    have HB2:=hid (HB.out.trans (by rw[zmd ha]));clear ha HB
    go_enter Tryz.func127,Tryz.ntmps127
    go_wp2_with fail
    refine (HC.out _).mono ?_;rintro e w1 ⟨rfl,q1,rfl⟩
    go_wp2_with fail
    refine (HSP.out _).mono ?_;rintro e w1 ⟨rfl,rfl⟩
    go_wp2_with fail
    refine (HSQ.out _).mono ?_;rintro e w1 ⟨rfl,rfl⟩
    go_wp2
    exact bodyPost_ret (v:=tgVal (⟨f,h,p,a,q,b⟩,0,0)) (by simp[results,Tryz.results127,go_sem,tgVal,Tg.val]) rfl ⟨zbr HB2.out.symm,by (repeat (first|(with_reducible refine Below.setCell ?_ (by simp) _)|(with_reducible refine ze ?_ _)|(with_reducible refine Below.alloc ?_ (by simp) _)));exact Below.refl _ _⟩
end Go.Proofs.YtbnafbdhomdcoaaGreatDoor.T5
namespace Go.Proofs.YtbnafbdhomdcoaaGreatDoor.T5
open Go.RowKit Go.Shelf Go.Lib
theorem zH {w w1:World} {cs:Array Value} {t:TypeId} (h:Below (w.heap.size+1) (w.alloc (.cells cs t)) w1) (k:Nat):w1.cell? ⟨w.heap.size,k,none⟩=cs[k]?∧w1.frozen? ⟨w.heap.size,k,none⟩=false:=by
 refine ⟨?_,?_⟩
 ·rw[h.cell (p:=⟨w.heap.size,k,none⟩) (by simp),World.cell?_alloc_new]
 ·rw[h.frozen (p:=⟨w.heap.size,k,none⟩) (by simp)];simp
theorem zas {w w1:World} {o:Obj} (h:Below (w.heap.size+1) (w.alloc o) w1):w.heap.size<w1.heap.size:=by have:=h.size;simp at this;omega
theorem zw {w w1:World} {o:Obj} (h:Below (w.heap.size+1) (w.alloc o) w1):Below w.heap.size w w1:=
 ((Below.refl w.heap.size w).alloc (Nat.le_refl _) o).trans (h.mono (by omega))
theorem zb8:zbv.toList=[67,79,78,78,69,67,84]:=by decide +kernel
theorem zrd {m s:ByteArray} (h0:¬s.size=0) (hm:m≠zbv) (h47:bt s 0=47):parseT m s=zaK (Tg.with_ 1 ⟨#[]⟩ (-1)) s 0:=by
 unfold parseT;rw[if_neg h0,if_neg hm,if_pos h47]
 rfl
set_option maxRecDepth 100000 in
set_option maxHeartbeats 4000000 in
theorem zm4 (m s:ByteArray) (w:World) (hs:s.size≤1099511627776) (h0:¬s.size=0) (hm:m≠zbv) (h47:bt s 0=47):
  Calls Tryz.prog 99 #[.string m,.string s] w fun e w'=>e= .returned (tgVal (parseT m s))∧Below w.heap.size w w':=by
 have he:s.toList.isEmpty=false:=by rw[zo];exact decide_eq_false h0
 have hmm:(m.toList==[67,79,78,78,69,67,84])=false:=by rw[←zb8];exact (zaj m zbv).trans (decide_eq_false hm)
 have hb:=@zE s 0 (by omega);have h4:(bt s 0==47)=true:=by rw[h47];rfl
 have hB:=hid (fun w=>zkA 1 ⟨#[]⟩ (-1) s 0 w hs (by omega));rw[zrd h0 hm h47];rw[show (Tg.with_ 1 ⟨#[]⟩ (-1)).val= .agg #[.int .i64 1,.string ⟨#[]⟩,.int .i64 (-1),.string ⟨#[]⟩,.string ⟨#[]⟩,.bool false] from rfl] at hB;generalize zaK (Tg.with_ 1 ⟨#[]⟩ (-1)) s 0=r at *;obtain ⟨⟨f,h,p,pa,qu,hq⟩,i,er⟩:=r;unfold tgVal Tg.val at hB;dsimp only at hB;rw[show ((0:Nat):Int)=0 from rfl] at hB;have hpos:0<s.size:=by omega
 clear hm h47
 go_enter Tryz.func99,Tryz.ntmps99
 go_wp2_with fail
 refine (hB.out _).mono ?_;rintro e w1 ⟨rfl,b1⟩;have b1':Below (w.heap.size+1) (w.alloc (.cells #[.int .i64 0,.string ⟨#[]⟩,.int .i64 0,.string ⟨#[]⟩,.string ⟨#[]⟩,.bool false] 114)) w1:=by simpa using b1
 obtain ⟨c0,f0⟩:=zH b1' 0;obtain ⟨c1,f1⟩:=zH b1' 1;obtain ⟨c2,f2⟩:=zH b1' 2;obtain ⟨c3,f3⟩:=zH b1' 3;obtain ⟨c4,f4⟩:=zH b1' 4;obtain ⟨c5,f5⟩:=zH b1' 5;have hsz:=zas b1';have hbw:=zw b1';clear b1 b1'
 go_wp2
 exact bodyPost_ret (v:=tgVal (⟨f,h,p,pa,qu,hq⟩,i,er)) (by simp[results,Tryz.results99,go_sem,tgVal,Tg.val,c0,c1,c2,c3,c4,c5]) rfl ⟨rfl,by (repeat (first|(with_reducible refine Below.setCell ?_ (by simp) _)));exact hbw⟩
end Go.Proofs.YtbnafbdhomdcoaaGreatDoor.T5
