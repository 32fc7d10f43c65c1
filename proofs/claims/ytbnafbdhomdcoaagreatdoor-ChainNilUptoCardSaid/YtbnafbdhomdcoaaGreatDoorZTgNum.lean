/-
 TgNum, without what this claim does not reach.
-/
import Derived.Test.YtbnafbdhomdcoaaGreatDoorZTgR
import Derived.Test.YtbnafbdhomdcoaaGreatDoorZm0
namespace Go.Proofs.YtbnafbdhomdcoaaGreatDoor.T5
open Go.RowKit Go.Shelf Go.Lib
def zfP (s:ByteArray) (most base:Int) (k:Nat) (n:Int) (big:Bool):Prop:=
 zdY base s k∧0≤n∧n≤most∧(big=false→n=zch base (s.data.toList.take k))∧(big=true→most<zch base (s.data.toList.take k))
theorem zfP.start (s:ByteArray) {most base:Int} (h:0≤most):zfP s most base 0 0 false:=⟨zdY.zero,Int.le_refl _,h,fun _=>rfl,fun h=>by cases h⟩
section
variable {s:ByteArray} {most base n:Int} {k:Nat} (hk:k<s.size) (hb:2≤base) (h0:0≤zaE (bt s k)) (h1:zaE (bt s k)<base)
include hk hb h0 h1
theorem zfP.big (h:zfP s most base k n true):zfP s most base (k+1) n true:=by
 obtain ⟨a,b,c,_,e⟩:=h;have e:=e rfl;have h2:=zfd (base:=base) hk;have h3:=a.pos (by omega);have h4:zch base (s.data.toList.take k)*1≤zch base (s.data.toList.take k)*base:=Int.mul_le_mul_of_nonneg_left (by omega) h3;exact ⟨a.succ hk h0 h1,b,c,fun h=>by (cases h),fun _=>by omega⟩
omit hb in
theorem zfP.over (h:zfP s most base k n false) (ho:most<n*base+zaE (bt s k)):zfP s most base (k+1) n true:=by
 obtain ⟨a,b,c,d,_⟩:=h;have d:=d rfl;have h2:=zfd (base:=base) hk;exact ⟨a.succ hk h0 h1,b,c,fun h=>by (cases h),fun _=>by rw[h2,←d];exact ho⟩
theorem zfP.on (h:zfP s most base k n false) (ho:n*base+zaE (bt s k)≤most):zfP s most base (k+1) (n*base+zaE (bt s k)) false:=by
 obtain ⟨a,b,c,d,_⟩:=h;have d:=d rfl;have h2:=zfd (base:=base) hk;have h3:0≤n*base:=Int.mul_nonneg b (by omega);exact ⟨a.succ hk h0 h1,by omega,ho,fun _=>by rw[h2,←d],fun h=>by (cases h)⟩
end
theorem zwk {n most base:Int} (hb:0<base) (_hn:0≤n) (_hm:0≤most):most / base<n↔most<n*base:=by
 rw[Int.ediv_lt_iff_lt_mul hb]
set_option maxRecDepth 20000 in
set_option maxHeartbeats 2000000 in
theorem zqp (s:ByteArray) (most base:Int) (w:World) (hs:s.size≤1099511627776) (hm0:0≤most) (hm1:most≤9223372036854775807) (hb1:2≤base) (hb2:base≤16):
  Calls Tryz.prog 204 #[.string s,.int .i64 most,.int .i64 base] w fun e w'=>e= .returned (.tuple #[.int .i64 (zbY s most base).1,.int .i64 (zbY s most base).2])∧Below w.heap.size w w':=by
 by_cases hz:s.size=0
 ·have he:s.toList.isEmpty=true:=by rw[zo];exact decide_eq_true hz
  have HR:=hid (zhu (most:=most) (base:=base) hz);clear hz
  go_enter Tryz.func204,Tryz.ntmps204
  go_wp2
  go_ret2
  exact ⟨by rw[HR.out];rfl,Below.refl _ _⟩
 ·have he:s.toList.isEmpty=false:=by rw[zo];exact decide_eq_false hz
  have hneg:decide (most<0)=false:=by simp;omega
  have hz':0<s.size:=by omega
  clear hz
  go_enter Tryz.func204,Tryz.ntmps204
  go_wp2
  go_loopw [8,9,18] (fun v b i wr=>∃(k:Nat) (n:Int) (big:Bool),k≤s.size∧i= .int .i64 k∧v= .int .i64 n∧b= .bool big∧zfP s most base k n big∧Below w.heap.size w wr) (fun _ _ i _=>s.size - (RowKit.intOf i).toNat)
  case atStart=>exact ⟨0,0,false,by omega,rfl,rfl,rfl,zfP.start s hm0,Below.refl _ _⟩
  case round=>
   obtain ⟨k,n,big,hk,rfl,rfl,rfl,hN,hbw⟩:=hrel
   by_cases hlt:k<s.size
   ·obtain ⟨hdv,hsz1⟩:=zvn s hlt
    have hsz0:=zk s (a:=k) (b:=k+1) (by omega) (by omega);have HL:=hid (fun w=>zdA (s.extract k (k+1)) w (by unfold maxLen;omega));have hbt:=@zE (zaP (s.extract k (k+1))) 0 hsz1;have hr1:=zbS (zaP (s.extract k (k+1))) 0;have hr2:=zdQ (zaP (s.extract k (k+1))) 0;have HI:=hid (fun w=>za2 zfH (bt (zaP (s.extract k (k+1))) 0) w hr1 hr2);rw[hdv] at HI;generalize zaP (s.extract k (k+1))=u at *;have hn0:=hN.2.1;have hn1:=hN.2.2.1;have hdr:=zc5 (bt s k);have hex:zfH=⟨#[48,49,50,51,52,53,54,55,56,57,97,98,99,100,101,102]⟩:=rfl;rw[hex] at HI;clear hdv hsz0 hex
    by_cases hd:0≤zaE (bt s k)∧zaE (bt s k)<base
    ·obtain ⟨hd0,hd1⟩:=hd
     cases big
     ·have HB:=hid (hN.over hlt hd0 hd1)
      have HO:=hid (hN.on hlt hb1 hd0 hd1);have hq:=zwk (n:=n) (most:=most) (base:=base) (by omega) hn0 hm0;have hpos:0≤n*base:=Int.mul_nonneg hn0 (by omega);clear hN;generalize zaE (bt s k)=d at *
      by_cases h1:most<n*base
      ·have h2:=hq.2 h1
       clear hq
       go_wp2_with fail
       refine (HL.out _).mono ?_;rintro e w1 ⟨rfl,b1⟩
       go_wp2_with fail
       refine (HI.out _).mono ?_;rintro e w2 ⟨rfl,rfl⟩
       go_wp2
       go_roundw
       case rel=>exact ⟨k+1,n,true,by omega,by go_num,rfl,rfl,HB.out (by omega),hbw.trans (b1.mono hbw.size)⟩
       case measure=>simp[RowKit.intOf];omega
      ·have h2:¬most / base<n:=fun h=>h1 (hq.1 h)
       clear hq
       by_cases h3:most - d<n*base
       ·go_wp2_with fail
        refine (HL.out _).mono ?_;rintro e w1 ⟨rfl,b1⟩
        go_wp2_with fail
        refine (HI.out _).mono ?_;rintro e w2 ⟨rfl,rfl⟩
        go_wp2
        go_roundw
        case rel=>exact ⟨k+1,n,true,by omega,by go_num,rfl,rfl,HB.out (by omega),hbw.trans (b1.mono hbw.size)⟩
        case measure=>simp[RowKit.intOf];omega
       ·go_wp2_with fail
        refine (HL.out _).mono ?_;rintro e w1 ⟨rfl,b1⟩
        go_wp2_with fail
        refine (HI.out _).mono ?_;rintro e w2 ⟨rfl,rfl⟩
        go_wp2
        go_roundw
        case rel=>exact ⟨k+1,n*base+d,false,by omega,by go_num,rfl,rfl,HO.out (by omega),hbw.trans (b1.mono hbw.size)⟩
        case measure=>simp[RowKit.intOf];omega
     ·have HB:=hid (hN.big hlt hb1 hd0 hd1)
      clear hN;generalize zaE (bt s k)=d at *
      go_wp2_with fail
      refine (HL.out _).mono ?_;rintro e w1 ⟨rfl,b1⟩
      go_wp2_with fail
      refine (HI.out _).mono ?_;rintro e w2 ⟨rfl,rfl⟩
      go_wp2
      go_roundw
      case rel=>exact ⟨k+1,n,true,by omega,by go_num,rfl,rfl,HB.out,hbw.trans (b1.mono hbw.size)⟩
      case measure=>simp[RowKit.intOf];omega
    ·have HR:=hid (zlu (most:=most) (base:=base) hlt (by omega))
     clear hN;have hd':zaE (bt s k)<0∨(0≤zaE (bt s k)∧base≤zaE (bt s k)):=by omega
     generalize zaE (bt s k)=d at *;clear hd
     rcases hd' with hd|⟨hd0,hd⟩
     all_goals
      go_wp2_with fail
      refine (HL.out _).mono ?_;rintro e w1 ⟨rfl,b1⟩
      go_wp2_with fail
      refine (HI.out _).mono ?_;rintro e w2 ⟨rfl,rfl⟩
      go_wp2
      go_ret2
      exact ⟨by rw[HR.out];rfl,hbw.trans (b1.mono hbw.size)⟩
   ·obtain rfl:k=s.size:=by omega
    obtain ⟨hN1,_,hN2,hN3,hN4⟩:=hN
    cases big
    ·have hv:=hN3 rfl
     have HR:=hid (zjR (most:=most) hz' hN1 (by omega));rw[←hv] at HR;clear hv hN1 hN3 hN4
     go_wp2
     go_ret2
     exact ⟨by rw[HR.out];rfl,hbw⟩
    ·have HR:=hid (zlr (most:=most) hz' hN1 (hN4 rfl))
     clear hN1 hN3 hN4
     go_wp2
     go_ret2
     exact ⟨by rw[HR.out];rfl,hbw⟩
set_option maxRecDepth 20000 in
theorem zgT (s:ByteArray) (most:Int) (w:World) (hs:s.size≤1099511627776) (hm0:0≤most) (hm1:most≤9223372036854775807):
  Calls Tryz.prog 167 #[.string s,.int .i64 most] w fun e w'=>e= .returned (.tuple #[.int .i64 (zbY s most 10).1,.int .i64 (zbY s most 10).2])∧Below w.heap.size w w':=by
 go_enter Tryz.func167,Tryz.ntmps167
 go_wp2_with fail
 refine (zqp s most 10 w hs hm0 hm1 (by omega) (by omega)).mono ?_;rintro e w1 ⟨rfl,b1⟩
 go_wp2
 go_ret2
 exact ⟨rfl,b1⟩
theorem zjc {s:ByteArray} {base:Int} (hb:1≤base) (h:zdY base s s.size):∀(d k:Nat),k+d=s.size→zch base (s.data.toList.take k)≤zch base (s.data.toList.take s.size)
 |0,k,e=>by rw[Nat.add_zero] at e;rw[e];exact Int.le_refl _
 |d+1,k,e=>by
  have hk:k<s.size:=by omega
  have ih:=zjc hb h d (k+1) (by omega);have hpre:∀j,j≤s.size→zdY base s j:=fun j hj=>by
   unfold zdY at *;rw[List.all_eq_true] at *;intro x hx;refine h x ?_;rw[zfu];exact List.mem_of_mem_take hx
  have h1:=(hpre k (by omega)).pos (base:=base) (by omega);have h2:=zfd (base:=base) hk;have h3:0≤zaE (bt s k):=by
   have hl:k<s.data.toList.length:=by rw[size_eq];exact hk
   have:=List.all_eq_true.1 h (s.data.toList[k]) (by rw[zfu];exact List.getElem_mem hl);have e2:((s.data.toList[k].toNat:Nat):Int)=bt s k:=by
    unfold bt;rw[List.getD_eq_getElem?_getD,List.getElem?_eq_getElem hl]
    rfl
   rw[zdU,e2] at this;exact this.1
  have h4:zch base (s.data.toList.take k)*1≤zch base (s.data.toList.take k)*base:=Int.mul_le_mul_of_nonneg_left hb h1
  omega
theorem zrq {s:ByteArray} {base:Int} {k:Nat} (h:zdY base s s.size) (hk:k<s.size):0≤zaE (bt s k)∧zaE (bt s k)<base:=by
 have hl:k<s.data.toList.length:=by rw[size_eq];exact hk
 have:=List.all_eq_true.1 h (s.data.toList[k]) (by rw[zfu];exact List.getElem_mem hl);have e2:((s.data.toList[k].toNat:Nat):Int)=bt s k:=by
  unfold bt;rw[List.getD_eq_getElem?_getD,List.getElem?_eq_getElem hl]
  rfl
 rw[zdU,e2] at this;exact this
theorem znc {c:Int}:isDgt c=true↔(0≤zaE c∧zaE c<10):=by rw[zti];simp[isDgt]
theorem ztX {n most base v:Int} (hb:0<base):(most - v) / base<n↔most<n*base+v:=by
 rw[Int.ediv_lt_iff_lt_mul hb]
 omega
set_option maxRecDepth 20000 in
set_option maxHeartbeats 2000000 in
theorem zqc (s:ByteArray) (most:Int) (w:World) (hs:s.size≤1099511627776) (hm0:0≤most) (hm1:most≤9223372036854775807):
  Calls Tryz.prog 183 #[.string s,.int .i64 10,.int .i64 most] w fun e w'=>e= .returned (.tuple #[.int .i64 (zbY s most 10).1,.int .i64 (zbY s most 10).2])∧w=w':=by
 by_cases hz:s.size=0
 ·have he:s.toList.isEmpty=true:=by rw[zo];exact decide_eq_true hz
  have HR:=hid (zhu (most:=most) (base:=10) hz);clear hz
  go_enter Tryz.func183,Tryz.ntmps183
  go_wp2
  go_ret2
  exact ⟨by rw[HR.out];rfl,rfl⟩
 ·have he:s.toList.isEmpty=false:=by rw[zo];exact decide_eq_false hz
  have hz':0<s.size:=by omega
  clear hz
  go_enter Tryz.func183,Tryz.ntmps183
  go_wp2
  go_loop [8] (fun i=>∃k:Nat,k≤s.size∧i= .int .i64 k∧zdY 10 s k) (fun i=>s.size - (RowKit.intOf i).toNat)
  case atStart=>exact ⟨0,by omega,rfl,zdY.zero⟩
  case round=>
   obtain ⟨k,hk,rfl,hD⟩:=hrel
   by_cases hlt:k<s.size
   ·have hb:=@zE s k hlt
    have HC:=hid (fun w=>rDigit_any (bt s k) w)
    cases hp:isDgt (bt s k)
    ·have HR:=hid (zlu (most:=most) (base:=10) hlt (by have:=mt znc.2 (by rw[hp];simp);omega))
     rw[hp] at HC;clear hp hD
     go_wp2_with fail
     refine (HC.out _).mono ?_;rintro e w' ⟨rfl,rfl⟩
     go_wp2
     go_ret2
     exact ⟨by rw[HR.out];rfl,rfl⟩
    ·have HD:=hid (hD.succ hlt (znc.1 hp).1 (znc.1 hp).2)
     rw[hp] at HC;clear hp hD
     go_wp2_with fail
     refine (HC.out _).mono ?_;rintro e w' ⟨rfl,rfl⟩
     go_wp2
     go_round
     case rel=>exact ⟨k+1,by omega,by go_num,HD.out⟩
     case measure=>simp[RowKit.intOf];omega
   ·obtain rfl:k=s.size:=by omega
    have HD:=hid hD;clear hD hlt hk
    go_wp2
    go_loop [9,10] (fun v i=>∃k:Nat,k≤s.size∧i= .int .i64 k∧v= .int .i64 (zch 10 (s.data.toList.take k))∧0≤zch 10 (s.data.toList.take k)∧zch 10 (s.data.toList.take k)≤most) (fun _ i=>s.size - (RowKit.intOf i).toNat)
    case atStart=>exact ⟨0,by omega,rfl,rfl,by simp[zch],by simpa [zch] using hm0⟩
    case round=>
     obtain ⟨k,hk,rfl,rfl,hn0,hn1⟩:=hrel
     by_cases hlt:k<s.size
     ·have hb:=@zE s k hlt
      obtain ⟨hd0,hd1⟩:=zrq HD.out hlt;have HC:=hid (fun w=>zkn (bt s k) w hd0 (zbS s k) (zdQ s k));have HN:=hid (zfd (base:=10) hlt);have HG:=hid (zjc (base:=10) (by omega) HD.out (s.size - (k+1)) (k+1) (by omega));have hq:=ztX (n:=zch 10 (s.data.toList.take k)) (most:=most) (base:=10) (v:=zaE (bt s k)) (by omega);generalize zch 10 (s.data.toList.take k)=n at *;generalize zaE (bt s k)=d at *
      by_cases ho:most<n*10+d
      ·have HR:=hid (zlr (most:=most) hz' HD.out (by have h1:=HG.out;rw[HN.out] at h1;omega))
       have h2:=hq.2 ho;clear hq ho
       by_cases h1:most<d
       ·go_wp2_with fail
        refine (HC.out _).mono ?_;rintro e w' ⟨rfl,rfl⟩
        go_wp2
        go_ret2
        exact ⟨by rw[HR.out];rfl,rfl⟩
       ·go_wp2_with fail
        refine (HC.out _).mono ?_;rintro e w' ⟨rfl,rfl⟩
        go_wp2
        go_ret2
        exact ⟨by rw[HR.out];rfl,rfl⟩
      ·have h2:¬(most - d) / 10<n:=fun h=>ho (hq.1 h)
       have h1:¬most<d:=by omega
       clear hq
       go_wp2_with fail
       refine (HC.out _).mono ?_;rintro e w' ⟨rfl,rfl⟩
       go_wp2
       go_round
       case rel=>exact ⟨k+1,by omega,by go_num,by rw[HN.out],by rw[HN.out];omega,by rw[HN.out];omega⟩
       case measure=>simp[RowKit.intOf];omega
     ·obtain rfl:k=s.size:=by omega
      have HR:=hid (zjR (most:=most) hz' HD.out (by omega));have hnm:¬most<zch 10 (s.data.toList.take s.size):=by omega
      generalize zch 10 (s.data.toList.take s.size)=n at *
      go_wp2
      go_ret2
      exact ⟨by rw[HR.out];rfl,rfl⟩
theorem zj2 {c:Int}:zbZ c=true↔(0≤zaE c∧zaE c<16):=by
 have:=zc5 c;rw[zdR]
 omega
set_option maxRecDepth 20000 in
set_option maxHeartbeats 2000000 in
theorem zql (s:ByteArray) (most:Int) (w:World) (hs:s.size≤1099511627776) (hm0:0≤most) (hm1:most≤9223372036854775807):
  Calls Tryz.prog 183 #[.string s,.int .i64 16,.int .i64 most] w fun e w'=>e= .returned (.tuple #[.int .i64 (zbY s most 16).1,.int .i64 (zbY s most 16).2])∧w=w':=by
 by_cases hz:s.size=0
 ·have he:s.toList.isEmpty=true:=by rw[zo];exact decide_eq_true hz
  have HR:=hid (zhu (most:=most) (base:=16) hz);clear hz
  go_enter Tryz.func183,Tryz.ntmps183
  go_wp2
  go_ret2
  exact ⟨by rw[HR.out];rfl,rfl⟩
 ·have he:s.toList.isEmpty=false:=by rw[zo];exact decide_eq_false hz
  have hz':0<s.size:=by omega
  clear hz
  go_enter Tryz.func183,Tryz.ntmps183
  go_wp2
  go_loop [8] (fun i=>∃k:Nat,k≤s.size∧i= .int .i64 k∧zdY 16 s k) (fun i=>s.size - (RowKit.intOf i).toNat)
  case atStart=>exact ⟨0,by omega,rfl,zdY.zero⟩
  case round=>
   obtain ⟨k,hk,rfl,hD⟩:=hrel
   by_cases hlt:k<s.size
   ·have hb:=@zE s k hlt
    have HC:=hid (fun w=>zk4 (bt s k) w)
    cases hp:zbZ (bt s k)
    ·have HR:=hid (zlu (most:=most) (base:=16) hlt (by have:=mt zj2.2 (by rw[hp];simp);omega))
     rw[hp] at HC;clear hp hD
     go_wp2_with fail
     refine (HC.out _).mono ?_;rintro e w' ⟨rfl,rfl⟩
     go_wp2
     go_ret2
     exact ⟨by rw[HR.out];rfl,rfl⟩
    ·have HD:=hid (hD.succ hlt (zj2.1 hp).1 (zj2.1 hp).2)
     rw[hp] at HC;clear hp hD
     go_wp2_with fail
     refine (HC.out _).mono ?_;rintro e w' ⟨rfl,rfl⟩
     go_wp2
     go_round
     case rel=>exact ⟨k+1,by omega,by go_num,HD.out⟩
     case measure=>simp[RowKit.intOf];omega
   ·obtain rfl:k=s.size:=by omega
    have HD:=hid hD;clear hD hlt hk
    go_wp2
    go_loop [9,10] (fun v i=>∃k:Nat,k≤s.size∧i= .int .i64 k∧v= .int .i64 (zch 16 (s.data.toList.take k))∧0≤zch 16 (s.data.toList.take k)∧zch 16 (s.data.toList.take k)≤most) (fun _ i=>s.size - (RowKit.intOf i).toNat)
    case atStart=>exact ⟨0,by omega,rfl,rfl,by simp[zch],by simpa [zch] using hm0⟩
    case round=>
     obtain ⟨k,hk,rfl,rfl,hn0,hn1⟩:=hrel
     by_cases hlt:k<s.size
     ·have hb:=@zE s k hlt
      obtain ⟨hd0,hd1⟩:=zrq HD.out hlt;have HC:=hid (fun w=>zkn (bt s k) w hd0 (zbS s k) (zdQ s k));have HN:=hid (zfd (base:=16) hlt);have HG:=hid (zjc (base:=16) (by omega) HD.out (s.size - (k+1)) (k+1) (by omega));have hq:=ztX (n:=zch 16 (s.data.toList.take k)) (most:=most) (base:=16) (v:=zaE (bt s k)) (by omega);generalize zch 16 (s.data.toList.take k)=n at *;generalize zaE (bt s k)=d at *
      by_cases ho:most<n*16+d
      ·have HR:=hid (zlr (most:=most) hz' HD.out (by have h1:=HG.out;rw[HN.out] at h1;omega))
       have h2:=hq.2 ho;clear hq ho
       by_cases h1:most<d
       ·go_wp2_with fail
        refine (HC.out _).mono ?_;rintro e w' ⟨rfl,rfl⟩
        go_wp2
        go_ret2
        exact ⟨by rw[HR.out];rfl,rfl⟩
       ·go_wp2_with fail
        refine (HC.out _).mono ?_;rintro e w' ⟨rfl,rfl⟩
        go_wp2
        go_ret2
        exact ⟨by rw[HR.out];rfl,rfl⟩
      ·have h2:¬(most - d) / 16<n:=fun h=>ho (hq.1 h)
       have h1:¬most<d:=by omega
       clear hq
       go_wp2_with fail
       refine (HC.out _).mono ?_;rintro e w' ⟨rfl,rfl⟩
       go_wp2
       go_round
       case rel=>exact ⟨k+1,by omega,by go_num,by rw[HN.out],by rw[HN.out];omega,by rw[HN.out];omega⟩
       case measure=>simp[RowKit.intOf];omega
     ·obtain rfl:k=s.size:=by omega
      have HR:=hid (zjR (most:=most) hz' HD.out (by omega));have hnm:¬most<zch 16 (s.data.toList.take s.size):=by omega
      generalize zch 16 (s.data.toList.take s.size)=n at *
      go_wp2
      go_ret2
      exact ⟨by rw[HR.out];rfl,rfl⟩
theorem zf2 (s:ByteArray) (most:Int) (w:World) (hs:s.size≤1099511627776) (hm0:0≤most) (hm1:most≤9223372036854775807):
  Calls Tryz.prog 134 #[.string s,.int .i64 most] w fun e w'=>e= .returned (.tuple #[.int .i64 (zbY s most 10).1,.int .i64 (zbY s most 10).2])∧w=w':=by
 go_enter Tryz.func134,Tryz.ntmps134
 go_wp2_with fail
 refine (zqc s most _ hs hm0 hm1).mono ?_;rintro e w' ⟨rfl,rfl⟩
 go_wp2
 go_ret2
 exact ⟨rfl,rfl⟩
theorem zmu (s:ByteArray) (most:Int) (w:World) (hs:s.size≤1099511627776) (hm0:0≤most) (hm1:most≤9223372036854775807):
  Calls Tryz.prog 211 #[.string s,.int .i64 most] w fun e w'=>e= .returned (.tuple #[.int .i64 (zbY s most 16).1,.int .i64 (zbY s most 16).2])∧w=w':=by
 go_enter Tryz.func211,Tryz.ntmps211
 go_wp2_with fail
 refine (zql s most _ hs hm0 hm1).mono ?_;rintro e w' ⟨rfl,rfl⟩
 go_wp2
 go_ret2
 exact ⟨rfl,rfl⟩
end Go.Proofs.YtbnafbdhomdcoaaGreatDoor.T5
