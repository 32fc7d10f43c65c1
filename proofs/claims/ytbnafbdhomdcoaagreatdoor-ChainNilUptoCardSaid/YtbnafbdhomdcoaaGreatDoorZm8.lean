/-
  CjU, CjI, CjV, without what the claim does not reach.
-/
import Derived.Test.YtbnafbdhomdcoaaGreatDoorZTgIx
import Derived.Test.YtbnafbdhomdcoaaGreatDoorZm4
import Derived.Shelf.Strings.FuncGrows
import Derived.Test.YtbnafbdhomdcoaaGreatDoorZm6
import Derived.Test.YtbnafbdhomdcoaaGreatDoorZm7
import Derived.Test.YtbnafbdhomdcoaaGreatDoorZTgAu
namespace Go.Proofs.YtbnafbdhomdcoaaGreatDoor
open Go.RowKit Go.Shelf Go.Lib
def zlJ (x:Nat):Bool:=decide (x<32)||decide (x=127)
theorem zpc {n:Nat} {c:Int} (h:(n:Int)=c):zlJ n=zeb c:=by
 unfold zlJ zeb;subst h;rw[Bool.eq_iff_iff];simp only[Bool.or_eq_true,decide_eq_true_eq]
 omega
theorem zvg {n:Nat} (h:128≤n):zlJ n=false:=by
 unfold zlJ;rw[decide_eq_false (by omega),decide_eq_false (by omega)];rfl
theorem znf (s:ByteArray):∀(f pos:Nat),s.size≤pos+f→((0≤Lib.idxFuncFrom zlJ true s f pos)↔∃j,pos≤j∧j<s.size∧zeb (bt s j)=true)
 |0,pos,h=>by
  constructor
  ·intro g
   cases g
  ·rintro ⟨j,h1,h2,_⟩
   omega
 |f+1,pos,h=>by
  unfold Lib.idxFuncFrom
  by_cases hp:pos<s.size
  ·rw[if_pos hp]
   rcases T5.dec_cases s pos hp with ⟨c1,c2,c3⟩|⟨c1,c2,c3⟩
   ·rw[zpc c2,c3]
    cases hc:zeb (bt s pos)
    ·rw[if_neg (by simp),znf s f (pos+1) (by omega)]
     constructor
     ·rintro ⟨j,h1,h2,h3⟩;exact ⟨j,by omega,h2,h3⟩
     ·rintro ⟨j,h1,h2,h3⟩
      rcases Nat.eq_or_lt_of_le h1 with rfl|h4
      ·rw[hc] at h3;cases h3
      ·exact ⟨j,h4,h2,h3⟩
    ·rw[if_pos rfl]
     exact ⟨fun _=>⟨pos,Nat.le_refl _,hp,hc⟩,fun _=>Int.natCast_nonneg _⟩
   ·rw[zvg c1,if_neg (by simp),znf s f (pos+(Utf8.decode s pos).2) (by omega)]
    constructor
    ·rintro ⟨j,h1,h2,h3⟩;exact ⟨j,by omega,h2,h3⟩
    ·rintro ⟨j,h1,h2,h3⟩
     rcases Nat.lt_or_ge j (pos+(Utf8.decode s pos).2) with h4|h4
     ·have:=c3 j h1 h4
      unfold zeb at h3;rw[decide_eq_false (by omega),decide_eq_false (by omega)] at h3
      cases h3
     ·exact ⟨j,h4,h2,h3⟩
  ·rw[if_neg hp]
   constructor
   ·intro g;omega
   ·rintro ⟨j,h1,h2,_⟩;omega
theorem zo1 (s:ByteArray):decide (0≤Lib.idxFunc zlJ true s)=!zb3 (fun c=>!zeb c) s:=by
 have h:0≤Lib.idxFunc zlJ true s↔∃j,0≤j∧j<s.size∧zeb (bt s j)=true:=znf s s.size 0 (by omega)
 cases hb:zb3 (fun c=>!zeb c) s
 ·rw[decide_eq_true];rfl
  rw[h];refine Classical.byContradiction fun hn=>?_
  have:zb3 (fun c=>!zeb c) s=true:=zaU fun j hj=>by
   cases hc:zeb (bt s j)
   ·rfl
   ·exact absurd ⟨j,Nat.zero_le _,hj,hc⟩ hn
  rw[this] at hb
  cases hb
 ·rw[decide_eq_false];rfl
  rw[h];rintro ⟨j,_,hj,hc⟩;have:zb3 (fun c=>!zeb c) s=false:=zaB hj (by rw[hc];rfl);rw[this] at hb
  cases hb
def zbN (s:ByteArray):Nat:=zdG (fun j=>!zcW (bt s j)) 0 s.size
theorem zio (s:ByteArray):zbN s≤s.size∧(∀j,j<zbN s→zcW (bt s j)=false)∧(zbN s<s.size→zcW (bt s (zbN s))=true):=by
 obtain ⟨_,h2,h3,h4⟩:=zey (fun j=>!zcW (bt s j)) s.size 0;refine ⟨by unfold zbN;omega,fun j hj=>?_,fun hlt=>?_⟩
 ·have:=h3 j (Nat.zero_le _) hj
  simpa using this
 ·have:=h4 (by unfold zbN at hlt;omega)
  unfold zbN
  simpa using this
theorem zqL {s:ByteArray} {k:Nat} (h2:k<s.size) (hn:∀j,j<k→zcW (bt s j)=false) (hb:zcW (bt s k)=true):zbN s=k:=
 zfN (fun j _ g2=>by show (!zcW (bt s j))=true;rw[hn j g2];rfl) (Nat.zero_le _) (by omega) (by show (!zcW (bt s k))=false;rw[hb];rfl)
theorem znG {s:ByteArray} (hn:∀j,j<s.size→zcW (bt s j)=false):zbN s=s.size:=by
 have:=zgM (P:=fun j=>!zcW (bt s j)) (a:=0) (n:=s.size) (fun j _ g2=>by show (!zcW (bt s j))=true;rw[hn j (by omega)];rfl);unfold zbN;rw[this]
 omega
def zhn (s:ByteArray):Int:=if zbN s<s.size then (zbN s:Int) else -1
theorem zsJ (s:ByteArray):decide (0≤zhn s)=!zb3 (fun c=>!zcW c) s:=by
 obtain ⟨_,h2,h3⟩:=zio s;unfold zhn
 by_cases h:zbN s<s.size
 ·rw[if_pos h,decide_eq_true (by omega),zaB h (by rw[h3 h];rfl)];rfl
 ·rw[if_neg h,decide_eq_false (by omega),zaU (fun j hj=>by rw[h2 j (by omega)];rfl)];rfl
def zob:ByteArray:=⟨#[32,9,44]⟩
set_option maxRecDepth 100000 in
set_option maxHeartbeats 4000000 in
theorem zfk (w:World):
  Calls Tryz.prog 193 #[.string ⟨#[32,9,44]⟩,.int .i32 65533] w fun e w'=>e= .returned (.int .i64 (-1))∧Below w.heap.size w w':=by
 have n0:=fun ty=>run_next_ascii (P:=Tryz.prog) w zob 0 ty (by decide) (by decide)
 have n1:=fun ty=>run_next_ascii (P:=Tryz.prog) w zob 1 ty (by decide) (by decide)
 have n2:=fun ty=>run_next_ascii (P:=Tryz.prog) w zob 2 ty (by decide) (by decide)
 have n3:=fun ty=>run_next_end (P:=Tryz.prog) w zob 3 ty (by decide)
 unfold zob at n0 n1 n2 n3
 go_enter Tryz.func193,Tryz.ntmps193
 go_wp2
 go_loopg [5,6] 3 (fun g _ _ wx=>∃i:Nat,i+g=3∧wx=w.iter ⟨#[32,9,44]⟩ i)
 case atStart=>exact ⟨0,by omega,rfl⟩
 case round=>
  obtain ⟨i,hig,rfl⟩:=hrel;have hcase:(gk=0∧i=3)∨(gk=1∧i=2)∨(gk=2∧i=1)∨(gk=3∧i=0):=by omega
  rcases hcase with ⟨rfl,rfl⟩|⟨rfl,rfl⟩|⟨rfl,rfl⟩|⟨rfl,rfl⟩
  ·go_wp2
   go_ret
   exact ⟨rfl,(Below.refl _ w).alloc (Nat.le_refl _) _⟩
  ·go_wp2
   go_roundg 0
   case measure=>omega
   case rel=>exact ⟨3,by omega,rfl⟩
  ·go_wp2
   go_roundg 1
   case measure=>omega
   case rel=>exact ⟨2,by omega,rfl⟩
  ·go_wp2
   go_roundg 2
   case measure=>omega
   case rel=>exact ⟨1,by omega,rfl⟩
set_option maxRecDepth 100000 in
set_option maxHeartbeats 4000000 in
theorem zfg (r:Int) (w:World) (h1:128≤r) (hr:r≤2147483647) (he:¬r=65533) (hv:Lib.validRune r=false):
  Calls Tryz.prog 193 #[.string ⟨#[32,9,44]⟩,.int .i32 r] w fun e w'=>e= .returned (.int .i64 (-1))∧Below w.heap.size w w':=by
 have hne:(r==65533)=false:=beq_eq_false_iff_ne.2 he;have HV:=hid (fun w=>Tryz.utf8_ValidRune r w);rw[hv] at HV;clear he hv
 go_enter Tryz.func193,Tryz.ntmps193
 go_wp2_with fail
 refine (HV.out _).mono ?_;rintro e w' ⟨rfl,rfl⟩
 go_wp2
 go_ret
 exact ⟨rfl,Below.refl _ _⟩
theorem zrN {b:Int} (h:128≤b):za7 (ByteArray.extract ⟨#[32,9,44]⟩ (1+1) (ByteArray.size ⟨#[32,9,44]⟩)) b=-1:=by
 refine zhy fun j _ hj=>?_
 have e:j=0:=by
  have:(ByteArray.extract ⟨#[32,9,44]⟩ (1+1) (ByteArray.size ⟨#[32,9,44]⟩)).size=1:=rfl
  omega
 subst e;have:bt (ByteArray.extract ⟨#[32,9,44]⟩ (1+1) (ByteArray.size ⟨#[32,9,44]⟩)) 0=44:=rfl;show (!decide (_=b))=true;rw[this,decide_eq_false (by omega)];rfl
set_option maxRecDepth 100000 in
set_option maxHeartbeats 4000000 in
theorem zf3 (r:Int) (w:World) (h1:128≤r) (hr:r≤2147483647) (he:¬r=65533) (hv:Lib.validRune r=true):
  Calls Tryz.prog 193 #[.string ⟨#[32,9,44]⟩,.int .i32 r] w fun e w'=>e= .returned (.int .i64 (-1))∧Below w.heap.size w w':=by
 have hne:(r==65533)=false:=beq_eq_false_iff_ne.2 he;have HV:=hid (fun w=>Tryz.utf8_ValidRune r w);have hvv:Utf8.valid r=true:=by rw[Go.validRune_eq];exact hv
 rw[hv] at HV;obtain ⟨f1,f2,f3⟩:=encode_facts r hvv h1;have hcv:(convert 21 9 (.int .i32 r)).run Tryz.prog w= .ok (.string (Utf8.encode r)) w:=run_convert_int_string w _ _ _ _ (by kernel_rfl) Tryz.underlying9;generalize Utf8.encode r=u at *;have f3:=f3 (by omega);clear he hv hvv;have hz:u.size=2∨u.size=3∨3<u.size:=by omega
 rcases hz with hz|hz|hz
 ·have hb1:((u[1]'(by omega)).toNat:Int)=bt u 1:=zE (by omega)
  have hb128:128≤bt u 1:=by
   rw[←hb1];have e:u.size - 1=1:=by omega
   simp only[e] at f3
   omega
  obtain ⟨two,htwo⟩:∃t:ByteArray,t=⟨#[32,9,44]⟩:=⟨_,rfl⟩;have hsz:two.size=3:=by rw[htwo];rfl
  have h1z:1<two.size:=by omega
  obtain ⟨k,hk1⟩:∃k:Nat,k=1:=⟨_,rfl⟩;have hkz:k<two.size:=by omega
  have hq:(((two[k]'hkz).toNat:Nat):Int)=9:=by
   rw[zE hkz,htwo,hk1];rfl
  have hne63:((9:Int)!=bt u 1)=true:=by rw[bne_iff_ne];omega
  have hkn:k+1≤two.size:=by omega
  have hki:(k:Int)+1≤(two.size:Int):=by omega
  have hk0:(0:Int)≤(k:Int)+1:=by omega
  have hkt:((k:Int)+1).toNat=k+1:=by omega
  have hkw:IntKind.i64.wrap ((k:Int)+1)=(k:Int)+1:=IntWalk.i64_in _ (by omega);have hlt:(k:Int)<(two.size:Int):=by omega
  clear f3;have HI:=hid (fun w=>(za2 (ByteArray.extract two (k+1) two.size) (bt u 1) w (zbS u 1) (zdQ u 1)).mono (R':=fun e w'=>e= .returned (.int .i64 (-1))∧w=w') fun _ _ ⟨he,hw⟩=>⟨by rw[he,htwo,hk1,zrN hb128],hw⟩);rw[←htwo];have HK:=hid hk1;clear htwo hsz hk1
  go_enter Tryz.func193,Tryz.ntmps193
  go_wp2_with fail
  refine (HV.out _).mono ?_;rintro e w' ⟨rfl,rfl⟩
  go_wp2
  go_step3
  go_wp2
  go_loopg [9] 0 (fun _ x wx=>x= .int .i64 k∧wx=w')
  case atStart=>exact ⟨by rw[HK.out];rfl,rfl⟩
  case round=>
   obtain ⟨rfl,rfl⟩:=hrel
   go_wp2
   go_step3
   go_wp2_with fail
   go_region_held3 (fun _=>True) (trivial) (first|(go_at_call 101;(with_reducible refine (HI.out _).mono ?_);rintro e w2 ⟨rfl,rfl⟩))
   all_goals
    go_wp2
    go_region_held3 (fun _=>True) (trivial) (first|(go_at_call 101;(with_reducible refine (HI.out _).mono ?_);rintro e w2 ⟨rfl,rfl⟩))
    all_goals
     go_wp2
     rw[Exit.noGoto_ret]
     go_wp2
     try rw[Exit.noGoto_ret]
     go_ret
     exact ⟨rfl,zar (zar (Below.refl _ _))⟩
 ·have hb1:((u[2]'(by omega)).toNat:Int)=bt u 2:=zE (by omega)
  have hb128:128≤bt u 2:=by
   rw[←hb1];have e:u.size - 1=2:=by omega
   simp only[e] at f3
   omega
  obtain ⟨two,htwo⟩:∃t:ByteArray,t=⟨#[32,9,44]⟩:=⟨_,rfl⟩;have hsz:two.size=3:=by rw[htwo];rfl
  have h1z:2<two.size:=by omega
  obtain ⟨k,hk1⟩:∃k:Nat,k=2:=⟨_,rfl⟩;have hkz:k<two.size:=by omega
  have hq:(((two[k]'hkz).toNat:Nat):Int)=44:=by
   rw[zE hkz,htwo,hk1];rfl
  have hne63:((44:Int)!=bt u 2)=true:=by rw[bne_iff_ne];omega
  have hkn:k+1≤two.size:=by omega
  have hki:(k:Int)+1≤(two.size:Int):=by omega
  have hk0:(0:Int)≤(k:Int)+1:=by omega
  have hkt:((k:Int)+1).toNat=k+1:=by omega
  have hkw:IntKind.i64.wrap ((k:Int)+1)=(k:Int)+1:=IntWalk.i64_in _ (by omega);have hlt:(k:Int)<(two.size:Int):=by omega
  clear f3;have HI:=hid (fun w=>(za2 (ByteArray.extract two (k+1) two.size) (bt u 2) w (zbS u 2) (zdQ u 2)).mono (R':=fun e w'=>e= .returned (.int .i64 (-1))∧w=w') fun _ _ ⟨he,hw⟩=>⟨by rw[he,htwo,hk1];rfl,hw⟩);rw[←htwo];have HK:=hid hk1;clear htwo hsz hk1
  go_enter Tryz.func193,Tryz.ntmps193
  go_wp2_with fail
  refine (HV.out _).mono ?_;rintro e w' ⟨rfl,rfl⟩
  go_wp2
  go_step3
  go_wp2
  go_loopg [9] 0 (fun _ x wx=>x= .int .i64 k∧wx=w')
  case atStart=>exact ⟨by rw[HK.out];rfl,rfl⟩
  case round=>
   obtain ⟨rfl,rfl⟩:=hrel
   go_wp2
   go_step3
   go_wp2_with fail
   go_region_held3 (fun _=>True) (trivial) (first|(go_at_call 101;(with_reducible refine (HI.out _).mono ?_);rintro e w2 ⟨rfl,rfl⟩))
   all_goals
    go_wp2
    go_region_held3 (fun _=>True) (trivial) (first|(go_at_call 101;(with_reducible refine (HI.out _).mono ?_);rintro e w2 ⟨rfl,rfl⟩))
    all_goals
     go_wp2
     rw[Exit.noGoto_ret]
     go_wp2
     try rw[Exit.noGoto_ret]
     go_ret
     exact ⟨rfl,zar (zar (Below.refl _ _))⟩
 ·have hl:((u.size:Int) - 1).toNat=u.size - 1:=by omega
  have hn2:¬(u.size:Int) - 1<3:=by omega
  go_enter Tryz.func193,Tryz.ntmps193
  go_wp2_with fail
  refine (HV.out _).mono ?_;rintro e w' ⟨rfl,rfl⟩
  go_wp2
  go_step3
  go_wp2
  go_loopg [9] 0 (fun _ x wx=>x= .int .i64 ((u.size:Int) - 1)∧wx=w')
  case atStart=>exact ⟨rfl,rfl⟩
  case round=>
   obtain ⟨rfl,rfl⟩:=hrel
   go_wp2
   rw[Exit.noGoto_ret];go_ret;exact ⟨rfl,Below.refl _ _⟩
theorem zfo (b:Int) (w:World) (h0:0≤b) (h1:b<128):
  Calls Tryz.prog 193 #[.string ⟨#[32,9,44]⟩,.int .i32 b] w fun e w'=>e= .returned (.int .i64 (za7 ⟨#[32,9,44]⟩ b))∧Below w.heap.size w w':=
 (Tryz.strings_IndexRune_ascii _ b w h0 h1).mono fun _ _ ⟨he,hw⟩=>⟨by rw[he,zda _ b h0 (by omega)],by rw[hw];exact Below.refl _ _⟩
def zc1 (r:Int):Int:=if r=32 then 0 else if r=9 then 1 else if r=44 then 2 else -1
theorem zfp (r:Int) (w:World) (h0:0≤r) (hr:r≤2147483647):
  Calls Tryz.prog 193 #[.string ⟨#[32,9,44]⟩,.int .i32 r] w fun e w'=>e= .returned (.int .i64 (zc1 r))∧Below w.heap.size w w':=by
 by_cases h:r<128
 ·refine (zfo r w h0 h).mono ?_
  rintro e w' ⟨rfl,hb⟩;refine ⟨?_,hb⟩;have key:∀k:Fin 128,za7 ⟨#[32,9,44]⟩ ((k.1:Nat):Int)=zc1 ((k.1:Nat):Int):=by decide +kernel
  have:=key ⟨r.toNat,by omega⟩;rw[show ((r.toNat:Nat):Int)=r by omega] at this;rw[this]
 ·have e:zc1 r=-1:=by unfold zc1;rw[if_neg (by omega),if_neg (by omega),if_neg (by omega)]
  rw[e]
  by_cases he:r=65533
  ·rw[he];exact zfk w
  ·cases hv:Lib.validRune r
   ·exact zfg r w (by omega) hr he hv
   ·exact zf3 r w (by omega) hr he hv
set_option maxRecDepth 100000 in
set_option maxHeartbeats 4000000 in
theorem zeD (s:ByteArray) (w:World) (h8:s.size≤8):
  Calls Tryz.prog 152 #[.string s,.string ⟨#[32,9,44]⟩] w fun e w'=>e= .returned (.int .i64 (zhn s))∧Below w.heap.size w w':=by
 have HT:=hid (fun r w=>zfp r w);have h8':decide ((8:Int)<(s.size:Int))=false:=decide_eq_false (by omega);have HA:=hid (fun w=>Tryz.strings_shouldUseASCIISet s.size w);rw[h8'] at HA;clear h8' h8
 go_enter Tryz.func152,Tryz.ntmps152
 go_wp2_with fail
 refine (HA.out _).mono ?_;rintro e w' ⟨rfl,rfl⟩
 go_wp2
 go_loopg [9,10] s.size (fun g _ _ wx=>∃i:Nat,i+g=s.size∧wx.heap[w'.heap.size]?=some (.stringIter s i)∧Below w'.heap.size w' wx∧∀j,j<i→zcW (bt s j)=false)
 case atStart=>exact ⟨0,by omega,w'.iter_heap s 0,(Below.refl _ _).alloc (Nat.le_refl _) _,by omega⟩
 case round=>
  obtain ⟨i,hig,hk,hbw,hno⟩:=hrel;have HN:=hid hno;clear hno
  by_cases hi:i<s.size
  ·have hnx:=fun ty=>run_next_any_at (P:=Tryz.prog) wr w'.heap.size s i ty hk hi
   have hk':=iterAt_heap wr w'.heap.size s i (i+(Utf8.decode s i).2) hk;have hb':=below_iterAt hbw (Nat.le_refl _) s (i+(Utf8.decode s i).2);have hr1:=decode_le s i;have HC:=hid (T5.dec_cases s i hi);generalize hr:(Utf8.decode s i).1=r at *;generalize hn:(Utf8.decode s i).2=n at *;generalize wr.iterAt w'.heap.size s (i+n)=w1 at *;have HT':=hid (fun w=>HT.out r w (by omega) (by omega));clear HT hk hbw hr hn
   rcases HC.out with ⟨c1,c2,c3⟩|⟨c1,c2,c3⟩
   ·subst c3
    by_cases hx:zcW (bt s i)=true
    ·have e:0≤zc1 r:=by
      have:=hx;simp only[zcW,Bool.or_eq_true,decide_eq_true_eq] at this;unfold zc1
      omega
     have ea:zhn s=i:=by
      have:=zqL (s:=s) (k:=i) hi HN.out hx;unfold zhn;rw[this,if_pos hi]
     clear c1 c2 HC;generalize zc1 r=x at *
     go_wp2_with fail
     refine (HT'.out _).mono ?_;rintro e w2 ⟨rfl,b2⟩
     go_wp2
     go_ret
     exact ⟨by rw[ea];rfl,hb'.trans (b2.mono hb'.size)⟩
    ·have e:zc1 r=-1:=by
      have:=hx;simp only[zcW,Bool.or_eq_true,decide_eq_true_eq] at this;unfold zc1
      omega
     have hno':∀j,j<i+1→zcW (bt s j)=false:=by
      intro j g2
      by_cases g:j<i
      ·exact HN.out j g
      ·obtain rfl:j=i:=by omega
       exact Bool.eq_false_iff.2 hx
     have HN':=hid hno';rw[e] at HT';clear hno' c1 c2 HC e
     go_wp2_with fail
     refine (HT'.out _).mono ?_;rintro e w2 ⟨rfl,b2⟩
     go_wp2
     go_roundg (s.size - (i+1))
     case measure=>omega
     case rel=>exact ⟨i+1,by omega,by rw[b2.block _ (by have:=(Array.getElem?_eq_some_iff.1 hk').1;omega)];exact hk',hb'.trans (b2.mono hb'.size),HN'.out⟩
   ·have e:zc1 r=-1:=by unfold zc1;omega
    have hno':∀j,j<i+n→zcW (bt s j)=false:=by
     intro j g2
     by_cases g:j<i
     ·exact HN.out j g
     ·have:=c3 j (by omega) g2
      unfold zcW;rw[decide_eq_false (by omega),decide_eq_false (by omega),decide_eq_false (by omega)];rfl
    have hle:i+n≤s.size:=by
     by_cases g:s.size<i+n
     ·have:=c3 s.size (by omega) g
      rw[T5.bt_out s (Nat.le_refl _)] at this
      omega
     ·omega
    have HN':=hid hno';rw[e] at HT';clear hno' c1 c3 HC e
    go_wp2_with fail
    refine (HT'.out _).mono ?_;rintro e w2 ⟨rfl,b2⟩
    go_wp2
    go_roundg (s.size - (i+n))
    case measure=>omega
    case rel=>exact ⟨i+n,by omega,by rw[b2.block _ (by have:=(Array.getElem?_eq_some_iff.1 hk').1;omega)];exact hk',hb'.trans (b2.mono hb'.size),HN'.out⟩
  ·have hnx:=fun ty=>run_next_end_at (P:=Tryz.prog) wr w'.heap.size s i ty hk hi
   go_wp2
   go_ret
   have:zbN s=s.size:=znG (fun j g2=>HN.out j (by omega));exact ⟨by unfold zhn;rw[this,if_neg (by omega)];rfl,hbw⟩
theorem zqf (s:ByteArray):Lib.indexAny s.data.toList [32,9,44]=zhn s:=by
 have hc:∀b:UInt8,([32,9,44]:List UInt8).contains b=zcW (b.toNat:Int):=by
  intro b;have h:∀k:Fin 256,([32,9,44]:List UInt8).contains (UInt8.ofNat k.val)=zcW ((UInt8.ofNat k.val).toNat:Int):=by decide +kernel
  have:=h ⟨b.toNat,b.toNat_lt⟩
  simpa using this
 have hb:∀j (h:j<s.size) b,s.data.toList[j]?=some b→bt s j=b.toNat:=by
  intro j h b e;unfold bt;rw[List.getD_eq_getElem?_getD,e]
  rfl
 obtain ⟨h2,h3,h4⟩:=zio s;have hno:Lib.NoAny s.data.toList [32,9,44] (zbN s):=by
  intro j b hj hjb;have:=h3 j hj;rw[hb j (by omega) b hjb] at this;rw[hc,this]
 unfold zhn
 by_cases h:zbN s<s.size
 ·rw[if_pos h]
  have hx:s.data.toList[zbN s]?=some (s[zbN s]'h):=Lib.data_getElem? s _ h;refine Lib.indexAny_hit hno hx ?_;have:=h4 h;rw[hb _ h _ hx] at this;rw[hc,this]
 ·rw[if_neg h]
  refine Lib.indexAny_none ?_;rw[←Lib.size_eq,show s.size=zbN s by omega];exact hno
theorem zf4 (s:ByteArray) (w:World) (hs:s.size≤4194304):
  Calls Tryz.prog 152 #[.string s,.string ⟨#[32,9,44]⟩] w fun e w'=>e= .returned (.int .i64 (zhn s))∧Below w.heap.size w w':=by
 by_cases h8:s.size≤8
 ·exact zeD s w h8
 ·refine (Tryz.strings_IndexAny_long T5.zero102 s ⟨#[32,9,44]⟩ w (by show 2≤3;omega) (by omega) (by omega) (by show 3<4294967281;omega) ?_).mono ?_
  ·intro j b hj
   have:b∈([32,9,44]:List UInt8):=List.mem_of_getElem? hj;simp at this
   rcases this with rfl|rfl|rfl<;>decide
  ·rintro e w' ⟨rfl,rfl⟩
   exact ⟨by rw[show (⟨#[32,9,44]⟩:ByteArray).data.toList=[32,9,44] from rfl,zqf],((Below.refl _ _).alloc (Nat.le_refl _) _).alloc (by simp) _⟩
set_option maxRecDepth 20000 in
theorem zjJ (s:ByteArray) (w:World) (hs:s.size≤4194304):
  Calls Tryz.prog 109 #[.string s,.string ⟨#[32,9,44]⟩] w fun e w'=>e= .returned (.bool (!zb3 (fun c=>!zcW c) s))∧Below w.heap.size w w':=by
 have HI:=hid (fun w=>zf4 s w hs);have HE:=hid (zsJ s);generalize zhn s=x at *
 go_enter Tryz.func109,Tryz.ntmps109
 go_wp2_with fail
 refine (HI.out _).mono ?_;rintro e w1 ⟨rfl,b1⟩
 go_wp2
 go_ret
 exact ⟨zd HE.out,b1⟩
theorem Row.pre {w:World} {A:Option Addr} {xs ys:List Value} (h:Row w A (xs++ys)):Row w A xs:=fun hl=>by
 obtain ⟨b,off,e,hb,hc⟩:=h (by rw[List.length_append];omega);refine ⟨b,off,e,hb,fun j v hv=>hc j v ?_⟩;rw[List.getElem?_append_left (List.getElem?_eq_some_iff.1 hv).1];exact hv
theorem Row.upto {w:World} {A:Option Addr} {l:List ByteArray} (h:Row w A (l.map .string)) (k:Nat):Row w A ((l.take k).map .string):=by
 have e:l.map Value.string=(l.take k).map Value.string++(l.drop k).map Value.string:=by rw[←List.map_append,List.take_append_drop]
 rw[e] at h;exact h.pre
theorem zh4 {α:Type} {l:List α} {k:Nat} (h:k≤l.length):(l.take k).length=k:=by rw[List.length_take];omega
theorem zfM {m:zY} {s:ByteArray} (h:m.list[0]?=some s):zaW m=decide (s=zcl):=by
 unfold zaW;rw[List.head?_eq_getElem?,h]
 by_cases e:s=zcl
 ·rw[e];simp
 ·rw[decide_eq_false e,decide_eq_false (fun g=>e (Option.some.inj g))]
theorem ze5 (s:ByteArray):(s.toList==[42])=decide (s=zcl):=by
 rw[Bool.eq_iff_iff,beq_iff_eq,decide_eq_true_eq]
 constructor
 ·intro h
  exact zV (by rw[←Lib.toList_data];exact h)
 ·intro h
  rw[h,Lib.toList_data];rfl
theorem ztC (w:World) {n:Nat} (hn:n=w.heap.size):(w.alloc (.cells #[.string ⟨#[86,97,114,121]⟩,.string ⟨#[79,114,105,103,105,110]⟩] 59)).ownsRow n 59 2 (.slice (some ⟨n,0,none⟩) 1 1) 1 (zj [zn5]):=by
 subst hn;exact World.ownsRow_lit w #[.string ⟨#[86,97,114,121]⟩,.string ⟨#[79,114,105,103,105,110]⟩] 1 (Nat.le_refl _) (by unfold maxLen;omega) rfl
set_option maxRecDepth 20000 in
theorem zlw (m:zY) (A:Option Addr) (c:Nat) (w:World) (hr:Row w A (m.list.map .string)) (h0:0<m.list.length):
  Calls Tryz.prog 111 #[zL m A c] w (zgf 59 w (zb2 m)):=by
 obtain ⟨s,hs⟩:=zD h0;obtain ⟨b,off,rfl,hb,hc⟩:=hr.str hs;rw[Nat.add_zero] at hc;have hst:=ze5 s;have HV:=hid (show zb2 m=if decide (s=zcl)=true then [] else [zn5] by unfold zb2;rw[zfM hs]);have hi0:(0:Int)<(m.list.length:Int):=by omega
 generalize zb2 m=vp at *;clear hs;unfold zL
 cases hd:decide (s=zcl)
 ·rw[hd] at HV hst
  have HO:=hid (ztC (w.alloc (.cells #[.int .i64 m.kind,.string m.name,.string m.value,.slice (some ⟨b,off,none⟩) m.list.length c,.int .i64 m.n] 24)) (n:=w.heap.size+1) (by simp))
  go_enter Tryz.func111,Tryz.ntmps111
  go_wp2
  go_ret
  have e:=HV.out;simp at e;subst e;exact ⟨_,1,rfl,zn HO.out (by omega),((Below.refl _ w).alloc (Nat.le_refl _) _).alloc (by simp) _⟩
 ·rw[hd] at HV hst
  go_enter Tryz.func111,Tryz.ntmps111
  go_wp2
  go_ret
  have e:=HV.out;simp at e;subst e;exact ⟨none,0,rfl,World.ownsRow_nil _ _ _ _,(Below.refl _ w).alloc (Nat.le_refl _) _⟩
set_option maxRecDepth 20000 in
set_option maxHeartbeats 1000000 in
theorem zlG (A:Option Addr) (c:Nat) (l:List ByteArray) (w:World) (hr:Row w A (l.map .string)) (hc:l.length≤c) (hl:l.length≤1048576) (hz:∀s∈l,s.size≤1048576) (hg:Glob w):
  Calls Tryz.prog 61 #[.slice A l.length c] w fun e w'=>e= .returned (.bool (zcw [] l&&decide (0<l.length)))∧w=w':=by
 have HZ:=hid hz;have HT:=hid (fun (s:ByteArray) (hs:s.size≤maxLen)=>zd9 s w hs hg);have HC:=hid (fun (k:Nat) (s:ByteArray) (hk:k≤l.length)=>(show Calls Tryz.prog 95 #[.slice A k c,.string s] w fun e w'=>e= .returned (.bool (zb5 (l.take k) s))∧w=w' by
  have h:=zcC A c (l.take k) s w (hr.upto k) (by rw[zh4 hk];omega);rw[zh4 hk] at h;exact h))
 have HR:=hid hr;have hcl:(l.length:Int)≤c:=by omega
 clear hz hr
 go_enter Tryz.func61,Tryz.ntmps61
 go_wp2
 go_loop [7] (fun i=>∃k:Nat,k≤l.length∧i= .int .i64 k∧Hid (zcw (l.take k) (l.drop k)=zcw [] l)) (fun i=>l.length - (RowKit.intOf i).toNat)
 case atStart=>exact ⟨0,Nat.zero_le _,rfl,hid rfl⟩
 case round=>
  obtain ⟨k,hk,rfl,HF⟩:=hrel
  by_cases hlt:k<l.length
  ·obtain ⟨s,hs⟩:=zD hlt
   obtain ⟨b,off,rfl,hb,hcell⟩:=HR.out.str hs;have hsz:s.size≤maxLen:=by have:=HZ.out s (List.mem_of_getElem? hs);unfold maxLen;omega
   have hf:=zoj hs;rw[HF.out] at hf;have HF2:=hid hf;have HTs:=hid (HT.out s hsz);have HCs:=hid (HC.out k s hk);have hkc:k≤c:=by omega
   clear hf hs HF hsz
   cases h1:zbn s
   ·rw[h1] at HTs HF2
    go_wp2_with fail
    refine HTs.out.mono ?_;rintro e w1 ⟨rfl,rfl⟩
    go_wp2
    go_ret
    exact ⟨zd (by rw[HF2.out];simp),rfl⟩
   ·rw[h1] at HTs HF2
    go_wp2_with fail
    refine HTs.out.mono ?_;rintro e w1 ⟨rfl,rfl⟩
    cases h2:zb5 (l.take k) s
    ·rw[h2] at HCs HF2
     go_wp2_with fail
     refine HCs.out.mono ?_;rintro e w1 ⟨rfl,rfl⟩
     go_wp2
     go_round
     case rel=>exact ⟨k+1,by omega,by go_num,hid (by rw[HF2.out];simp)⟩
     case measure=>simp[RowKit.intOf];omega
    ·rw[h2] at HCs HF2
     go_wp2_with fail
     refine HCs.out.mono ?_;rintro e w1 ⟨rfl,rfl⟩
     go_wp2
     go_ret
     exact ⟨zd (by rw[HF2.out];simp),rfl⟩
  ·obtain rfl:k=l.length:=by omega
   have hf:=HF.out;rw[zml] at hf;have HF2:=hid hf;clear hf HF
   go_wp2
   go_ret
   exact ⟨zd (by rw[←HF2.out];simp),rfl⟩
end Go.Proofs.YtbnafbdhomdcoaaGreatDoor
