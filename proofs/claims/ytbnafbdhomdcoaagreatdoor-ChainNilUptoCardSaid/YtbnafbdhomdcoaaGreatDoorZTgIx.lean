/-
 TgIx, without what this claim does not reach.
-/
import Derived.Test.YtbnafbdhomdcoaaGreatDoorZm1
import Derived.Test.YtbnafbdhomdcoaaGreatDoorZTgEn
import Derived.Laws.RangeAny
import Derived.Laws.Runes
import Derived.Deep.LoopGhost
import Derived.Lib.IndexAny
import Derived.Shelf.Strings.IndexAnyAll
namespace Go.Proofs.YtbnafbdhomdcoaaGreatDoor.T5
open Go.RowKit Go.Shelf Go.Lib
def two:ByteArray:=⟨#[47,63]⟩
set_option maxRecDepth 100000 in
set_option maxHeartbeats 4000000 in
theorem zfk (w:World):
  Calls Tryz.prog 193 #[.string ⟨#[47,63]⟩,.int .i32 65533] w fun e w'=>e= .returned (.int .i64 (-1))∧Below w.heap.size w w':=by
 have n0:=fun ty=>run_next_ascii (P:=Tryz.prog) w two 0 ty (by decide) (by decide)
 have n1:=fun ty=>run_next_ascii (P:=Tryz.prog) w two 1 ty (by decide) (by decide)
 have n2:=fun ty=>run_next_end (P:=Tryz.prog) w two 2 ty (by decide)
 unfold two at n0 n1 n2
 go_enter Tryz.func193,Tryz.ntmps193
 go_wp2
 go_loopg [5,6] 2 (fun g _ _ wx=>∃i:Nat,i+g=2∧wx=w.iter ⟨#[47,63]⟩ i)
 case atStart=>exact ⟨0,by omega,rfl⟩
 case round=>
  obtain ⟨i,hig,rfl⟩:=hrel;have hcase:(gk=0∧i=2)∨(gk=1∧i=1)∨(gk=2∧i=0):=by omega
  rcases hcase with ⟨rfl,rfl⟩|⟨rfl,rfl⟩|⟨rfl,rfl⟩
  ·go_wp2
   go_ret
   exact ⟨rfl,(Below.refl _ w).alloc (Nat.le_refl _) _⟩
  ·go_wp2
   go_roundg 0
   case measure=>omega
   case rel=>exact ⟨2,by omega,rfl⟩
  ·go_wp2
   go_roundg 1
   case measure=>omega
   case rel=>exact ⟨1,by omega,rfl⟩
set_option maxRecDepth 100000 in
set_option maxHeartbeats 4000000 in
theorem zfg (r:Int) (w:World) (h1:128≤r) (hr:r≤2147483647) (he:¬r=65533) (hv:Lib.validRune r=false):
  Calls Tryz.prog 193 #[.string ⟨#[47,63]⟩,.int .i32 r] w fun e w'=>e= .returned (.int .i64 (-1))∧Below w.heap.size w w':=by
 have hne:(r==65533)=false:=beq_eq_false_iff_ne.2 he;have HV:=hid (fun w=>Tryz.utf8_ValidRune r w);rw[hv] at HV;clear he hv
 go_enter Tryz.func193,Tryz.ntmps193
 go_wp2_with fail
 refine (HV.out _).mono ?_;rintro e w' ⟨rfl,rfl⟩
 go_wp2
 go_ret
 exact ⟨rfl,Below.refl _ _⟩
set_option maxRecDepth 100000 in
set_option maxHeartbeats 4000000 in
theorem zf3 (r:Int) (w:World) (h1:128≤r) (hr:r≤2147483647) (he:¬r=65533) (hv:Lib.validRune r=true):
  Calls Tryz.prog 193 #[.string ⟨#[47,63]⟩,.int .i32 r] w fun e w'=>e= .returned (.int .i64 (-1))∧Below w.heap.size w w':=by
 have hne:(r==65533)=false:=beq_eq_false_iff_ne.2 he;have HV:=hid (fun w=>Tryz.utf8_ValidRune r w);have hvv:Utf8.valid r=true:=by rw[Go.validRune_eq];exact hv
 rw[hv] at HV;obtain ⟨f1,f2,f3⟩:=encode_facts r hvv h1;have hcv:(convert 21 9 (.int .i32 r)).run Tryz.prog w= .ok (.string (Utf8.encode r)) w:=run_convert_int_string w _ _ _ _ (by kernel_rfl) Tryz.underlying9;generalize Utf8.encode r=u at *;have f3:=f3 (by omega);clear he hv hvv;have hz:u.size=2∨2<u.size:=by omega
 rcases hz with hz|hz
 ·have hb1:((u[1]'(by omega)).toNat:Int)=bt u 1:=zE (by omega)
  have hb128:128≤bt u 1:=by
   rw[←hb1];have e:u.size - 1=1:=by omega
   simp only[e] at f3
   omega
  obtain ⟨two,htwo⟩:∃t:ByteArray,t=⟨#[47,63]⟩:=⟨_,rfl⟩;have hsz:two.size=2:=by rw[htwo];rfl
  have h1z:1<two.size:=by omega
  obtain ⟨k,hk1⟩:∃k:Nat,k=1:=⟨_,rfl⟩;have hkz:k<two.size:=by omega
  have hq:(((two[k]'hkz).toNat:Nat):Int)=63:=by
   rw[zE hkz,htwo,hk1];rfl
  have hne63:((63:Int)!=bt u 1)=true:=by rw[bne_iff_ne];omega
  have hkn:k+1≤two.size:=by omega
  have hki:(k:Int)+1≤(two.size:Int):=by omega
  have hk0:(0:Int)≤(k:Int)+1:=by omega
  have hkt:((k:Int)+1).toNat=k+1:=by omega
  have hkw:IntKind.i64.wrap ((k:Int)+1)=(k:Int)+1:=IntWalk.i64_in _ (by omega);have hlt:(k:Int)<(two.size:Int):=by omega
  clear f3;have HI:=hid (fun w=>(za2 (ByteArray.extract two (k+1) two.size) (bt u 1) w (zbS u 1) (zdQ u 1)).mono (R':=fun e w'=>e= .returned (.int .i64 (-1))∧w=w') fun _ _ ⟨he,hw⟩=>⟨by rw[he,htwo,hk1];rfl,hw⟩);rw[←htwo];have HK:=hid hk1;clear htwo hsz hk1
  go_enter Tryz.func193,Tryz.ntmps193
  go_wp2_with fail
  refine (HV.out _).mono ?_;rintro e w' ⟨rfl,rfl⟩
  go_wp2
  go_step3
  go_wp2
  go_loopg [9] 0 (fun _ x wx=>x= .int .i64 k∧wx=w')
  case atStart=>exact ⟨by rw[HK.out];rfl,rfl⟩
  case round=>
   obtain ⟨rfl,rfl⟩:=hrel
   go_wp2
   go_step3
   go_wp2_with fail
   go_region_held3 (fun _=>True) (trivial) (first|(go_at_call 101;(with_reducible refine (HI.out _).mono ?_);rintro e w2 ⟨rfl,rfl⟩))
   all_goals
    go_wp2
    go_region_held3 (fun _=>True) (trivial) (first|(go_at_call 101;(with_reducible refine (HI.out _).mono ?_);rintro e w2 ⟨rfl,rfl⟩))
    all_goals
     go_wp2
     rw[Exit.noGoto_ret]
     go_wp2
     try rw[Exit.noGoto_ret]
     go_ret
     exact ⟨rfl,zar (zar (Below.refl _ _))⟩
 ·have hl:((u.size:Int) - 1).toNat=u.size - 1:=by omega
  have hn2:¬(u.size:Int) - 1<2:=by omega
  go_enter Tryz.func193,Tryz.ntmps193
  go_wp2_with fail
  refine (HV.out _).mono ?_;rintro e w' ⟨rfl,rfl⟩
  go_wp2
  go_step3
  go_wp2
  go_loopg [9] 0 (fun _ x wx=>x= .int .i64 ((u.size:Int) - 1)∧wx=w')
  case atStart=>exact ⟨rfl,rfl⟩
  case round=>
   obtain ⟨rfl,rfl⟩:=hrel
   go_wp2
   rw[Exit.noGoto_ret];go_ret;exact ⟨rfl,Below.refl _ _⟩
theorem dec_cases (s:ByteArray) (i:Nat) (h:i<s.size):
  (bt s i<128∧(Utf8.decode s i).1=bt s i∧(Utf8.decode s i).2=1)∨
  (128≤(Utf8.decode s i).1∧1≤(Utf8.decode s i).2∧∀j,i≤j→j<i+(Utf8.decode s i).2→128≤bt s j):=by
 have hg:∀k,i+k<s.size→(s.get! (i+k)).toNat / 64=2→128≤bt s (i+k):=by
  intro k hk hd;have e:=get_at s (i+k) hk;rw[Nat.add_zero] at e;rw[e] at hd;rw[←zE hk]
  omega
 by_cases ha:(s[i]'h).toNat<128
 ·refine .inl ⟨by rw[←zE h];omega,?_,?_⟩
  ·rw[decode_ascii s i h ha,←zE h]
  ·rw[decode_ascii s i h ha]
 ·refine .inr ⟨(decode_high s i h (by omega)).1,(decode_high s i h (by omega)).2,?_⟩
  have h0:128≤bt s i:=by rw[←zE h];omega
  have key:∀m:Nat,m≤4→(∀k,1≤k→k<m→i+k<s.size∧(s.get! (i+k)).toNat / 64=2)→∀j,i≤j→j<i+m→128≤bt s j:=by
   intro m _ hm j h1 h2
   rcases Nat.eq_or_lt_of_le h1 with rfl|h3
   ·exact h0
   ·obtain ⟨g1,g2⟩:=hm (j - i) (by omega) (by omega)
    have:=hg (j - i) g1 g2;rw[show i+(j - i)=j by omega] at this;exact this
  refine key _ ?_ ?_
  ·simp only[Utf8.decode]
   repeat' split
   all_goals simp
  ·simp only[Utf8.decode]
   repeat' split
   all_goals
    intro k hk1 hk2;have hk3:k=1∨k=2∨k=3:=by
     simp only at hk2
     omega
    simp only[Bool.and_eq_true,decide_eq_true_eq,beq_iff_eq] at *
    rcases hk3 with rfl|rfl|rfl
    all_goals first
     |omega
     |(refine ⟨?_,?_⟩<;>simp_all)
theorem zfo (b:Int) (w:World) (h0:0≤b) (h1:b<128):
  Calls Tryz.prog 193 #[.string ⟨#[47,63]⟩,.int .i32 b] w fun e w'=>e= .returned (.int .i64 (za7 ⟨#[47,63]⟩ b))∧Below w.heap.size w w':=
 (Tryz.strings_IndexRune_ascii _ b w h0 h1).mono fun _ _ ⟨he,hw⟩=>⟨by rw[he,zda _ b h0 (by omega)],by rw[hw];exact Below.refl _ _⟩
def zc1 (r:Int):Int:=if r=47 then 0 else if r=63 then 1 else -1
theorem zfp (r:Int) (w:World) (h0:0≤r) (hr:r≤2147483647):
  Calls Tryz.prog 193 #[.string ⟨#[47,63]⟩,.int .i32 r] w fun e w'=>e= .returned (.int .i64 (zc1 r))∧Below w.heap.size w w':=by
 by_cases h:r<128
 ·refine (zfo r w h0 h).mono ?_
  rintro e w' ⟨rfl,hb⟩;refine ⟨?_,hb⟩;have key:∀k:Fin 128,za7 ⟨#[47,63]⟩ ((k.1:Nat):Int)=zc1 ((k.1:Nat):Int):=by decide +kernel
  have:=key ⟨r.toNat,by omega⟩;rw[show ((r.toNat:Nat):Int)=r by omega] at this;rw[this]
 ·have e:zc1 r=-1:=by unfold zc1;rw[if_neg (by omega),if_neg (by omega)]
  rw[e]
  by_cases he:r=65533
  ·rw[he];exact zfk w
  ·cases hv:Lib.validRune r
   ·exact zfg r w (by omega) hr he hv
   ·exact zf3 r w (by omega) hr he hv
def zjv (s:ByteArray):Int:=if endA s 0<s.size then (endA s 0:Int) else -1
theorem bt_out (s:ByteArray) {k:Nat} (h:s.size≤k):bt s k=0:=by
 have h':s.data.toList.length≤k:=by simpa using h
 unfold bt;rw[List.getD_eq_getElem?_getD,List.getElem?_eq_none h']
 rfl
set_option maxRecDepth 100000 in
set_option maxHeartbeats 4000000 in
theorem zeD (s:ByteArray) (w:World) (h8:s.size≤8):
  Calls Tryz.prog 152 #[.string s,.string ⟨#[47,63]⟩] w fun e w'=>e= .returned (.int .i64 (zjv s))∧Below w.heap.size w w':=by
 have HT:=hid (fun r w=>zfp r w);have h8':decide ((8:Int)<(s.size:Int))=false:=decide_eq_false (by omega);have HA:=hid (fun w=>Tryz.strings_shouldUseASCIISet s.size w);rw[h8'] at HA;clear h8' h8
 go_enter Tryz.func152,Tryz.ntmps152
 go_wp2_with fail
 refine (HA.out _).mono ?_;rintro e w' ⟨rfl,rfl⟩
 go_wp2
 go_loopg [9,10] s.size (fun g _ _ wx=>∃i:Nat,i+g=s.size∧wx.heap[w'.heap.size]?=some (.stringIter s i)∧Below w'.heap.size w' wx∧∀j,0≤j→j<i→bt s j≠47∧bt s j≠63)
 case atStart=>exact ⟨0,by omega,w'.iter_heap s 0,(Below.refl _ _).alloc (Nat.le_refl _) _,by omega⟩
 case round=>
  obtain ⟨i,hig,hk,hbw,hno⟩:=hrel;have HN:=hid hno;clear hno
  by_cases hi:i<s.size
  ·have hnx:=fun ty=>run_next_any_at (P:=Tryz.prog) wr w'.heap.size s i ty hk hi
   have hk':=iterAt_heap wr w'.heap.size s i (i+(Utf8.decode s i).2) hk;have hb':=below_iterAt hbw (Nat.le_refl _) s (i+(Utf8.decode s i).2);have hr1:=decode_le s i;have HC:=hid (dec_cases s i hi);generalize hr:(Utf8.decode s i).1=r at *;generalize hn:(Utf8.decode s i).2=n at *;generalize wr.iterAt w'.heap.size s (i+n)=w1 at *;have HT':=hid (fun w=>HT.out r w (by omega) (by omega));clear HT hk hbw hr hn
   rcases HC.out with ⟨c1,c2,c3⟩|⟨c1,c2,c3⟩
   ·subst c3
    by_cases hx:bt s i=47∨bt s i=63
    ·have e:0≤zc1 r:=by unfold zc1;omega
     have ea:zjv s=i:=by
      have:=endA_at (s:=s) (i:=0) (k:=i) (by omega) hi HN.out hx;unfold zjv;rw[this,if_pos hi]
     clear c1 c2 HC;generalize zc1 r=x at *
     go_wp2_with fail
     refine (HT'.out _).mono ?_;rintro e w2 ⟨rfl,b2⟩
     go_wp2
     go_ret
     exact ⟨by rw[ea];rfl,hb'.trans (b2.mono hb'.size)⟩
    ·have e:zc1 r=-1:=by unfold zc1;omega
     have hno':∀j,0≤j→j<i+1→bt s j≠47∧bt s j≠63:=by
      intro j g1 g2
      by_cases g:j<i
      ·exact HN.out j g1 g
      ·obtain rfl:j=i:=by omega
       omega
     have HN':=hid hno';rw[e] at HT';clear hno' c1 c2 HC e
     go_wp2_with fail
     refine (HT'.out _).mono ?_;rintro e w2 ⟨rfl,b2⟩
     go_wp2
     go_roundg (s.size - (i+1))
     case measure=>omega
     case rel=>exact ⟨i+1,by omega,by rw[b2.block _ (by have:=(Array.getElem?_eq_some_iff.1 hk').1;omega)];exact hk',hb'.trans (b2.mono hb'.size),HN'.out⟩
   ·have e:zc1 r=-1:=by unfold zc1;omega
    have hno':∀j,0≤j→j<i+n→bt s j≠47∧bt s j≠63:=by
     intro j g1 g2
     by_cases g:j<i
     ·exact HN.out j g1 g
     ·have:=c3 j (by omega) g2
      omega
    have hle:i+n≤s.size:=by
     by_cases g:s.size<i+n
     ·have:=c3 s.size (by omega) g
      rw[bt_out s (Nat.le_refl _)] at this
      omega
     ·omega
    have HN':=hid hno';rw[e] at HT';clear hno' c1 c3 HC e
    go_wp2_with fail
    refine (HT'.out _).mono ?_;rintro e w2 ⟨rfl,b2⟩
    go_wp2
    go_roundg (s.size - (i+n))
    case measure=>omega
    case rel=>exact ⟨i+n,by omega,by rw[b2.block _ (by have:=(Array.getElem?_eq_some_iff.1 hk').1;omega)];exact hk',hb'.trans (b2.mono hb'.size),HN'.out⟩
  ·have hnx:=fun ty=>run_next_end_at (P:=Tryz.prog) wr w'.heap.size s i ty hk hi
   go_wp2
   go_ret
   have:endA s 0=s.size:=endA_none (by omega) (fun j g1 g2=>HN.out j g1 (by omega));exact ⟨by unfold zjv;rw[this,if_neg (by omega)];rfl,hbw⟩
theorem zero102:∀w,(zeroValue 164).run Tryz.prog w= .ok (.agg (Array.replicate 256 (.bool false))) w:=(zero_of_info (n:=256) (by kernel_rfl)).1
theorem zqi (s:ByteArray):Lib.indexAny s.data.toList [47,63]=zjv s:=by
 have hc:∀b:UInt8,([47,63]:List UInt8).contains b=(decide (b=47)||decide (b=63)):=by
  intro b;simp
 have hb:∀j (h:j<s.size) b,s.data.toList[j]?=some b→bt s j=b.toNat:=by
  intro j h b e;unfold bt;rw[List.getD_eq_getElem?_getD,e]
  rfl
 obtain ⟨h1,h2,h3,h4⟩:=endA_spec (s:=s) (i:=0) (by omega);have hno:Lib.NoAny s.data.toList [47,63] (endA s 0):=by
  intro j b hj hjb;have:=h3 j (by omega) hj;rw[hb j (by omega) b hjb] at this;rw[hc,decide_eq_false (fun e=>this.1 (by rw[e];rfl)),decide_eq_false (fun e=>this.2 (by rw[e];rfl))]
  rfl
 unfold zjv
 by_cases h:endA s 0<s.size
 ·rw[if_pos h]
  have hx:s.data.toList[endA s 0]?=some (s[endA s 0]'h):=Lib.data_getElem? s _ h;refine Lib.indexAny_hit hno hx ?_;have:=h4 h;rw[hb _ h _ hx] at this;rw[hc]
  rcases this with e|e
  ·rw[decide_eq_true (UInt8.toNat_inj.1 (by have:((47:UInt8).toNat:Int)=47:=rfl;omega))];rfl
  ·rw[decide_eq_true (p:=(s[endA s 0]'h)=63) (UInt8.toNat_inj.1 (by have:((63:UInt8).toNat:Int)=63:=rfl;omega)),Bool.or_true]
 ·rw[if_neg h]
  refine Lib.indexAny_none ?_;rw[←Lib.size_eq,show s.size=endA s 0 by omega];exact hno
theorem zf4 (s:ByteArray) (w:World) (hs:s.size≤4194304):
  Calls Tryz.prog 152 #[.string s,.string ⟨#[47,63]⟩] w fun e w'=>e= .returned (.int .i64 (zjv s))∧Below w.heap.size w w':=by
 by_cases h8:s.size≤8
 ·exact zeD s w h8
 ·refine (Tryz.strings_IndexAny_long zero102 s ⟨#[47,63]⟩ w (by show 2≤2;omega) (by omega) (by omega) (by show 2<4294967281;omega) ?_).mono ?_
  ·intro j b hj
   have:b∈([47,63]:List UInt8):=List.mem_of_getElem? hj;simp at this
   rcases this with rfl|rfl<;>decide
  ·rintro e w' ⟨rfl,rfl⟩
   exact ⟨by rw[show (⟨#[47,63]⟩:ByteArray).data.toList=[47,63] from rfl,zqi],((Below.refl _ _).alloc (Nat.le_refl _) _).alloc (by simp) _⟩
end Go.Proofs.YtbnafbdhomdcoaaGreatDoor.T5
