/-
 TgSp, without what this claim does not reach.
-/
import Derived.Test.YtbnafbdhomdcoaaGreatDoorZTgLib
import Derived.Lib.ItoaLen
namespace Go.Proofs.YtbnafbdhomdcoaaGreatDoor.T5
open Go.RowKit Go.Shelf Go.Lib
theorem zcx:(Tryz.prog.info? 9).map (fun i=>(i.zero,i.size,i.bytes))=some (some (.string ⟨#[]⟩),1,16):=by kernel_rfl
def zfF (w:World) (ss:List ByteArray) (e:Ending) (w':World):Prop:=
 ∃A c,e= .returned (.slice A ss.length c)∧w'.ownsRow w.heap.size 9 1 (.slice A ss.length c) ss.length (ss.map .string)∧Below w.heap.size w w'
theorem zqK {w w':World} {ss:List ByteArray} {v:Value} (ho:w'.ownsRow w.heap.size 9 1 v ss.length (ss.map .string)) (hb:Below w.heap.size w w'):zfF w ss (.returned v) w':=by
 obtain ⟨A,c,rfl⟩:=zC ho;exact ⟨A,c,rfl,ho,hb⟩
set_option maxRecDepth 20000 in
set_option maxHeartbeats 2000000 in
theorem zhK (s:ByteArray) (c:Int) (w:World) (hs:s.size≤4194304):
  Calls Tryz.prog 123 #[.string s,.int .u8 c] w (zfF w (zG s c)):=by
 obtain ⟨i0,hi0,hz0,hz1,hz2⟩:=info_parts zcx
 go_enter Tryz.func123,Tryz.ntmps123
 go_wp2
 go_loopw [0,5] (fun v r wr=>∃(t:ByteArray) (acc:List ByteArray),v= .string t∧t.size≤s.size∧acc++zG t c=zG s c∧wr.ownsRow w.heap.size 9 1 r acc.length (acc.map .string)∧Below w.heap.size w wr) (fun v _ _=>match v with| .string t=>t.size|_=>0)
 case atStart=>exact ⟨s,[],rfl,Nat.le_refl _,rfl,World.ownsRow_lit w #[] 0 (Nat.le_refl _) (by unfold maxLen;omega) rfl,(Below.refl _ w).alloc (Nat.le_refl _) _⟩
 case round=>
  obtain ⟨t,acc,rfl,hts,hacc,hown,hbw⟩:=hrel;have HC:=hid (fun w=>zii t c w (by omega));unfold zfn at HC;have hlen:acc.length≤4194305:=by
   have h1:=congrArg List.length hacc;have h2:=zdv s c;rw[List.length_append] at h1
   omega
  have HA:=hid hacc;clear hacc
  rcases zaC t c with ⟨hp,_⟩|⟨k,hp,hk,_⟩
  ·rw[zco hp] at HC
   dsimp only at HC;have HS:=hid (show acc++[t]=zG s c by rw[←HA.out,zdC hp]);clear hp
   go_wp2_with fail
   refine (HC.out _).mono ?_;rintro e w1 ⟨rfl,q,rfl⟩;have hown1:=zW hown (ze (Below.refl _ _) q)
   go_wp2_with (at_builtin;refine wpList_append_own _ rfl _ _ 22 rfl w.heap.size 9 i0 (.string ⟨#[]⟩) 1 16 Tryz.underlying22 hi0 hz0 hz1 hz2 rfl (by decide) _ _ _ rfl (hown1.alloc _) ⟨wr.heap.size,0,none⟩ 1 1 [.string t] rfl rfl (cell_one_new _ _ _) ?c1 ?c2 ?c3 ?c4 ?c5)
   case c1=>exact za5 [t]
   case c2=>unfold maxLen;omega
   case c3=>omega
   case c4=>simp;have:=hbw.size;omega
   case c5=>
    intro v' w2 hown2 hg2 _;have hb2:Below w.heap.size w w2:=((ze hbw q).alloc (ze hbw q).size _).grown hg2 (by simp;have:=hbw.size;omega) (zI hown1);have ho2:w2.ownsRow w.heap.size 9 1 v' (zG s c).length ((zG s c).map .string):=by
     rw[←HS.out,List.length_append,List.map_append];exact hown2
    clear hown2 hg2 hown hown1
    go_wp2
    go_ret
    exact zqK ho2 hb2
  ·rw[zcY hk hp] at HC
   dsimp only at HC;have HS:=hid (show (acc++[t.extract 0 k])++zG (t.extract (k+1) t.size) c=zG s c by rw[←HA.out,zeQ hk hp];simp);have hz:=zk t (a:=k+1) (b:=t.size) (by omega) (Nat.le_refl _);have hz1':(t.extract (k+1) t.size).size<t.size:=by omega
   clear hp hz
   go_wp2_with fail
   refine (HC.out _).mono ?_;rintro e w1 ⟨rfl,q,rfl⟩;have hown1:=zW hown (ze (Below.refl _ _) q)
   go_wp2_with (at_builtin;refine wpList_append_own _ rfl _ _ 22 rfl w.heap.size 9 i0 (.string ⟨#[]⟩) 1 16 Tryz.underlying22 hi0 hz0 hz1 hz2 rfl (by decide) _ _ _ rfl (hown1.alloc _) ⟨wr.heap.size,0,none⟩ 1 1 [.string (t.extract 0 k)] rfl rfl (cell_one_new _ _ _) ?d1 ?d2 ?d3 ?d4 ?d5)
   case d1=>exact za5 [_]
   case d2=>unfold maxLen;omega
   case d3=>omega
   case d4=>simp;have:=hbw.size;omega
   case d5=>
    intro v' w2 hown2 hg2 _;have hb2:Below w.heap.size w w2:=((ze hbw q).alloc (ze hbw q).size _).grown hg2 (by simp;have:=hbw.size;omega) (zI hown1);have ho2:w2.ownsRow w.heap.size 9 1 v' (acc++[t.extract 0 k]).length ((acc++[t.extract 0 k]).map .string):=by
     rw[List.length_append,List.map_append];exact hown2
    clear hown2 hg2 hown hown1
    go_wp2
    go_roundw
    case rel=>exact ⟨_,_,rfl,by omega,HS.out,ho2,hb2⟩
    case measure=>exact hz1'
def zcy (m:Nat):List UInt8:=if m=0 then [] else Lib.decDigits m
theorem ze2 {m:Nat} (h:m≠0):zcy m=zcy (m / 10)++[UInt8.ofNat (48+m % 10)]:=by
 unfold zcy;rw[if_neg h]
 by_cases h10:m<10
 ·rw[if_pos (by omega),Lib.decDigits_one h10,Nat.mod_eq_of_lt h10]
  rfl
 ·rw[if_neg (by omega),Lib.decDigits,dif_neg h10]
theorem zdK (b:UInt8) (l:List UInt8):((⟨#[b]⟩:ByteArray)++(⟨l.toArray⟩:ByteArray)).data.toList=b::l:=by
 rw[ByteArray.data_append];simp
theorem zgV (w:World) (v:Int) (h0:0≤v) (h1:v<256):(convert 80 9 (.slice (some ⟨w.heap.size,0,none⟩) 1 1)).run Tryz.prog (w.alloc (.cells #[.int .u8 v] 5))= .ok (.string ⟨#[UInt8.ofNat v.toNat]⟩) (w.alloc (.cells #[.int .u8 v] 5)):=by
 have e:(Value.int .u8 v)=zat (UInt8.ofNat v.toNat):=by
  unfold zat;rw[UInt8.toNat_ofNat']
  congr 1
  omega
 rw[e];have h:zZ (w.alloc (.cells #[zat (UInt8.ofNat v.toNat)] 5)) w.heap.size (.slice (some ⟨w.heap.size,0,none⟩) 1 1) [UInt8.ofNat v.toNat]:=World.ownsRow_lit w #[zat (UInt8.ofNat v.toNat)] 1 (Nat.le_refl _) (by unfold maxLen;omega) rfl;exact h.conv
set_option maxRecDepth 20000 in
set_option maxHeartbeats 2000000 in
theorem zgX (n:Nat) (w:World) (h1:(n:Int)≤9223372036854775807):
  Calls Tryz.prog 24 #[.int .i64 (n:Int)] w fun e w'=>e= .returned (.string (za3 n))∧Below w.heap.size w w':=by
 have hI:za3 (n:Int)=⟨(Lib.decDigits n).toArray⟩:=by unfold za3 Lib.itoa;rw[if_neg (by omega)];rfl
 have HI:=hid hI;clear hI
 by_cases hz:n=0
 ·subst hz
  have hZ:=hid (show za3 ((0:Nat):Int)=⟨#[48]⟩ by rw[HI.out,Lib.decDigits_one (by omega)];rfl);rw[show ((0:Nat):Int)=0 from rfl] at *
  go_enter Tryz.func24,Tryz.ntmps24
  go_wp2
  go_ret
  exact ⟨zbz hZ.out.symm,Below.refl _ _⟩
 ·have hne:((n:Int)==0)=false:=by simpa using hz
  have hneg:decide ((n:Int)<0)=false:=decide_eq_false (by omega);have HD:=hid (show zcy n=Lib.decDigits n by unfold zcy;rw[if_neg hz]);clear hz
  go_enter Tryz.func24,Tryz.ntmps24
  go_wp2
  go_loopw [0,4] (fun v o wr=>∃(m:Nat) (out:List UInt8),m≤n∧v= .int .i64 (m:Int)∧o= .string ⟨out.toArray⟩∧zcy m++out=Lib.decDigits n∧Below w.heap.size w wr) (fun v _ _=>(RowKit.intOf v).toNat)
  case atStart=>exact ⟨n,[],Nat.le_refl _,rfl,rfl,by rw[List.append_nil];exact HD.out,Below.refl _ _⟩
  case round=>
   obtain ⟨m,out,hmn,rfl,rfl,hout,hbw⟩:=hrel;have hol:out.length≤20:=by
    have h2:=congrArg List.length hout;rw[List.length_append,Lib.decDigits_length] at h2;have:=Lib.nDigits_le20 n (by omega)
    omega
   have HO:=hid hout;clear hout
   by_cases hm:m=0
   ·have hne2:((m:Int)!=0)=false:=by simpa using hm
    have HZ:=hid (show out=Lib.decDigits n by have h:=HO.out;rw[hm] at h;exact h);clear hm
    go_wp2
    go_ret
    exact ⟨zbz (by rw[HI.out,HZ.out]),hbw⟩
   ·have hne2:((m:Int)!=0)=true:=by simpa using hm
    have hm0:0≤(m:Int):=by omega
    have hr0:0≤(m:Int) % 10:=by omega
    have hr1:(m:Int) % 10<10:=by omega
    have hcv:=zgV wr (48+(m:Int) % 10) (by omega) (by omega);have hw8:IntKind.u8.wrap (48+(m:Int) % 10)=48+(m:Int) % 10:=IntWalk.u8_in _ (by omega);have hb48:UInt8.ofNat (48+(m:Int) % 10).toNat=UInt8.ofNat (48+m % 10):=by rw[show (48+(m:Int) % 10).toNat=48+m % 10 by omega]
    have HS:=hid (show zcy (m / 10)++((UInt8.ofNat (48+(m:Int) % 10).toNat)::out)=Lib.decDigits n by rw[hb48,←HO.out,ze2 hm];simp);have hmd:m / 10<m:=by omega
    clear hm hb48;generalize UInt8.ofNat (48+(m:Int) % 10).toNat=b at *
    go_wp2
    go_roundw
    case rel=>exact ⟨m / 10,b::out,by omega,by rw[Int.natCast_ediv];rfl,congrArg Value.string (zV (zdK b out)),HS.out,hbw.alloc hbw.size _⟩
    case measure=>simp[RowKit.intOf];omega
end Go.Proofs.YtbnafbdhomdcoaaGreatDoor.T5
