/-
 TgP, without what this claim does not reach.
-/
import Derived.Test.YtbnafbdhomdcoaaGreatDoorZm0
namespace Go.Proofs.YtbnafbdhomdcoaaGreatDoor.T5
def inB (t:ByteArray) (c:Int):Bool:=!zb3 (fun b=>!decide (b=c)) t
theorem zkv (t:ByteArray) (c:Int):(inB t c=true→0≤za7 t c)∧(inB t c=false→za7 t c=-1):=by
 rcases ze0 t c with ⟨h1,_,h2⟩|⟨k,hk,h1,_,h2,_⟩
 ·have:zb3 (fun b=>!decide (b=c)) t=true:=zaU fun j hj=>by simpa using h2 j hj
  unfold inB;rw[this,h1];exact ⟨fun h=>by (cases h),fun _=>rfl⟩
 ·have:zb3 (fun b=>!decide (b=c)) t=false:=zaB hk (by simpa using h2)
  unfold inB;rw[this,h1];exact ⟨fun _=>by omega,fun h=>by (cases h)⟩
def ztO:ByteArray:=⟨#[45,46,95,126]⟩
def zxx:ByteArray:=⟨#[33,36,38,39,40,41,42,43,44,59,61]⟩
def zdc (c:Int):Bool:=zeo c||inB ztO c
def zpp (c:Int):Bool:=inB zxx c
def zdg (c:Int):Int:=if zdc c=true then 1 else if zpp c=true then 2 else if c=58∨c=64 then 4 else if c=47 then 8 else if c=63 then 16 else 0
theorem zjk {c:Int} (h:zdc c=true):zdg c=1:=by unfold zdg;rw[if_pos h]
theorem zso {c:Int} (h:zdc c=false) (h2:zpp c=true):zdg c=2:=by unfold zdg;rw[if_neg (by rw[h];simp),if_pos h2]
theorem zsZ (c:Int):(zdg c==1)=zdc c:=by
 unfold zdg
 cases h:zdc c
 ·rw[if_neg (by simp)]
  split
  ·rfl
  ·split
   ·rfl
   ·split
    ·rfl
    ·split<;>rfl
 ·rw[if_pos rfl];rfl
def zhm (m:Int) (c:Int):Bool:=!(bits BinOp.and IntKind.i64 (zdg c) m==0)
def zbW (c:Int):Bool:=zdc c||zpp c
def zbt (c:Int):Bool:=zbW c||(decide (c=58)||decide (c=64))||decide (c=47)
def zcv (c:Int):Bool:=zbt c||decide (c=63)
theorem zm0:∀n:Nat,n<256→zhm 3 n=zbW n∧zhm 15 n=zbt n∧zhm 31 n=zcv n:=by decide +kernel
theorem zt3 {c:Int} (h0:0≤c) (h1:c<256):zhm 3 c=zbW c:=by
 obtain ⟨n,rfl⟩:=Int.eq_ofNat_of_zero_le h0;exact (zm0 n (by omega)).1
theorem zub {c:Int} (h0:0≤c) (h1:c<256):zhm 15 c=zbt c:=by
 obtain ⟨n,rfl⟩:=Int.eq_ofNat_of_zero_le h0;exact (zm0 n (by omega)).2.1
theorem zsD {c:Int} (h0:0≤c) (h1:c<256):zhm 31 c=zcv c:=by
 obtain ⟨n,rfl⟩:=Int.eq_ofNat_of_zero_le h0;exact (zm0 n (by omega)).2.2
theorem zkd:zbW 37=false∧zbt 37=false∧zcv 37=false:=by decide +kernel
def zbZ (c:Int):Bool:=decide (0≤zaE c)
theorem zdR {c:Int}:zbZ c=true↔0≤zaE c:=by simp[zbZ]
def tri (s:ByteArray) (i:Nat):Bool:=decide (i+2<s.size)&&(decide (bt s i=37)&&(zbZ (bt s (i+1))&&zbZ (bt s (i+2))))
def ziK (s:ByteArray) (i:Nat):Int:=zaE (bt s (i+1))*16+zaE (bt s (i+2))
theorem zbB {s:ByteArray} {i:Nat}:tri s i=true↔(i+2<s.size∧bt s i=37∧0≤zaE (bt s (i+1))∧0≤zaE (bt s (i+2))):=by
 simp[tri,zbZ]
theorem zmz {s:ByteArray} {i:Nat} (h:tri s i=true):0≤ziK s i∧ziK s i<256:=by
 obtain ⟨_,_,h1,h2⟩:=zbB.1 h;have:=zc5 (bt s (i+1));have:=zc5 (bt s (i+2));unfold ziK
 omega
theorem zg1 {s:ByteArray} {i:Nat} (h:s.size≤i+2):tri s i=false:=by
 cases e:tri s i
 ·rfl
 ·have:=(zbB.1 e).1;omega
theorem zhc {s:ByteArray} {i:Nat} (h:bt s i≠37):tri s i=false:=by
 cases e:tri s i
 ·rfl
 ·exact absurd (zbB.1 e).2.1 h
theorem zm9 {s:ByteArray} {i:Nat} (h:zaE (bt s (i+1))<0):tri s i=false:=by
 cases e:tri s i
 ·rfl
 ·have:=(zbB.1 e).2.2.1;omega
theorem znd {s:ByteArray} {i:Nat} (h:zaE (bt s (i+2))<0):tri s i=false:=by
 cases e:tri s i
 ·rfl
 ·have:=(zbB.1 e).2.2.2;omega
def zeh (P:Int→Bool) (s:ByteArray):Nat→Nat→Nat
 |0,i=>i
 |n+1,i=>if i<s.size then (if tri s i=true then zeh P s n (i+3) else if P (bt s i)=true then zeh P s n (i+1) else i) else i
theorem zgI (P:Int→Bool) (s:ByteArray):∀(n i:Nat),s.size - i≤n→zeh P s n i=zeh P s (n+1) i
 |0,i,h=>by
  unfold zeh;rw[if_neg (by omega)]
 |n+1,i,h=>by
  conv=>lhs;unfold zeh
  conv=>rhs;unfold zeh
  split
  ·split
   ·exact zgI P s n (i+3) (by omega)
   ·split
    ·exact zgI P s n (i+1) (by omega)
    ·rfl
  ·rfl
theorem zmv (P:Int→Bool) (s:ByteArray) (i:Nat):∀(d n:Nat),s.size - i≤n→zeh P s (n+d) i=zeh P s n i
 |0,_,_=>rfl
 |d+1,n,h=>by rw[←Nat.add_assoc,←zgI P s (n+d) i (by omega)];exact zmv P s i d n h
def zbi (P:Int→Bool) (s:ByteArray) (i:Nat):Nat:=zeh P s (s.size - i) i
section
variable {P:Int→Bool} {s:ByteArray} {i:Nat}
theorem znK {n:Nat} (h:s.size - i≤n):zeh P s n i=zbi P s i:=by
 have:=zmv P s i (n - (s.size - i)) (s.size - i) (Nat.le_refl _);rw[show s.size - i+(n - (s.size - i))=n from by omega] at this;exact this
theorem zcp (h:s.size≤i):zbi P s i=i:=by
 unfold zbi;rw[show s.size - i=0 from by omega]
 rfl
theorem zc2 (h:i<s.size):zbi P s i=if tri s i=true then zbi P s (i+3) else if P (bt s i)=true then zbi P s (i+1) else i:=by
 have e:s.size - i=(s.size - i - 1)+1:=by omega
 conv=>lhs;unfold zbi;rw[e];unfold zeh
 rw[if_pos h,znK (by omega),znK (by omega)]
theorem ziR (h:tri s i=true):zbi P s i=zbi P s (i+3):=by
 have:=(zbB.1 h).1;rw[zc2 (by omega),if_pos h]
theorem zeK (hi:i<s.size) (h:tri s i=false) (hp:P (bt s i)=true):zbi P s i=zbi P s (i+1):=by
 rw[zc2 hi,if_neg (by rw[h];simp),if_pos hp]
theorem zeI (hi:i<s.size) (h:tri s i=false) (hp:P (bt s i)=false):zbi P s i=i:=by
 rw[zc2 hi,if_neg (by rw[h];simp),if_neg (by rw[hp];simp)]
end
theorem zgD (P:Int→Bool) (s:ByteArray):∀(n i:Nat),s.size - i≤n→i≤s.size→i≤zbi P s i∧zbi P s i≤s.size
 |0,i,h,hi=>by rw[zcp (by omega)];omega
 |n+1,i,h,hi=>by
  by_cases hlt:i<s.size
  ·rw[zc2 hlt]
   split
   ·rename_i ht
    have:=(zbB.1 ht).1;have:=zgD P s n (i+3) (by omega) (by omega)
    omega
   ·split
    ·have:=zgD P s n (i+1) (by omega) (by omega)
     omega
    ·omega
  ·rw[zcp (by omega)];omega
theorem zgo (P:Int→Bool) (s:ByteArray):zbi P s 0≤s.size:=(zgD P s s.size 0 (by omega) (by omega)).2
theorem zee {P Q:Int→Bool} (h:∀c,0≤c→c<256→P c=Q c) (s:ByteArray):∀(n i:Nat),s.size - i≤n→zbi P s i=zbi Q s i
 |0,i,hi=>by rw[zcp (by omega),zcp (by omega)]
 |n+1,i,hi=>by
  by_cases hlt:i<s.size
  ·rw[zc2 hlt,zc2 hlt,h _ (zbS s i) (zdQ s i),zee h s n (i+3) (by omega),zee h s n (i+1) (by omega)]
  ·rw[zcp (by omega),zcp (by omega)]
def zeG (s:ByteArray):Nat:=zbi zbW s 0
def zz (s:ByteArray):Nat:=zbi zbt s 0
def zay (s:ByteArray):Nat:=zbi zcv s 0
def zbk (s:ByteArray) (i:Nat) (other:Int):Int:=if bt s i=37 then 51 else other
def isPathB (s:ByteArray):Bool:=decide (0<s.size)&&(decide (bt s 0=47)&&decide (zz s=s.size))
def zf6 (s:ByteArray) (i:Nat):UInt8:=s.data.toList.getD i 0
def zdm (s:ByteArray) (i:Nat):UInt8:=UInt8.ofNat (ziK s i).toNat
theorem zrf {s:ByteArray} {i:Nat} (h:tri s i=true):((zdm s i).toNat:Int)=ziK s i:=by
 have:=zmz h;unfold zdm;rw[UInt8.toNat_ofNat']
 omega
section
variable {s:ByteArray} {i:Nat} {acc:List UInt8}
end
def zfA:ByteArray:=⟨#[48,49,50,51,52,53,54,55,56,57,65,66,67,68,69,70]⟩
def pct (b:UInt8):List UInt8:=[37,zfA.data.toList.getD (b.toNat / 16) 0,zfA.data.toList.getD (b.toNat % 16) 0]
def zgy (b:UInt8):List UInt8:=if zdc (b.toNat:Int)=true then [b] else pct b
def zxu (l:List UInt8):List UInt8:=l.flatMap zgy
def enc (s:ByteArray):ByteArray:=⟨(zxu s.data.toList).toArray⟩
theorem zim (b:UInt8):1≤(zgy b).length∧(zgy b).length≤3:=by
 unfold zgy
 split<;>simp[pct]
end Go.Proofs.YtbnafbdhomdcoaaGreatDoor.T5
