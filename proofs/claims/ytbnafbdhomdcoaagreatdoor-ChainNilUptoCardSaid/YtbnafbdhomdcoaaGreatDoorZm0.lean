/-
  Plain, Mem, without what the claim does not reach.
-/
import Derived.WalkKit
import Derived.Lib.SlTrimSet
import Derived.Lib.Bytealg
import Derived.Lib.ConvBytes
import Derived.Laws.BytesArg
import Derived.WalkSmall
namespace Go.Proofs.YtbnafbdhomdcoaaGreatDoor
def bt (s:ByteArray) (j:Nat):Int:=((s.data.toList.getD j 0).toNat:Int)
theorem zE {s:ByteArray} {k:Nat} (h:k<s.size):((s[k].toNat:Nat):Int)=bt s k:=by
 have h':k<s.data.toList.length:=by simpa using h
 unfold bt;rw[List.getD_eq_getElem?_getD,List.getElem?_eq_getElem h']
 rfl
theorem zbS (s:ByteArray) (k:Nat):0≤bt s k:=by unfold bt;omega
theorem zdQ (s:ByteArray) (k:Nat):bt s k<256:=by
 unfold bt;have:=(s.data.toList.getD k 0).toNat_lt
 omega
theorem size_eq (s:ByteArray):s.data.toList.length=s.size:=by rw[Array.length_toList];rfl
def zbx (P:Int→Bool) (s:ByteArray) (k:Nat):Prop:=∀j,j<k→P (bt s j)=true
theorem zbx.zero (P:Int→Bool) (s:ByteArray):zbx P s 0:=fun _ h=>by omega
theorem zbx.succ {P:Int→Bool} {s:ByteArray} {k:Nat} (h:zbx P s k) (hk:P (bt s k)=true):zbx P s (k+1):=fun j hj=>by
 by_cases e:j=k
 ·rw[e];exact hk
 ·exact h j (by omega)
def zb3 (P:Int→Bool) (s:ByteArray):Bool:=s.data.toList.all fun b=>P (b.toNat:Int)
theorem zaU {P:Int→Bool} {s:ByteArray} (h:zbx P s s.size):zb3 P s=true:=by
 unfold zb3;rw[List.all_eq_true];intro b hb;obtain ⟨j,hj,rfl⟩:=List.getElem_of_mem hb;have:=h j (by rw[←size_eq];exact hj);unfold bt at this
 rwa [List.getD_eq_getElem?_getD,List.getElem?_eq_getElem hj] at this
theorem zaB {P:Int→Bool} {s:ByteArray} {k:Nat} (hk:k<s.size) (h:P (bt s k)=false):zb3 P s=false:=by
 unfold zb3;rw[List.all_eq_false];have hj:k<s.data.toList.length:=by rw[size_eq];exact hk
 refine ⟨s.data.toList[k],List.getElem_mem hj,?_⟩;unfold bt at h;rw[List.getD_eq_getElem?_getD,List.getElem?_eq_getElem hj] at h
 simpa using h
theorem zrm {P:Int→Bool} {s:ByteArray} (h:zb3 P s=true):zbx P s s.size:=fun j hj=>by
 cases e:P (bt s j)
 ·rw[zaB hj e] at h;cases h
 ·rfl
def zeo (c:Int):Bool:=(decide (48≤c)&&decide (c≤57))||(decide (65≤c)&&decide (c≤90))||(decide (97≤c)&&decide (c≤122))
def oth:ByteArray:=⟨#[33,35,36,37,38,39,42,43,45,46,94,95,96,124,126]⟩
theorem zkx:oth.size=15:=rfl
def sign (c:Int):Bool:=zeo c||!zb3 (fun b=>!decide (b=c)) oth
def za4 (c:Int):Bool:=decide (c=9)||(decide (32≤c)&&!decide (c=127))
theorem zhO {c:Int} (h:c<32) (h9:(c==9)=false):za4 c=false:=by
 have h9':¬c=9:=by simpa using h9
 unfold za4;rw[decide_eq_false h9',decide_eq_false (show ¬32≤c by omega)]
 rfl
theorem zgu {c:Int} (h:32≤c) (h127:(c !=127)=true):za4 c=true:=by
 have h':¬c=127:=by simpa using h127
 unfold za4;rw[decide_eq_true h,decide_eq_false h'];simp
def zct (c:Int):Bool:=decide (c=32)||decide (c=9)
theorem zo0 {c:Int} (h1:(c==32)=false) (h2:(c==9)=false):zct c=false:=by
 have h1':¬c=32:=by simpa using h1
 have h2':¬c=9:=by simpa using h2
 unfold zct;rw[decide_eq_false h1',decide_eq_false h2']
 rfl
def zbn (s:ByteArray):Bool:=zb3 sign s&&!decide (s.size=0)
theorem zo (s:ByteArray):s.toList.isEmpty=decide (s.size=0):=by
 rw[ByteArray.toList_eq,←size_eq]
 cases s.data.toList<;>simp
def zcb (s:ByteArray):Bool:=zb3 za4 s
def zdO (b:UInt8):UInt8:=if 65≤b.toNat∧b.toNat≤90 then UInt8.ofNat (b.toNat+32) else b
def zaP (s:ByteArray):ByteArray:=⟨(s.data.toList.map zdO).toArray⟩
theorem ziB {b:UInt8} (h:65≤(b.toNat:Int)∧(b.toNat:Int)≤90):((zdO b).toNat:Int)=(b.toNat:Int)+32:=by
 unfold zdO;rw[if_pos (by omega),UInt8.toNat_ofNat']
 omega
theorem zgO {b:UInt8} (h:¬(65≤(b.toNat:Int)∧(b.toNat:Int)≤90)):zdO b=b:=by
 unfold zdO;rw[if_neg (by omega)]
def zdP (f:UInt8→UInt8) (l:List UInt8) (k:Nat):List UInt8:=(l.take k).map f++l.drop k
theorem zeP (f:UInt8→UInt8) (l:List UInt8):zdP f l 0=l:=by simp[zdP]
theorem zfC (f:UInt8→UInt8) (l:List UInt8):zdP f l l.length=l.map f:=by simp[zdP]
theorem zU (f:UInt8→UInt8) (l:List UInt8) (k:Nat):(zdP f l k).length=l.length:=by simp[zdP];omega
theorem zfG (f:UInt8→UInt8) (l:List UInt8) (k j:Nat) (hk:k≤l.length):(zdP f l k)[j]?=if j<k then l[j]?.map f else l[j]?:=by
 have h:((l.take k).map f).length=k:=by simp;omega
 unfold zdP;rw[List.getElem?_append,h]
 by_cases e:j<k
 ·rw[if_pos e,if_pos e,List.getElem?_map,List.getElem?_take,if_pos e]
 ·rw[if_neg e,if_neg e,List.getElem?_drop]
  congr 1
  omega
theorem zeA (f:UInt8→UInt8) (l:List UInt8) (k:Nat) (hk:k<l.length):(zdP f l k).getD k 0=l.getD k 0:=by
 rw[List.getD_eq_getElem?_getD,List.getD_eq_getElem?_getD,zfG f l k k (by omega),if_neg (by omega)]
theorem zeN (f:UInt8→UInt8) (l:List UInt8) (k:Nat) (hk:k<l.length):zdP f l (k+1)=(zdP f l k).set k (f (l.getD k 0)):=by
 apply List.ext_getElem?
 intro j;rw[zfG f l _ _ (by omega),List.getElem?_set,zfG f l _ _ (by omega),zU]
 by_cases e:k=j
 ·subst e
  simp[hk,List.getD]
 ·rw[if_neg e]
  by_cases h:j<k
  ·rw[if_pos (by omega),if_pos h]
  ·rw[if_neg (by omega),if_neg h]
theorem zeS (f:UInt8→UInt8) (l:List UInt8) (k:Nat) (hk:k<l.length) (h:f (l.getD k 0)=l.getD k 0):zdP f l (k+1)=zdP f l k:=by
 apply List.ext_getElem?
 intro j;rw[zfG f l _ _ (by omega),zfG f l _ _ (by omega)]
 by_cases e:j=k
 ·subst e
  rw[if_pos (by omega),if_neg (by omega)];simp only[List.getD,List.getElem?_eq_getElem hk,Option.getD_some] at h;rw[List.getElem?_eq_getElem hk,Option.map_some,h]
 ·by_cases h:j<k
  ·rw[if_pos (by omega),if_pos h]
  ·rw[if_neg (by omega),if_neg h]
def zgZ:List Int:=[0,67071226,3355443198,1476395007]
theorem ztV (c:Int) (h0:0≤c) (h1:c<128):(bits BinOp.and IntKind.u32 (zgZ.getD (c / 32).toNat 0 / 2 ^ (c % 32).toNat) 1==1)=sign c:=by
 obtain ⟨n,rfl⟩:=Int.eq_ofNat_of_zero_le h0;have key:∀n:Nat,n<128→(bits BinOp.and IntKind.u32 (zgZ.getD ((n:Int) / 32).toNat 0 / 2 ^ ((n:Int) % 32).toNat) 1==1)=sign n:=by decide +kernel
 exact key n (by omega)
theorem zuO (c:Int) (h0:128≤c):sign c=false:=by
 have h1:zeo c=false:=by simp[zeo];omega
 have h2:zbx (fun b=>!decide (b=c)) oth oth.size:=fun j hj=>by
  have h3:∀j:Nat,j<15→bt oth j<128:=by decide +kernel
  have:=h3 j (by rw[←zkx];exact hj);simp
  omega
 rw[sign,h1,zaU h2]
 rfl
def zdG (P:Nat→Bool) (a:Nat):Nat→Nat
 |0=>a
 |n+1=>if P a then zdG P (a+1) n else a
theorem zey (P:Nat→Bool) (n:Nat):∀a,a≤zdG P a n∧zdG P a n≤a+n∧(∀j,a≤j→j<zdG P a n→P j=true)∧(zdG P a n<a+n→P (zdG P a n)=false):=by
 induction n with
 |zero=>intro a;exact ⟨Nat.le_refl _,Nat.le_refl _,fun j h1 h2=>by simp only[zdG] at h2;omega,fun h=>by simp only[zdG] at h;omega⟩
 |succ n ih=>
  intro a;unfold zdG
  cases hp:P a
  ·exact ⟨Nat.le_refl _,by simp,fun j h1 h2=>by simp at h2;omega,fun _=>by simpa using hp⟩
  ·obtain ⟨h1,h2,h3,h4⟩:=ih (a+1)
   simp only[if_true];refine ⟨by omega,by omega,fun j g1 g2=>?_,fun h=>h4 (by omega)⟩
   by_cases e:j=a
   ·rw[e];exact hp
   ·exact h3 j (by omega) g2
theorem zq5 {P:Nat→Bool} {a n k:Nat} (h1:a≤k) (h2:k≤a+n) (h3:∀j,a≤j→j<k→P j=true) (h4:k<a+n→P k=false):zdG P a n=k:=by
 obtain ⟨g1,g2,g3,g4⟩:=zey P n a
 rcases Nat.lt_trichotomy (zdG P a n) k with h|h|h
 ·have:=h3 _ g1 h
  rw[g4 (by omega)] at this
  cases this
 ·exact h
 ·have:=g3 k h1 h
  rw[h4 (by omega)] at this
  cases this
def zgr (P:Nat→Bool) (a k:Nat):Prop:=∀j,a≤j→j<k→P j=true
theorem zgr.zero (P:Nat→Bool) (a:Nat):zgr P a a:=fun _ _ _=>by omega
theorem zgr.succ {P:Nat→Bool} {a k:Nat} (h:zgr P a k) (hk:P k=true):zgr P a (k+1):=fun j h1 h2=>by
 by_cases e:j=k
 ·rw[e];exact hk
 ·exact h j h1 (by omega)
theorem zfN {P:Nat→Bool} {a n k:Nat} (h:zgr P a k) (h1:a≤k) (h2:k<a+n) (hk:P k=false):zdG P a n=k:=zq5 h1 (by omega) h (fun _=>hk)
theorem zgM {P:Nat→Bool} {a n:Nat} (h:zgr P a (a+n)):zdG P a n=a+n:=zq5 (by omega) (Nat.le_refl _) h (fun h=>by omega)
def zax (s:ByteArray) (c:Int):Nat:=zdG (fun j=>!decide (bt s j=c)) 0 s.size
theorem zfx (s:ByteArray) (c:Int):zax s c≤s.size:=by have:=(zey (fun j=>!decide (bt s j=c)) s.size 0).2.1;unfold zax;omega
def za7 (s:ByteArray) (c:Int):Int:=if zax s c=s.size then -1 else (zax s c:Int)
theorem zqA:∀(P:Nat→Bool) (n a:Nat),zdG P (a+1) n=zdG (fun j=>P (j+1)) a n+1:=by
 intro P n
 induction n with
 |zero=>intro a;rfl
 |succ n ih=>
  intro a;unfold zdG;rw[ih]
  split<;>rfl
theorem zr7 (P:Nat→Bool) (n:Nat):zdG P 0 (n+1)=if P 0=true then zdG (fun j=>P (j+1)) 0 n+1 else 0:=by
 rw[←zqA]
 rfl
theorem zlg (c:UInt8) (l:List UInt8):Lib.indexByte l c=if zdG (fun j=>!decide (l.getD j 0=c)) 0 l.length=l.length then -1 else (zdG (fun j=>!decide (l.getD j 0=c)) 0 l.length:Int):=by
 induction l with
 |nil=>rfl
 |cons b l ih=>
  unfold Lib.indexByte;rw[ih];have e:zdG (fun j=>!decide ((b::l).getD j 0=c)) 0 (b::l).length=if (!decide (b=c))=true then zdG (fun j=>!decide (l.getD j 0=c)) 0 l.length+1 else 0:=zr7 _ _
  rw[e];generalize zdG (fun j=>!decide (l.getD j 0=c)) 0 l.length=q
  by_cases hb:b=c
  ·simp[hb]
  ·simp only[hb,decide_false,Bool.not_false,if_true,beq_iff_eq,if_false,List.length_cons,Nat.add_right_cancel_iff]
   by_cases h:q=l.length
   ·simp[h]
   ·rw[if_neg h,if_neg h,if_neg (by omega)]
    omega
theorem zda (s:ByteArray) (c:Int) (h0:0≤c) (h1:c<256):Lib.indexByte s.data.toList c.toNat.toUInt8=za7 s c:=by
 rw[zlg,size_eq];have e:(fun j=>!decide (s.data.toList.getD j 0=c.toNat.toUInt8))=fun j=>!decide (bt s j=c):=by
  funext j
  congr 1
  apply decide_eq_decide.2
  unfold bt;have h2:c.toNat.toUInt8.toNat=c.toNat:=by
   show (UInt8.ofNat c.toNat).toNat=_;rw[UInt8.toNat_ofNat']
   omega
  constructor
  ·intro h
   rw[h,h2]
   omega
  ·intro h
   apply UInt8.toNat_inj.1
   rw[h2]
   omega
 rw[e]
 rfl
theorem zj9 {s:ByteArray} {c:Int} {k:Nat} (h:zgr (fun j=>!decide (bt s j=c)) 0 k) (hk:k<s.size) (hc:bt s k=c):za7 s c=k:=by
 have e:zax s c=k:=zfN h (by omega) (by omega) (by simp[hc]);unfold za7;rw[e,if_neg (by omega)]
theorem zhy {s:ByteArray} {c:Int} (h:zgr (fun j=>!decide (bt s j=c)) 0 s.size):za7 s c=-1:=by
 have e:zax s c=s.size:=by
  have:=zgM (a:=0) (n:=s.size) (by rwa [Nat.zero_add])
  rwa [Nat.zero_add] at this
 unfold za7;rw[e,if_pos rfl]
theorem ze0 (s:ByteArray) (c:Int):(za7 s c=-1∧zax s c=s.size∧∀j,j<s.size→bt s j≠c)∨(∃k:Nat,k<s.size∧za7 s c=k∧zax s c=k∧bt s k=c∧∀j,j<k→bt s j≠c):=by
 obtain ⟨_,g2,g3,g4⟩:=zey (fun j=>!decide (bt s j=c)) s.size 0
 by_cases e:zax s c=s.size
 ·refine .inl ⟨by unfold za7;rw[if_pos e],e,fun j hj=>?_⟩
  have:=g3 j (by omega) (by show j<zax s c;omega)
  simpa using this
 ·have hlt:zax s c<s.size:=by have:=zfx s c;omega
  refine .inr ⟨zax s c,hlt,by unfold za7;rw[if_neg e],rfl,?_,fun j hj=>?_⟩
  ·have:=g4 (by show zax s c<_;omega)
   simp at this;exact this
  ·have:=g3 j (by omega) hj
   simpa using this
def zbu (a b:ByteArray):Bool:=decide (zaP a=zaP b)
theorem zaj (a b:ByteArray):(a.toList==b.toList)=decide (a=b):=by
 rw[ByteArray.toList_eq,ByteArray.toList_eq,Bool.eq_iff_iff];simp only[beq_iff_eq,decide_eq_true_eq]
 constructor
 ·intro h
  apply ByteArray.ext
  exact Array.ext' h
 ·intro h;rw[h]
theorem zk (s:ByteArray) {a b:Nat} (h:a≤b) (hb:b≤s.size):(s.extract a b).size=b - a:=by
 rw[ByteArray.size_extract]
 omega
theorem zbe (s:ByteArray) {a b:Nat} {j:Nat} (hj:j<b - a):bt (s.extract a b) j=bt s (a+j):=by
 unfold bt;rw[Lib.extract_data,List.getD_eq_getElem?_getD,List.getD_eq_getElem?_getD,List.getElem?_take,if_pos hj,List.getElem?_drop]
theorem zw8 (s:ByteArray) {i:Nat} (h:i<s.size):zbn (s.extract i (i+1))=sign (bt s i):=by
 have hs:=zk s (a:=i) (b:=i+1) (by omega) (by omega);have hb:bt (s.extract i (i+1)) 0=bt s i:=zbe s (j:=0) (by omega);have hz:decide ((s.extract i (i+1)).size=0)=false:=by rw[hs];simp
 cases e:sign (bt s i)
 ·rw[zbn,zaB (k:=0) (by omega) (by rw[hb];exact e)];rfl
 ·rw[zbn,zaU (fun j hj=>by
   obtain rfl:j=0:=by omega
   rw[hb];exact e),hz];rfl
def zes (s:ByteArray):ByteArray:=⟨(Lib.trimS s.data.toList [32,9]).toArray⟩
def zd8 (s:ByteArray):ByteArray:=⟨(Lib.trimLeftS s.data.toList [32,9]).toArray⟩
def zd3 (s:ByteArray):ByteArray:=⟨(Lib.trimRightS s.data.toList [32,9]).toArray⟩
theorem zsh (p:UInt8→Bool):∀l:List UInt8,((l.dropWhile p).reverse.dropWhile p).reverse=((l.reverse.dropWhile p).reverse).dropWhile p:=by
 have step:∀(x:UInt8) (l:List UInt8),((x::l).reverse.dropWhile p).reverse=if (l.reverse.dropWhile p).reverse=[] then (if p x=true then [] else [x]) else x::(l.reverse.dropWhile p).reverse:=by
  intro x l;rw[List.reverse_cons,List.dropWhile_append]
  cases h:l.reverse.dropWhile p with
  |nil=>
   rw[if_pos List.isEmpty_nil,if_pos List.reverse_nil]
   by_cases hx:p x=true
   ·rw[List.dropWhile_cons_of_pos hx,if_pos hx];rfl
   ·rw[List.dropWhile_cons_of_neg hx,if_neg hx];rfl
  |cons y m=>
   rw[if_neg (by simp),if_neg (by simp),List.reverse_append]
   rfl
 intro l
 induction l with
 |nil=>rfl
 |cons x l ih=>
  by_cases hx:p x=true
  ·rw[List.dropWhile_cons_of_pos hx,ih,step]
   by_cases h:(l.reverse.dropWhile p).reverse=[]
   ·rw[if_pos h,if_pos hx,h]
   ·rw[if_neg h,List.dropWhile_cons_of_pos hx]
  ·rw[List.dropWhile_cons_of_neg hx,step]
   by_cases h:(l.reverse.dropWhile p).reverse=[]
   ·rw[if_pos h,if_neg hx,List.dropWhile_cons_of_neg hx]
   ·rw[if_neg h,List.dropWhile_cons_of_neg hx]
theorem zj5 (cs:List UInt8) (l:List UInt8):Lib.trimRightS (Lib.trimLeftS l cs) cs=Lib.trimS l cs:=zsh _ l
theorem zsY (s:ByteArray):zd3 (zd8 s)=zes s:=by
 unfold zd3 zd8 zes;rw[show (⟨(Lib.trimLeftS s.data.toList [32,9]).toArray⟩:ByteArray).data.toList=Lib.trimLeftS s.data.toList [32,9] from rfl,zj5]
theorem zev (s:ByteArray) {k:Nat}:(s.extract k s.size).data.toList=s.data.toList.drop k:=by
 rw[Lib.extract_data,←size_eq,List.take_of_length_le (by rw[List.length_drop];exact Nat.le_refl _)]
theorem zg3 (b:UInt8):([32,9]:List UInt8).contains b=zct (b.toNat:Int):=by
 have key:∀n:Fin 256,([32,9]:List UInt8).contains (UInt8.ofNat n.val)=zct (n.val:Int):=by decide +kernel
 have h:=key ⟨b.toNat,b.toNat_lt⟩
 simpa using h
theorem zhS (t:ByteArray) (h0:0<t.size) (h:zct (bt t 0)=true):zd8 (t.extract 1 t.size)=zd8 t:=by
 unfold zd8;rw[zev]
 congr 2
 have hl:0<t.data.toList.length:=by rw[size_eq];exact h0
 cases e:t.data.toList with
 |nil=>rw[e] at hl;simp at hl
 |cons x l=>
  have hb:([32,9]:List UInt8).contains x=true:=by
   rw[zg3,←h];unfold bt;rw[e]
   rfl
  show _=List.dropWhile _ (x::l);rw[List.dropWhile_cons_of_pos hb]
  rfl
theorem zhP (t:ByteArray) (h:t.size=0∨zct (bt t 0)=false):zd8 t=t:=by
 unfold zd8;have:Lib.trimLeftS t.data.toList [32,9]=t.data.toList:=by
  cases e:t.data.toList with
  |nil=>rfl
  |cons x l=>
   have hb:¬([32,9]:List UInt8).contains x=true:=by
    rw[zg3]
    rcases h with h|h
    ·rw[←size_eq,e] at h;simp at h
    ·unfold bt at h
     rw[e] at h;simp at h;simp[h]
   show List.dropWhile _ (x::l)=_;rw[List.dropWhile_cons_of_neg hb]
 rw[this]
theorem zhe (s:ByteArray) (k:Nat):(s.extract 0 k).data.toList=s.data.toList.take k:=by
 rw[Lib.extract_data];simp
theorem zk2 (t:ByteArray) (h0:0<t.size) (h:zct (bt t (t.size - 1))=true):zd3 (t.extract 0 (t.size - 1))=zd3 t:=by
 unfold zd3;rw[zhe,←size_eq,←List.dropLast_eq_take]
 congr 2
 have hne:t.data.toList≠[]:=by
  intro e;rw[←size_eq,e] at h0;simp at h0
 have e:=List.dropLast_concat_getLast hne;have hb:([32,9]:List UInt8).contains (t.data.toList.getLast hne)=true:=by
  rw[zg3,←h];unfold bt;rw[List.getLast_eq_getElem,←size_eq,List.getD_eq_getElem?_getD,List.getElem?_eq_getElem]
  rfl
 generalize t.data.toList.getLast hne=x at e hb;generalize t.data.toList.dropLast=l at e;rw[←e];show Lib.trimRightS l _=(List.dropWhile _ (l++[x]).reverse).reverse;rw[List.reverse_append];show _=(List.dropWhile _ (x::l.reverse)).reverse;rw[List.dropWhile_cons_of_pos hb]
 rfl
theorem zp3 (t:ByteArray) (h:t.size=0∨zct (bt t (t.size - 1))=false):zd3 t=t:=by
 unfold zd3;have:Lib.trimRightS t.data.toList [32,9]=t.data.toList:=by
  by_cases hne:t.data.toList=[]
  ·rw[hne];rfl
  ·have e:=List.dropLast_concat_getLast hne
   have hb:¬([32,9]:List UInt8).contains (t.data.toList.getLast hne)=true:=by
    rw[zg3]
    rcases h with h|h
    ·exact absurd (List.eq_nil_of_length_eq_zero (by rw[size_eq];exact h)) hne
    ·unfold bt at h
     rw[←size_eq,List.getD_eq_getElem?_getD,List.getElem?_eq_getElem (by have:=List.length_pos_iff.2 hne;omega),Option.getD_some] at h;rw[List.getLast_eq_getElem,h];simp
   generalize t.data.toList.getLast hne=x at e hb;generalize t.data.toList.dropLast=l at e;rw[←e];show (List.dropWhile _ (l++[x]).reverse).reverse=_;rw[List.reverse_append];show (List.dropWhile _ (x::l.reverse)).reverse=_;rw[List.dropWhile_cons_of_neg hb];simp
 rw[this]
theorem zse (s:ByteArray):(zes s).size≤s.size:=by
 have h:(Lib.trimS s.data.toList [32,9]).length≤s.data.toList.length:=by
  unfold Lib.trimS Lib.trimLeftS Lib.trimRightS;refine Nat.le_trans (List.dropWhile_sublist _).length_le ?_;rw[List.length_reverse];refine Nat.le_trans (List.dropWhile_sublist _).length_le ?_;rw[List.length_reverse];exact Nat.le_refl _
 rw[size_eq] at h;exact h
theorem zqg (s:ByteArray):(zaP s).size=s.size:=by
 rw[←size_eq,←size_eq];simp[zaP]
def zbf (s:ByteArray):Bool:=decide (s.size≤8192)&&(zcb s&&decide (zes s=s))
section
variable {s:ByteArray}
variable {k:Nat}
variable (h:¬(0<s.size∧zct (bt s 0)=true)) (hk:k<s.size) (h0:0<k) (hc:zax s 58=k) (hgood:zgr (fun j=>decide (j<128)&&sign (bt s j)) 0 k)
include h hk h0 hc hgood
variable (hin:zgr (fun j=>za4 (bt s j)) (k+1) s.size)
include hin
end
end Go.Proofs.YtbnafbdhomdcoaaGreatDoor
namespace Go.Proofs.YtbnafbdhomdcoaaGreatDoor
theorem zV {a b:ByteArray} (h:a.data.toList=b.data.toList):a=b:=by
 apply ByteArray.ext
 exact Array.ext' h
theorem zh7 (s:ByteArray) (a b:Nat):(s.extract a s.size).extract b (s.extract a s.size).size=s.extract (a+b) s.size:=by
 apply zV
 rw[zev,zev,zev,List.drop_drop]
theorem zmB (s:ByteArray):∀(n a:Nat),zgr (fun j=>zct (bt s j)) a (a+n)→a+n≤s.size→zd8 (s.extract a s.size)=zd8 (s.extract (a+n) s.size)
 |0,_,_,_=>rfl
 |n+1,a,h,hs=>by
  have hz:=zk s (a:=a) (b:=s.size) (by omega) (Nat.le_refl _);have hb:bt (s.extract a s.size) 0=bt s a:=zbe s (j:=0) (by omega);rw[←zhS (s.extract a s.size) (by omega) (by rw[hb];exact h a (Nat.le_refl _) (by omega)),zh7];have:=zmB s n (a+1) (fun j h1 h2=>h j (by omega) (by omega)) (by omega);rw[this,show a+1+n=a+(n+1) from by omega]
theorem zxr (s:ByteArray) {a i:Nat} (h:zgr (fun j=>zct (bt s j)) a i) (ha:a≤i) (hi:i<s.size) (hb:zct (bt s i)=false):(zd8 (s.extract a s.size)).size=s.size - i:=by
 have e:=zmB s (i - a) a (by rw[show a+(i - a)=i from by omega];exact h) (by omega);rw[show a+(i - a)=i from by omega] at e;have hz:=zk s (a:=i) (b:=s.size) (by omega) (Nat.le_refl _);have hb':bt (s.extract i s.size) 0=bt s i:=zbe s (j:=0) (by omega);rw[e,zhP _ (.inr (by rw[hb'];exact hb)),hz]
end Go.Proofs.YtbnafbdhomdcoaaGreatDoor
namespace Go.Proofs.YtbnafbdhomdcoaaGreatDoor
theorem zdp (s:ByteArray) {i:Nat} (h:i<s.size):∃b:UInt8,s.data.toList.drop i=b::s.data.toList.drop (i+1)∧(b.toNat:Int)=bt s i:=by
 have h':i<s.data.toList.length:=by rw[size_eq];exact h
 refine ⟨s.data.toList[i],List.drop_eq_getElem_cons h',?_⟩;unfold bt;rw[List.getD_eq_getElem?_getD,List.getElem?_eq_getElem h']
 rfl
theorem zli (s:ByteArray) {i:Nat} (h:s.size≤i):s.data.toList.drop i=[]:=List.drop_of_length_le (by rw[size_eq];exact h)
theorem zte (s:ByteArray):(⟨s.data.toList.toArray⟩:ByteArray)=s:=zV rfl
theorem zgz (s:ByteArray) (a b:Nat):(s.extract a b).data.toList=(s.data.toList.drop a).take (b - a):=Lib.extract_data s a b
theorem ztY (s:ByteArray) {a i:Nat} {b:UInt8} (ha:a≤i) (hi:i<s.size) (hb:s.data.toList.drop i=b::s.data.toList.drop (i+1)):(s.extract a (i+1)).data.toList=(s.extract a i).data.toList++[b]:=by
 rw[zgz,zgz,show i+1 - a=(i - a)+1 from by omega];have h':i - a<(s.data.toList.drop a).length:=by rw[List.length_drop,size_eq];omega
 rw[List.take_succ_eq_append_getElem h']
 congr 2
 rw[List.getElem_drop];have h2:i<s.data.toList.length:=by rw[size_eq];exact hi
 have:=List.drop_eq_getElem_cons h2;rw[this] at hb;injection hb with hb _;rw[←hb]
 congr 1
 omega
theorem zoZ (s:ByteArray) (a:Nat):(s.extract a a).data.toList=[]:=by rw[zgz,Nat.sub_self];rfl
def zb1:List UInt8→Bool→Option Nat
 |[],_=>none
 |c::r,true=>if za4 (c.toNat:Int)=true then (zb1 r false).map (·+1) else none
 |c::r,false=>if (c.toNat:Int)=34 then some 1 else if (c.toNat:Int)=92 then (zb1 r true).map (·+1) else if za4 (c.toNat:Int)=true then (zb1 r false).map (·+1) else none
theorem zoN:∀(l:List UInt8) (e:Bool) (k:Nat),zb1 l e=some k→1≤k∧k≤l.length:=by
 intro l
 induction l with
 |nil=>intro e k h;simp[zb1] at h
 |cons c r ih=>
  intro e k h
  cases e
  ·simp only[zb1] at h
   split at h
   ·injection h with h
    subst h;simp
   ·split at h
    ·obtain ⟨j,hj,rfl⟩:=Option.map_eq_some_iff.1 h
     have:=ih _ _ hj;simp;omega
    ·split at h
     ·obtain ⟨j,hj,rfl⟩:=Option.map_eq_some_iff.1 h
      have:=ih _ _ hj;simp;omega
     ·cases h
  ·simp only[zb1] at h
   split at h
   ·obtain ⟨j,hj,rfl⟩:=Option.map_eq_some_iff.1 h
    have:=ih _ _ hj;simp;omega
   ·cases h
def zde (s:ByteArray):Nat:=match zb1 (s.data.toList.drop 1) false with
 |none=>0
 |some k=>k+1
theorem zkV {s:ByteArray} (h:zb1 (s.data.toList.drop 1) false=none):zde s=0:=by unfold zde;rw[h]
theorem zhV {s:ByteArray} {k:Nat} (h:zb1 (s.data.toList.drop 1) false=some k):zde s=k+1:=by unfold zde;rw[h]
theorem zoo (s:ByteArray):zde s≤s.size∧(0<zde s→2≤zde s):=by
 cases h:zb1 (s.data.toList.drop 1) false with
 |none=>rw[zkV h];omega
 |some k=>
  have:=zoN _ _ _ h;rw[zhV h];rw[List.length_drop,size_eq] at this
  omega
def zeU (s:ByteArray) (i:Nat):Prop:=zde s=match zb1 (s.data.toList.drop i) false with
 |none=>0
 |some k=>k+i
theorem zeU.start (s:ByteArray):zeU s 1:=rfl
section
variable {s:ByteArray} {i:Nat} (h:zeU s i)
include h
theorem zeU.end_ (hi:s.size≤i):zde s=0:=by
 unfold zeU at h;rw[h,zli s hi]
 rfl
theorem zeU.quote (hi:i<s.size) (hb:bt s i=34):zde s=i+1:=by
 obtain ⟨b,hd,he⟩:=zdp s hi;unfold zeU at h;rw[h,hd];simp only[zb1];rw[if_pos (by omega)];show 1+i=i+1
 omega
theorem zeU.esc_end (hi:i+1=s.size) (hb:bt s i=92):zde s=0:=by
 obtain ⟨b,hd,he⟩:=zdp s (i:=i) (by omega);unfold zeU at h;rw[h,hd,zli s (by omega)];simp only[zb1];rw[if_neg (by omega),if_pos (by omega)]
 rfl
theorem zeU.esc_bad (hi:i+1<s.size) (hb:bt s i=92) (hin:za4 (bt s (i+1))=false):zde s=0:=by
 obtain ⟨b,hd,he⟩:=zdp s (i:=i) (by omega);obtain ⟨b',hd',he'⟩:=zdp s hi;unfold zeU at h;rw[h,hd,hd'];simp only[zb1];rw[if_neg (by omega),if_pos (by omega),he',hin]
 rfl
theorem zeU.esc_on (hi:i+1<s.size) (hb:bt s i=92) (hin:za4 (bt s (i+1))=true):zeU s (i+2):=by
 obtain ⟨b,hd,he⟩:=zdp s (i:=i) (by omega);obtain ⟨b',hd',he'⟩:=zdp s hi;unfold zeU at *;rw[h,hd,hd'];simp only[zb1];rw[if_neg (by omega),if_pos (by omega),he',hin]
 cases zb1 (s.data.toList.drop (i+1+1)) false with
 |none=>rfl
 |some k=>show k+1+1+i=k+(i+2);omega
theorem zeU.bad (hi:i<s.size) (h1:bt s i≠34) (h2:bt s i≠92) (hin:za4 (bt s i)=false):zde s=0:=by
 obtain ⟨b,hd,he⟩:=zdp s hi;unfold zeU at h;rw[h,hd];simp only[zb1];rw[if_neg (by omega),if_neg (by omega),he,hin]
 rfl
theorem zeU.on (hi:i<s.size) (h1:bt s i≠34) (h2:bt s i≠92) (hin:za4 (bt s i)=true):zeU s (i+1):=by
 obtain ⟨b,hd,he⟩:=zdp s hi;unfold zeU at *;rw[h,hd];simp only[zb1];rw[if_neg (by omega),if_neg (by omega),he,hin]
 cases zb1 (s.data.toList.drop (i+1)) false with
 |none=>rfl
 |some k=>show k+1+i=k+(i+1);omega
end
def zbP (l:List ByteArray):List ByteArray:=(l.map zes).filter fun x=>!decide (x.size=0)
theorem zfm (l m:List ByteArray):zbP (l++m)=zbP l++zbP m:=by simp[zbP]
theorem zht (x:ByteArray):zbP [x]=if (zes x).size=0 then [] else [zes x]:=by
 unfold zbP
 by_cases h:(zes x).size=0
 ·rw[if_pos h]
  simp only[List.map_cons,List.map_nil];rw[List.filter_cons_of_neg (by simp[h])]
  rfl
 ·rw[if_neg h]
  simp only[List.map_cons,List.map_nil];rw[List.filter_cons_of_pos (by simp[h])]
  rfl
inductive El where
 |out (cur:List UInt8) (acc:List ByteArray)
 |quo (cur:List UInt8) (acc:List ByteArray)
 |esc (cur:List UInt8) (acc:List ByteArray)
 |bad
def El.step:El→UInt8→El
 | .bad,_=>.bad
 | .out cur acc,c=>if (c.toNat:Int)=34 then .quo (cur++[c]) acc else if (c.toNat:Int)=44 then .out [] (acc++[⟨cur.toArray⟩]) else .out (cur++[c]) acc
 | .quo cur acc,c=>if (c.toNat:Int)=34 then .out (cur++[c]) acc else if (c.toNat:Int)=92 then .esc (cur++[c]) acc else if za4 (c.toNat:Int)=true then .quo (cur++[c]) acc else .bad
 | .esc cur acc,c=>if za4 (c.toNat:Int)=true then .quo (cur++[c]) acc else .bad
def El.fin:El→Option (List ByteArray)
 | .out cur acc=>some (zbP (acc++[⟨cur.toArray⟩]))
 |_=>none
def ze7 (l:List UInt8) (e:El):Option (List ByteArray):=(l.foldl El.step e).fin
def zek (s:ByteArray):Option (List ByteArray):=ze7 s.data.toList (.out [] [])
theorem zl1 (e:El):ze7 [] e=e.fin:=rfl
theorem zdu (c:UInt8) (l:List UInt8) (e:El):ze7 (c::l) e=ze7 l (e.step c):=rfl
theorem zt9 (l:List UInt8):l.foldl El.step .bad= .bad:=by
 induction l with
 |nil=>rfl
 |cons c l ih=>rw[List.foldl_cons];exact ih
theorem zmc (l:List UInt8):ze7 l .bad=none:=by unfold ze7;rw[zt9];rfl
theorem zl2 (l:List UInt8):∀(cur:List UInt8) (acc:List ByteArray),
  (ze7 l (.quo cur acc)=match zb1 l false with|none=>none|some k=>ze7 (l.drop k) (.out (cur++l.take k) acc))∧
  (ze7 l (.esc cur acc)=match zb1 l true with|none=>none|some k=>ze7 (l.drop k) (.out (cur++l.take k) acc)):=by
 induction l with
 |nil=>intro cur acc;exact ⟨rfl,rfl⟩
 |cons c l ih=>
  intro cur acc;obtain ⟨ih1,ih2⟩:=ih (cur++[c]) acc
  constructor
  ·rw[zdu]
   simp only[El.step,zb1]
   by_cases h1:(c.toNat:Int)=34
   ·rw[if_pos h1,if_pos h1]
    rfl
   ·rw[if_neg h1,if_neg h1]
    by_cases h2:(c.toNat:Int)=92
    ·rw[if_pos h2,if_pos h2,ih2]
     cases zb1 l true with
     |none=>rfl
     |some k=>simp
    ·rw[if_neg h2,if_neg h2]
     by_cases h3:za4 (c.toNat:Int)=true
     ·rw[if_pos h3,if_pos h3,ih1]
      cases zb1 l false with
      |none=>rfl
      |some k=>simp
     ·rw[if_neg h3,if_neg h3,zmc]
  ·rw[zdu]
   simp only[El.step,zb1]
   by_cases h3:za4 (c.toNat:Int)=true
   ·rw[if_pos h3,if_pos h3,ih1]
    cases zb1 l false with
    |none=>rfl
    |some k=>simp
   ·rw[if_neg h3,if_neg h3,zmc]
def zfj (s:ByteArray) (a i:Nat) (acc:List ByteArray):Prop:=ze7 (s.data.toList.drop i) (.out (s.extract a i).data.toList acc)=zek s
theorem zfj.start (s:ByteArray):zfj s 0 0 []:=by
 unfold zfj zek;rw[zoZ]
 rfl
section
variable {s:ByteArray} {a i:Nat} {acc:List ByteArray} (h:zfj s a i acc)
include h
theorem zfj.end_ (hi:i=s.size):zek s=some (zbP (acc++[s.extract a s.size])):=by
 subst hi;unfold zfj at h;rw[←h,zli s (Nat.le_refl _),zl1];simp only[El.fin,zte]
theorem zfj.comma (_ha:a≤i) (hi:i<s.size) (hb:bt s i=44):zfj s (i+1) (i+1) (acc++[s.extract a i]):=by
 obtain ⟨b,hd,he⟩:=zdp s hi;unfold zfj at *;rw[←h,hd,zdu];simp only[El.step];rw[if_neg (by omega),if_pos (by omega),zoZ,zte]
theorem zfj.on (ha:a≤i) (hi:i<s.size) (h1:bt s i≠34) (h2:bt s i≠44):zfj s a (i+1) acc:=by
 obtain ⟨b,hd,he⟩:=zdp s hi;have hx:=ztY s ha hi hd;unfold zfj at *;rw[←h,hd,zdu];simp only[El.step];rw[if_neg (by omega),if_neg (by omega),hx]
theorem zfj.quo_none (_ha:a≤i) (hi:i<s.size) (hb:bt s i=34) (hq:zde (s.extract i s.size)=0):zek s=none:=by
 obtain ⟨b,hd,he⟩:=zdp s hi;have hr:zb1 (s.data.toList.drop (i+1)) false=none:=by
  cases e:zb1 (s.data.toList.drop (i+1)) false with
  |none=>rfl
  |some k=>
   have:=zhV (s:=s.extract i s.size) (k:=k) (by rw[zev,List.drop_drop];exact e)
   omega
 unfold zfj at h;rw[←h,hd,zdu];simp only[El.step];rw[if_pos (by omega),(zl2 _ _ _).1,hr]
theorem zfj.quo_on (ha:a≤i) (hi:i<s.size) (hb:bt s i=34) (hq:0<zde (s.extract i s.size)):zfj s a (i+zde (s.extract i s.size)) acc:=by
 obtain ⟨b,hd,he⟩:=zdp s hi
 cases e:zb1 (s.data.toList.drop (i+1)) false with
 |none=>
  have:=zkV (s:=s.extract i s.size) (by rw[zev,List.drop_drop];exact e)
  omega
 |some k=>
  have hk:=zoN _ _ _ e;rw[List.length_drop,size_eq] at hk;have hl:=zhV (s:=s.extract i s.size) (k:=k) (by rw[zev,List.drop_drop];exact e);rw[hl];unfold zfj at *;rw[←h,hd,zdu];simp only[El.step];rw[if_pos (by omega),(zl2 _ _ _).1,e];simp only;rw[List.drop_drop];have hx:(s.extract a (i+(k+1))).data.toList=(s.extract a i).data.toList++[b]++(s.data.toList.drop (i+1)).take k:=by
   rw[zgz,zgz,show i+(k+1) - a=(i - a)+(k+1) from by omega,List.take_add,List.drop_drop,show a+(i - a)=i from by omega,hd,List.take_succ_cons,List.append_assoc]
   rfl
  rw[hx]
  congr 2
  omega
end
theorem zqq (l:List ByteArray):((zbP l).map (·.size)).sum≤(l.map (·.size)).sum:=by
 induction l with
 |nil=>exact Nat.le_refl _
 |cons x l ih=>
  rw[show x::l=[x]++l from rfl,zfm,List.map_append,List.sum_append,List.map_append,List.sum_append];refine Nat.add_le_add ?_ ih;rw[zht];have:=zse x
  split<;>simp<;>omega
def zuq (l:List ByteArray):Prop:=∀x∈l,0<x.size
theorem zoD (l:List ByteArray):zuq (zbP l):=fun x hx=>by
 unfold zbP at hx;have h:decide (x.size=0)=false:=by simpa only[Bool.not_eq_true'] using (List.mem_filter.1 hx).2
 have:=of_decide_eq_false h
 omega
theorem zuq.le {l:List ByteArray} (h:zuq l):l.length≤(l.map (·.size)).sum:=by
 induction l with
 |nil=>exact Nat.le_refl _
 |cons x l ih=>
  have h1:=h x (by simp);have h2:=ih (fun y hy=>h y (by simp[hy]));simp only[List.length_cons,List.map_cons,List.sum_cons]
  omega
def El.weight:El→Nat
 | .out cur acc=>cur.length+(acc.map (·.size)).sum
 | .quo cur acc=>cur.length+(acc.map (·.size)).sum
 | .esc cur acc=>cur.length+(acc.map (·.size)).sum
 | .bad=>0
theorem El.step_weight (e:El) (c:UInt8):(e.step c).weight≤e.weight+1:=by
 have hm:∀l:List UInt8,(⟨l.toArray⟩:ByteArray).size=l.length:=fun l=>by rw[←size_eq]
 cases e with
 |bad=>exact Nat.zero_le _
 |out cur acc=>
  simp only[El.step]
  split
  ·simp only[El.weight,List.length_append,List.length_cons,List.length_nil];omega
  ·split
   ·simp only[El.weight,List.map_append,List.sum_append,List.map_cons,List.map_nil,List.sum_cons,List.sum_nil,hm,List.length_nil];omega
   ·simp only[El.weight,List.length_append,List.length_cons,List.length_nil];omega
 |quo cur acc=>
  simp only[El.step]
  split
  ·simp only[El.weight,List.length_append,List.length_cons,List.length_nil];omega
  ·split
   ·simp only[El.weight,List.length_append,List.length_cons,List.length_nil];omega
   ·split
    ·simp only[El.weight,List.length_append,List.length_cons,List.length_nil];omega
    ·exact Nat.zero_le _
 |esc cur acc=>
  simp only[El.step]
  split
  ·simp only[El.weight,List.length_append,List.length_cons,List.length_nil];omega
  ·exact Nat.zero_le _
theorem zne (l:List UInt8):∀(e:El) (x:List ByteArray),ze7 l e=some x→(x.map (·.size)).sum≤e.weight+l.length:=by
 induction l with
 |nil=>
  intro e x h
  cases e with
  |out cur acc=>
   rw[zl1] at h;simp only[El.fin,Option.some.injEq] at h;subst h;refine Nat.le_trans (zqq _) ?_;have hm:∀l:List UInt8,(⟨l.toArray⟩:ByteArray).size=l.length:=fun l=>by rw[←size_eq]
   simp only[El.weight,List.map_append,List.sum_append,List.map_cons,List.map_nil,List.sum_cons,List.sum_nil,hm,List.length_nil]
   omega
  |quo cur acc=>cases h
  |esc cur acc=>cases h
  |bad=>cases h
 |cons c l ih=>
  intro e x h;rw[zdu] at h;have h1:=ih _ _ h;have h2:=e.step_weight c;rw[List.length_cons]
  omega
theorem zpz (l:List UInt8) (e:El) (x:List ByteArray) (h:ze7 l e=some x):zuq x:=by
 unfold ze7 at h;generalize l.foldl El.step e=e' at h
 cases e' with
 |out cur acc=>
  simp only[El.fin,Option.some.injEq] at h;subst h;exact zoD _
 |quo cur acc=>cases h
 |esc cur acc=>cases h
 |bad=>cases h
theorem zet {s:ByteArray} {x:List ByteArray} (h:zek s=some x):(x.map (·.size)).sum≤s.size∧zuq x∧x.length≤s.size:=by
 have h1:=zne _ _ _ h;have h2:=zpz _ _ _ h;have h3:=h2.le;simp only[El.weight,List.map_nil,List.sum_nil,List.length_nil,Nat.zero_add,size_eq] at h1;exact ⟨h1,h2,by omega⟩
theorem ze9 {l:List ByteArray} {x:ByteArray} (h:x∈l):x.size≤(l.map (·.size)).sum:=by
 induction l with
 |nil=>cases h
 |cons y l ih=>
  simp only[List.map_cons,List.sum_cons]
  rcases List.mem_cons.1 h with rfl|h
  ·omega
  ·have:=ih h
   omega
end Go.Proofs.YtbnafbdhomdcoaaGreatDoor
namespace Go.Proofs.YtbnafbdhomdcoaaGreatDoor
def zaE (c:Int):Int:=if 48≤c∧c≤57 then c - 48 else if 97≤c∧c≤102 then c - 87 else if 65≤c∧c≤70 then c - 55 else -1
def zfH:ByteArray:=⟨#[48,49,50,51,52,53,54,55,56,57,97,98,99,100,101,102]⟩
theorem zc5 (c:Int):-1≤zaE c∧zaE c<16:=by
 unfold zaE
 split
 ·omega
 ·split
  ·omega
  ·split<;>omega
theorem zti {c:Int}:(0≤zaE c∧zaE c<10)↔(48≤c∧c≤57):=by
 unfold zaE
 split
 ·omega
 ·split
  ·omega
  ·split<;>omega
theorem zuE {c:Int} (h:48≤c∧c≤57):zaE c=c - 48:=by
 unfold zaE;rw[if_pos h]
theorem zsM (c:Int) (h0:0≤c) (h1:c<256):za7 zfH ((zdO (UInt8.ofNat c.toNat)).toNat:Int)=zaE c:=by
 obtain ⟨n,rfl⟩:=Int.eq_ofNat_of_zero_le h0;have key:∀n:Nat,n<256→za7 zfH ((zdO (UInt8.ofNat n)).toNat:Int)=zaE n:=by decide +kernel
 exact key n (by omega)
theorem ztW (s:ByteArray) {i:Nat} (h:i<s.size):bt (zaP s) i=((zdO (UInt8.ofNat (bt s i).toNat)).toNat:Int):=by
 have h':i<s.data.toList.length:=by rw[size_eq];exact h
 unfold bt zaP;simp only[List.getD_eq_getElem?_getD,List.getElem?_map,List.getElem?_eq_getElem h',Option.map_some,Option.getD_some,Int.toNat_natCast,UInt8.ofNat_toNat]
theorem zvn (s:ByteArray) {i:Nat} (h:i<s.size):za7 zfH (bt (zaP (s.extract i (i+1))) 0)=zaE (bt s i)∧0<(zaP (s.extract i (i+1))).size:=by
 have hz:=zk s (a:=i) (b:=i+1) (by omega) (by omega);have hb:bt (s.extract i (i+1)) 0=bt s i:=zbe s (j:=0) (by omega);rw[ztW _ (by omega),hb,zsM _ (zbS s i) (zdQ s i),zqg,hz];exact ⟨rfl,by omega⟩
def zgk (base:Int) (c:UInt8):Bool:=decide (0≤zaE (c.toNat:Int))&&decide (zaE (c.toNat:Int)<base)
def zch (base:Int) (l:List UInt8):Int:=l.foldl (fun n c=>n*base+zaE (c.toNat:Int)) 0
theorem zi8 (b:Int) (l:List UInt8) (c:UInt8):zch b (l++[c])=zch b l*b+zaE (c.toNat:Int):=by simp[zch]
theorem zdU {b:Int} {c:UInt8}:zgk b c=true↔(0≤zaE (c.toNat:Int)∧zaE (c.toNat:Int)<b):=by simp[zgk]
theorem zo6 {α:Type} {P:List α→Prop} (h0:P []) (h1:∀l c,P l→P (l++[c])) (l:List α):P l:=by
 have:∀m:List α,P m.reverse:=by
  intro m
  induction m with
  |nil=>exact h0
  |cons c m ih=>rw[List.reverse_cons];exact h1 _ _ ih
 have h:=this l.reverse
 rwa [List.reverse_reverse] at h
theorem zjA {b:Int} (hb:0≤b):∀l:List UInt8,l.all (zgk b)=true→0≤zch b l:=by
 refine zo6 (fun _=>Int.le_refl _) fun l c ih h=>?_
 rw[List.all_append] at h;simp only[List.all_cons,List.all_nil,Bool.and_true,Bool.and_eq_true] at h;have h1:=ih h.1;have h2:=(zdU.1 h.2).1;have h3:=Int.mul_nonneg h1 hb;rw[zi8]
 omega
def zbY (s:ByteArray) (most base:Int):Int×Int:=
 if s.size=0∨s.data.toList.all (zgk base)=false then (0,11) else if most<zch base s.data.toList then (0,12) else (zch base s.data.toList,0)
def zdY (base:Int) (s:ByteArray) (k:Nat):Prop:=(s.data.toList.take k).all (zgk base)=true
theorem zrn (s:ByteArray) {i:Nat} (h:i<s.size):∃c:UInt8,s.data.toList.take (i+1)=s.data.toList.take i++[c]∧(c.toNat:Int)=bt s i:=by
 have h':i<s.data.toList.length:=by rw[size_eq];exact h
 refine ⟨s.data.toList[i],List.take_succ_eq_append_getElem h',?_⟩;unfold bt;rw[List.getD_eq_getElem?_getD,List.getElem?_eq_getElem h']
 rfl
theorem zfu (s:ByteArray):s.data.toList.take s.size=s.data.toList:=List.take_of_length_le (by rw[size_eq];exact Nat.le_refl _)
section
variable {s:ByteArray} {base:Int}
theorem zdY.zero:zdY base s 0:=by unfold zdY;rw[List.take_zero];rfl
theorem zdY.succ {k:Nat} (h:zdY base s k) (hk:k<s.size) (h0:0≤zaE (bt s k)) (h1:zaE (bt s k)<base):zdY base s (k+1):=by
 obtain ⟨c,hc,he⟩:=zrn s hk;unfold zdY at *;rw[hc,List.all_append,h];simp[zdU,he,h0,h1]
theorem zfd {k:Nat} (hk:k<s.size):zch base (s.data.toList.take (k+1))=zch base (s.data.toList.take k)*base+zaE (bt s k):=by
 obtain ⟨c,hc,he⟩:=zrn s hk;rw[hc,zi8,he]
theorem zdY.pos {k:Nat} (h:zdY base s k) (hb:0≤base):0≤zch base (s.data.toList.take k):=zjA hb _ h
variable {most:Int}
theorem zhu (h:s.size=0):zbY s most base=(0,11):=by unfold zbY;rw[if_pos (.inl h)]
theorem zlu {k:Nat} (hk:k<s.size) (h:zaE (bt s k)<0∨base≤zaE (bt s k)):zbY s most base=(0,11):=by
 have hl:k<s.data.toList.length:=by rw[size_eq];exact hk
 have:s.data.toList.all (zgk base)=false:=by
  rw[List.all_eq_false];refine ⟨s.data.toList[k],List.getElem_mem hl,?_⟩;rw[zdU];have e:((s.data.toList[k].toNat:Nat):Int)=bt s k:=by
   unfold bt;rw[List.getD_eq_getElem?_getD,List.getElem?_eq_getElem hl]
   rfl
  rw[e]
  omega
 unfold zbY;rw[if_pos (.inr this)]
theorem zlr (hz:0<s.size) (h:zdY base s s.size) (hb:most<zch base (s.data.toList.take s.size)):zbY s most base=(0,12):=by
 unfold zdY at h;rw[zfu] at h hb;unfold zbY;rw[if_neg (by
   rintro (h1|h1)
   ·omega
   ·rw[h] at h1;cases h1),if_pos hb]
theorem zjR (hz:0<s.size) (h:zdY base s s.size) (hb:¬most<zch base (s.data.toList.take s.size)):zbY s most base=(zch base (s.data.toList.take s.size),0):=by
 unfold zdY at h;rw[zfu] at *;unfold zbY;rw[if_neg (by
   rintro (h1|h1)
   ·omega
   ·rw[h] at h1;cases h1),if_neg hb]
end
theorem zkX (s:ByteArray) (most:Int) (h:0≤most):0≤(zbY s most 10).1∧(zbY s most 10).1≤most∧0≤(zbY s most 10).2∧(zbY s most 10).2≤12:=by
 unfold zbY
 split
 ·simp;omega
 ·split
  ·simp;omega
  ·rename_i h1 h2
   have h3:s.data.toList.all (zgk 10)=true:=by
    cases e:s.data.toList.all (zgk 10)
    ·exact absurd (.inr e) h1
    ·rfl
   have:=zjA (b:=10) (by omega) _ h3;simp only
   omega
def zb5 (l:List ByteArray) (s:ByteArray):Bool:=l.any fun x=>decide (x=s)
theorem zkp {l:List ByteArray} {s:ByteArray}:zb5 l s=true↔s∈l:=by
 unfold zb5;rw[List.any_eq_true]
 constructor
 ·rintro ⟨x,hx,h⟩
  have:=of_decide_eq_true h
  rwa [this] at hx
 ·intro h
  exact ⟨s,h,decide_eq_true rfl⟩
end Go.Proofs.YtbnafbdhomdcoaaGreatDoor
namespace Go.Proofs.YtbnafbdhomdcoaaGreatDoor
open Go.RowKit
structure zbM (w:World) (b:Nat) (l:List UInt8):Prop where
 cell:∀j,j<l.length→w.cell? ⟨b,j,none⟩=some (.int .u8 ((l.getD j 0).toNat:Int))
 free:∀j,j<l.length→w.frozen? ⟨b,j,none⟩=false
theorem zbM.of_conv (w:World) (e:TypeId) (s:ByteArray):zbM (Lib.bytesWorld w e s) w.heap.size s.data.toList:=by
 have hz:=size_eq s;refine ⟨fun j hj=>Lib.bytesWorld_cell w e s j (by omega),fun j hj=>?_⟩;have h:=Lib.bytesWorld_at_new w e s;have hc:s.size≤(Lib.bytesCells w e s).size:=by
  have:s.data.size=s.size:=rfl;simp[Lib.bytesCells]
 simp[World.frozen?,h]
 omega
theorem zbM.set {w:World} {b k:Nat} {l:List UInt8} (h:zbM w b l) (hk:k<l.length) (c:UInt8) (v:Int) (hv:v=(c.toNat:Int)):
  zbM (w.setCell ⟨b,k,none⟩ (.int .u8 v)) b (l.set k c):=by
 subst hv;refine ⟨fun j hj=>?_,fun j hj=>?_⟩
 ·rw[List.length_set] at hj
  by_cases e:j=k
  ·subst e
   rw[World.cell?_setCell_same w _ _ (h.cell j hj)];simp[List.getD,hk]
  ·rw[World.cell?_setCell_other w _ _ _ (by intro x;injection x with _ x;exact e x.symm),h.cell j hj]
   simp[List.getD,Ne.symm e]
 ·rw[List.length_set] at hj
  rw[World.frozen?_setCell];exact h.free j hj
theorem zeW (w:World) (e:TypeId) (s:ByteArray):Below w.heap.size w (Lib.bytesWorld w e s):=
 ⟨rfl,rfl,rfl,by rw[Lib.bytesWorld_size];omega,fun k hk=>Lib.bytesWorld_at_old w e s k hk⟩
theorem zbM.conv {P:Program} {w:World} {b:Nat} {l:List UInt8} (h:zbM w b l) {src dst e:TypeId} (hs:P.underlying src=some (.slice e)) (he:P.underlying e=some (.int .u8)) (hd:P.underlying dst=some .string) (cap:Nat):
  (convert src dst (.slice (some ⟨b,0,none⟩) l.length cap)).run P w= .ok (.string ⟨l.toArray⟩) w:=by
 have h1:=run_convert_bytes_arg (P:=P) w src e hs he b 0 l.length cap (l.map fun c=>(c.toNat:Int)) (by simp) (fun i hi=>by
  rw[Nat.zero_add,h.cell i hi];simp[List.getD,hi]) dst hd
 rw[h1]
 congr 2
 apply ByteArray.ext
 apply Array.ext'
 rw[strOfNums_data,List.map_map];exact (List.map_congr_left fun c _=>by simp[Function.comp]).trans (List.map_id l)
end Go.Proofs.YtbnafbdhomdcoaaGreatDoor
