/-
  Oct, Sli, Pline, All, Append, Build, ChP, Fl, ChR, TgC, TgH, TgT, TgB, without what the claim does not reach.
-/
import Derived.Test.YtbnafbdhomdcoaaGreatDoorZm0
import Derived.Test.YtbnafbdhomdcoaaGreatDoorZShelf
import Derived.WalkLawsBesides
import Derived.WalkSpells
import Derived.Outline
import Derived.Lib.Hide
import Derived.OwnWalk
import Derived.Deep.AppendLies
import Derived.Deep.Onto
import Derived.Deep.DeepFit
import Derived.Maps.AppendAt
import Derived.RegionTactic
import Derived.Deep.Draws
import Derived.Shelf.Strings.BuilderK
import Derived.Deep.QuietTactic
import Derived.BigQuiet
import Derived.Test.YtbnafbdhomdcoaaGreatDoorZTgP
import Derived.Lib.SplitLaws
import Derived.Lib.ItoaNum
namespace Go.Proofs.YtbnafbdhomdcoaaGreatDoor
open Go.RowKit Go.Shelf Go.Lib
structure Glob (w:World):Prop where
 size:3≤w.heap.size
 cell:∀k:Nat,k<4→w.cell? ⟨0,k,none⟩=some (.int .u32 (zgZ.getD k 0))
 maxl:∃m,w.cell? ⟨1,0,none⟩=some (.int .i64 m)
theorem Glob.below {B:Nat} {w w':World} (h:Glob w) (hb:Below B w w') (hB:3≤B):Glob w':=
 ⟨Nat.le_trans h.size hb.size,fun k hk=>by rw[hb.cell (p:=⟨0,k,none⟩) (show 0<B by omega)];exact h.cell k hk,by rw[hb.cell (p:=⟨1,0,none⟩) (show 1<B by omega)];exact h.maxl⟩
theorem Glob.beyond {w w':World} (h:Glob w) (hb:Below w.heap.size w w'):Glob w':=h.below hb h.size
theorem zd {a b:Bool} (h:a=b):Ending.returned (.bool a)= .returned (.bool b):=by rw[h]
theorem zp {k:IntKind} {a b:Int} (h:a=b):Ending.returned (.int k a)= .returned (.int k b):=by rw[h]
theorem zbz {a b:ByteArray} (h:a=b):Ending.returned (.string a)= .returned (.string b):=by rw[h]
theorem zpJ (c:Int) (w:World) (h0:128≤c):
  Calls Tryz.prog 90 #[.int .u8 c] w fun e w'=>e= .returned (.bool false)∧w=w':=by
 have hd:decide (c<128)=false:=by simpa using h0
 go_enter Tryz.func90,Tryz.ntmps90
 go_wp2
 go_ret
 exact ⟨rfl,rfl⟩
theorem znF (c v:Int) (w:World) (h0:0≤c) (h1:c<128) (hv:w.cell? ⟨0,(c / 32).toNat,none⟩=some (.int .u32 v)):
  Calls Tryz.prog 90 #[.int .u8 c] w fun e w'=>e= .returned (.bool (bits BinOp.and IntKind.u32 (v / 2 ^ (c % 32).toNat) 1==1))∧w=w':=by
 go_enter Tryz.func90,Tryz.ntmps90
 go_wp2
 go_ret
 exact ⟨rfl,rfl⟩
theorem zpG (c:Int) (w:World) (h0:0≤c) (hg:Glob w):
  Calls Tryz.prog 90 #[.int .u8 c] w fun e w'=>e= .returned (.bool (sign c))∧w=w':=by
 by_cases h:c<128
 ·rw[←ztV c h0 h]
  exact znF c _ w h0 h (hg.cell _ (by omega))
 ·rw[zuO c (by omega)]
  exact zpJ c w (by omega)
theorem zd9 (s:ByteArray) (w:World) (hs:s.size≤maxLen) (hg:Glob w):
  Calls Tryz.prog 54 #[.string s] w fun e w'=>e= .returned (.bool (zbn s))∧w=w':=by
 unfold maxLen at hs
 go_enter Tryz.func54,Tryz.ntmps54
 go_wp2
 go_loop [6] (fun i=>∃k:Nat,k≤s.size∧i= .int .i64 k∧zbx sign s k) (fun i=>s.size - (RowKit.intOf i).toNat)
 case atStart=>exact ⟨0,by omega,rfl,zbx.zero _ _⟩
 case round=>
  obtain ⟨k,hk,rfl,hall⟩:=hrel
  by_cases hlt:k<s.size
  ·have hb:=@zE s k hlt
   go_wp2_with (go_at_call 90;refine (zpG _ _ (by omega) hg).mono ?_;rintro e w' ⟨rfl,rfl⟩)
   ·have h:(!sign (bt s k))=true:=by assumption
    go_ret
    exact ⟨zd (by simp[zbn,zaB hlt (by simpa using h)]),rfl⟩
   ·have h:(!sign (bt s k))=false:=by assumption
    go_round
    case rel=>exact ⟨k+1,by omega,by go_num,hall.succ (by simpa using h)⟩
    case measure=>simp[RowKit.intOf];omega
  ·obtain rfl:k=s.size:=by omega
   go_wp2
   go_ret
   exact ⟨zd (by rw[zbn,zaU hall,zo];simp),rfl⟩
theorem zdW (w:World) (s:ByteArray):(convert 9 80 (.string s)).run Tryz.prog w= .ok (.slice (some ⟨w.heap.size,0,none⟩) s.size (grownCap w s.size 0 5)) (Lib.bytesWorld w 5 s):=
 Lib.run_convert_string_bytes w _ _ _ s Tryz.underlying9 Tryz.underlying80 Tryz.underlying5
set_option maxRecDepth 20000 in
theorem zdA (s:ByteArray) (w:World) (hs:s.size≤maxLen):
  Calls Tryz.prog 157 #[.string s] w fun e w'=>e= .returned (.string (zaP s))∧Below w.heap.size w w':=by
 unfold maxLen at hs;have hcv:=zdW w s;have hbw:=Lib.bytesWorld_size w 5 s;have hba:=zbM.of_conv w 5 s;have hbl:=zeW w 5 s;generalize Lib.bytesWorld w 5 s=w1 at hcv hbw hba hbl;generalize grownCap w s.size 0 5=cap at hcv;have HW:=hid hbw;clear hbw
 go_enter Tryz.func157,Tryz.ntmps157
 go_wp2
 go_loopw [10] (fun i wr=>∃k:Nat,k≤s.size∧i= .int .i64 k∧zbM wr w.heap.size (zdP zdO s.data.toList k)∧Below w.heap.size w wr∧w.heap.size<wr.heap.size) (fun i _=>s.size - (RowKit.intOf i).toNat)
 case atStart=>exact ⟨0,by omega,rfl,by rw[zeP];exact hba,hbl,by have:=HW.out;omega⟩
 case round=>
  obtain ⟨k,hk,rfl,hb,hbl',hlt'⟩:=hrel
  by_cases hlt:k<s.size
  ·have hkl:k<s.data.toList.length:=by rw[size_eq];exact hlt
   have hc:=hb.cell k (by rw[zU];exact hkl);have hf:=hb.free k (by rw[zU];exact hkl);rw[zeA zdO _ _ hkl] at hc;change wr.cell? _=some (.int .u8 (bt s k)) at hc
   by_cases hu:65≤bt s k∧bt s k≤90
   ·obtain ⟨hu1,hu2⟩:=hu
    have h1:=zdQ s k
    go_wp2
    go_roundw
    case rel=>exact ⟨k+1,by omega,by go_num,by rw[zeN zdO _ _ hkl];exact hb.set (by rw[zU];exact hkl) _ _ (by unfold bt;rw[ziB ⟨hu1,hu2⟩];omega),hbl'.setCell (Nat.le_refl _) _,by simpa using hlt'⟩
    case measure=>simp[RowKit.intOf];omega
   ·have hsame:=zeS zdO _ _ hkl (zgO hu)
    have HS:=hid hsame;clear hsame;have hu':bt s k<65∨90<bt s k:=by omega
    clear hu
    rcases hu' with hu|hu
    all_goals
     go_wp2
     go_roundw
     case rel=>exact ⟨k+1,by omega,by go_num,by rw[HS.out];exact hb,hbl',hlt'⟩
     case measure=>simp[RowKit.intOf];omega
  ·obtain rfl:k=s.size:=by omega
   have hcv:=hb.conv Tryz.underlying80 Tryz.underlying5 Tryz.underlying9 cap;rw[zU,size_eq,←size_eq s,zfC,size_eq] at hcv
   go_wp2
   go_ret
   exact ⟨rfl,hbl'⟩
theorem zcH (c:Int) (w:World):
  Calls Tryz.prog 135 #[.int .u8 c] w fun e w'=>e= .returned (.bool (za4 c))∧w=w':=by
 have hs:c=9∨(c<32∧(c==9)=false)∨c=127∨(32≤c∧(c==9)=false∧(c !=127)=true):=by simp only[beq_eq_false_iff_ne,bne_iff_ne,ne_eq];omega
 rcases hs with rfl|⟨h1,h2⟩|rfl|⟨h1,h2,h3⟩
 all_goals
  go_enter Tryz.func135,Tryz.ntmps135
  go_wp2
  go_ret
  first|exact ⟨rfl,rfl⟩|exact ⟨zd (zhO h1 h2).symm,rfl⟩|exact ⟨zd (zgu h1 h3).symm,rfl⟩
set_option maxRecDepth 20000 in
theorem zd7 (s:ByteArray) (w:World) (hs:s.size≤maxLen):
  Calls Tryz.prog 91 #[.string s] w fun e w'=>e= .returned (.bool (zcb s))∧w=w':=by
 unfold maxLen at hs
 go_enter Tryz.func91,Tryz.ntmps91
 go_wp2
 go_loop [6] (fun i=>∃k:Nat,k≤s.size∧i= .int .i64 k∧zbx za4 s k) (fun i=>s.size - (RowKit.intOf i).toNat)
 case atStart=>exact ⟨0,by omega,rfl,zbx.zero _ _⟩
 case round=>
  obtain ⟨k,hk,rfl,hall⟩:=hrel
  by_cases hlt:k<s.size
  ·have hb:=@zE s k hlt
   go_wp2_with (go_at_call 135;refine (zcH _ _).mono ?_;rintro e w' ⟨rfl,rfl⟩)
   ·have h:(!za4 (bt s k))=true:=by assumption
    go_ret
    exact ⟨zd (by rw[zcb,zaB hlt (by simpa using h)]),rfl⟩
   ·have h:(!za4 (bt s k))=false:=by assumption
    go_round
    case rel=>exact ⟨k+1,by omega,by go_num,hall.succ (by simpa using h)⟩
    case measure=>simp[RowKit.intOf];omega
  ·obtain rfl:k=s.size:=by omega
   go_wp2
   go_ret
   exact ⟨zd (by rw[zcb,zaU hall]),rfl⟩
theorem zpi (s:ByteArray) (w:World) (hs:s.size≤9223372036854775807):
  Calls Tryz.prog 136 #[.string s,.string ⟨#[32,9]⟩] w fun e w'=>e= .returned (.string (zes s))∧Below w.heap.size w w':=Any.strings_Trim_laid Tryz.lays160 (by kernel_rfl) s ⟨#[32,9]⟩ w hs (by decide) (ascii_of_all (by decide))
theorem zkz (s:ByteArray) (w:World) (hs:s.size≤maxLen):
  Calls Tryz.prog 92 #[.string s] w fun e w'=>e= .returned (.string (zes s))∧Below w.heap.size w w':=by
 unfold maxLen at hs
 go_enter Tryz.func92,Tryz.ntmps92
 go_wp2_with (go_at_call 136;refine (zpi _ _ (by omega)).mono ?_;rintro e w' ⟨rfl,hb⟩)
 go_ret
 exact ⟨rfl,hb⟩
theorem za2 (s:ByteArray) (c:Int) (w:World) (h0:0≤c) (h1:c<256):
  Calls Tryz.prog 101 #[.string s,.int .u8 c] w fun e w'=>e= .returned (.int .i64 (za7 s c))∧w=w':=
 (Tryz.strings_IndexByte s c w).mono fun _ _ ⟨he,hw⟩=>⟨by rw[he,zda s c h0 h1],hw.symm⟩
theorem zfz (a b:ByteArray) (w:World) (ha:a.size≤maxLen) (hb:b.size≤maxLen):
  Calls Tryz.prog 105 #[.string a,.string b] w fun e w'=>e= .returned (.bool (zbu a b))∧Below w.heap.size w w':=by
 go_enter Tryz.func105,Tryz.ntmps105
 go_wp2_with fail
 refine (zdA a _ ha).mono ?_;rintro e w1 ⟨rfl,hb1⟩
 go_wp2_with fail
 refine (zdA b _ hb).mono ?_;rintro e w2 ⟨rfl,hb2⟩
 go_wp2
 go_ret
 exact ⟨zd (by rw[zbu,←zaj]),hb1.trans (hb2.mono hb1.size)⟩
end Go.Proofs.YtbnafbdhomdcoaaGreatDoor
namespace Go.Proofs.YtbnafbdhomdcoaaGreatDoor
open Go.RowKit
def Row (w:World) (A:Option Addr) (xs:List Value):Prop:=0<xs.length→∃b off,A=some ⟨b,off,none⟩∧b<w.heap.size∧∀j v,xs[j]?=some v→w.cell? ⟨b,off+j,none⟩=some v
section
variable {w w':World} {A:Option Addr} {xs:List Value}
theorem Row.nil (w:World) (A:Option Addr):Row w A []:=fun h=>by simp at h
theorem Row.keep (h:Row w A xs) (hs:w.heap.size≤w'.heap.size) (hk:∀p:Addr,p.block<w.heap.size→w'.cell? p=w.cell? p):Row w' A xs:=fun hn=>by
 obtain ⟨b,off,e,hb,hc⟩:=h hn;exact ⟨b,off,e,by omega,fun j v hv=>(hk ⟨b,off+j,none⟩ hb).trans (hc j v hv)⟩
theorem Row.below (h:Row w A xs) (hb:Below w.heap.size w w'):Row w' A xs:=h.keep hb.size fun _ hp=>hb.cell hp
theorem Row.drew (h:Row w A xs):Row w.drew A xs:=h
theorem Row.alloc (h:Row w A xs) (o:Obj):Row (w.alloc o) A xs:=h.keep (by simp) fun p hp=>World.cell?_alloc_lt w o p hp
theorem Row.at_ (h:Row w A xs) {j:Nat} {v:Value} (hv:xs[j]?=some v):∃b off,A=some ⟨b,off,none⟩∧b<w.heap.size∧∀i u,xs[i]?=some u→w.cell? ⟨b,off+i,none⟩=some u:=
 h (by
  have:=(List.getElem?_eq_some_iff.1 hv).1
  omega)
end
def zj (l:List (ByteArray×ByteArray)):List Value:=l.flatMap fun p=>[.string p.1,.string p.2]
theorem zK (l:List (ByteArray×ByteArray)):(zj l).length=l.length*2:=by
 induction l with
 |nil=>rfl
 |cons p l ih=>
  show (zj l).length+2=_;rw[ih,List.length_cons]
  omega
theorem zX (l m:List (ByteArray×ByteArray)):zj (l++m)=zj l++zj m:=by simp[zj]
theorem ztK {l:List (ByteArray×ByteArray)} {k:Nat} {x y:ByteArray} (h:l[k]?=some (x,y)):(zj l)[k*2]?=some (.string x)∧(zj l)[k*2+1]?=some (.string y):=by
 induction l generalizing k with
 |nil=>simp at h
 |cons p l ih=>
  cases k with
  |zero=>
   simp at h;subst h;exact ⟨rfl,rfl⟩
  |succ k=>
   have:=ih (k:=k) (by simpa using h);have e:zj (p::l)= .string p.1:: .string p.2::zj l:=rfl;rw[e,show (k+1)*2=k*2+1+1 from by omega,show k*2+1+1+1=(k*2+1)+1+1 from rfl]
   simpa using this
theorem ztd {l:List (ByteArray×ByteArray)} {j:Nat} {v:Value} (h:(zj l)[j]?=some v):∃(i:Nat) (x y:ByteArray),l[i]?=some (x,y)∧((j=i*2∧v= .string x)∨(j=i*2+1∧v= .string y)):=by
 induction l generalizing j with
 |nil=>simp[zj] at h
 |cons p l ih=>
  obtain ⟨x,y⟩:=p;have e:zj ((x,y)::l)= .string x:: .string y::zj l:=rfl;rw[e] at h
  match j with
  |0=>exact ⟨0,x,y,rfl,.inl ⟨rfl,by simpa using h.symm⟩⟩
  |1=>exact ⟨0,x,y,rfl,.inr ⟨rfl,by simpa using h.symm⟩⟩
  |j+2=>
   obtain ⟨i,x',y',hi,hj⟩:=ih (j:=j) (by simpa using h);refine ⟨i+1,x',y',by simpa using hi,?_⟩
   rcases hj with ⟨h1,h2⟩|⟨h1,h2⟩
   ·exact .inl ⟨by omega,h2⟩
   ·exact .inr ⟨by omega,h2⟩
theorem zA (l:List (ByteArray×ByteArray)):∀u∈zj l,u.oneCell'=true:=by
 intro u hu;simp only[zj,List.mem_flatMap] at hu;obtain ⟨p,_,hp⟩:=hu;simp at hp
 rcases hp with rfl|rfl<;>rfl
theorem za5 (l:List ByteArray):∀u∈l.map Value.string,u.oneCell'=true:=by
 intro u hu;obtain ⟨s,_,rfl⟩:=List.mem_map.1 hu
 rfl
theorem Row.pair {w:World} {A:Option Addr} {l:List (ByteArray×ByteArray)} {k:Nat} {x y:ByteArray} (h:Row w A (zj l)) (hk:l[k]?=some (x,y)):
  ∃b off,A=some ⟨b,off,none⟩∧b<w.heap.size∧w.cell? ⟨b,off+k*2,none⟩=some (.string x)∧w.cell? ⟨b,off+k*2+1,none⟩=some (.string y):=by
 obtain ⟨h0,h1⟩:=ztK hk;obtain ⟨b,off,e,hb,hc⟩:=h.at_ h0;exact ⟨b,off,e,hb,hc _ _ h0,by rw[Nat.add_assoc];exact hc _ _ h1⟩
theorem Row.str {w:World} {A:Option Addr} {l:List ByteArray} {k:Nat} {x:ByteArray} (h:Row w A (l.map .string)) (hk:l[k]?=some x):
  ∃b off,A=some ⟨b,off,none⟩∧b<w.heap.size∧w.cell? ⟨b,off+k,none⟩=some (.string x):=by
 have h0:(l.map Value.string)[k]?=some (.string x):=by rw[List.getElem?_map,hk];rfl
 obtain ⟨b,off,e,hb,hc⟩:=h.at_ h0;exact ⟨b,off,e,hb,hc _ _ h0⟩
theorem zD {α:Type} {l:List α} {k:Nat} (h:k<l.length):∃x,l[k]?=some x:=⟨l[k],List.getElem?_eq_getElem h⟩
theorem zb6 {α:Type} {l:List α} {k:Nat} {x:α} (h:l[k]?=some x):l.take (k+1)=l.take k++[x]:=by
 obtain ⟨hk,rfl⟩:=List.getElem?_eq_some_iff.1 h;exact List.take_succ_eq_append_getElem hk
theorem zky {α:Type} {l:List α} {k:Nat} {x:α} (h:l[k]?=some x):k<l.length:=(List.getElem?_eq_some_iff.1 h).1
abbrev Fl:=ByteArray×ByteArray
def zbT (l:List (ByteArray×ByteArray)):Nat:=(l.map fun p=>p.1.size+p.2.size+3).sum
def zd6 (l:List Fl):Prop:=∀p∈l,p.1.size≤maxLen∧p.2.size≤maxLen
theorem zd6.at_ {l:List Fl} (h:zd6 l) {k:Nat} {x y:ByteArray} (hk:l[k]?=some (x,y)):x.size≤maxLen∧y.size≤maxLen:=h _ (List.mem_of_getElem? hk)
section
variable {w w':World} {base:Nat} {e:TypeId} {size n:Nat} {v:Value} {xs:List Value}
theorem zW (h:w.ownsRow base e size v n xs) (hb:Below w.heap.size w w'):w'.ownsRow base e size v n xs:=
 h.kept (row:=none) ⟨hb.os,hb.tape,hb.output,hb.size,fun k hk _=>hb.block k hk⟩ (by
  cases hv:v.ownBlock with
  |none=>exact .inl rfl
  |some k=>exact .inr (by simp))
theorem zC (h:w.ownsRow base e size v n xs):∃A c,v= .slice A n c:=by
 rcases h.2 with ⟨rfl,rfl⟩|⟨g,cap,cur,rfl,_⟩
 ·exact ⟨none,0,rfl⟩
 ·exact ⟨_,_,rfl⟩
theorem zak {A:Option Addr} {c:Nat} (h:w.ownsRow base e size (.slice A n c) n xs):Row w A xs:=fun hx=>by
 have hn:0<n:=by
  rcases Nat.eq_zero_or_pos n with h0|h0
  ·subst h0
   have:=h.1;simp at this;rw[this] at hx;simp at hx
  ·exact h0
 obtain ⟨g,cap,hv,_,hlt⟩:=h.form hn;have hA:A=some ⟨g,0,none⟩:=by injection hv
 subst hA;refine ⟨g,0,rfl,hlt,fun j u hu=>?_⟩;have:=h.cells (g:=g) rfl j u hu;rw[Nat.zero_add];unfold Addr.add at this
 split at this
 ·rename_i h0
  rw[h0];exact this
 ·simpa using this
theorem zdq {A:Option Addr} {cap:Nat} (h:w.ownsRow base e size (.slice A n cap) n xs):n≤cap:=by
 rcases h.2 with ⟨hv,hn⟩|⟨g,cap',cur,hv,_,_,hc,_⟩
 ·omega
 ·injection hv with _ _ hv
  omega
theorem zI (h:w.ownsRow base e size v n xs):∀k,v.ownBlock=some k→base≤k:=fun k hk=>(h.lt k hk).1
end
end Go.Proofs.YtbnafbdhomdcoaaGreatDoor
namespace Go.Proofs.YtbnafbdhomdcoaaGreatDoor
open Go.RowKit Go.Shelf Go.Lib
theorem Glob.alloc {w:World} (h:Glob w) (o:Obj):Glob (w.alloc o):=h.beyond ((Below.refl w.heap.size w).alloc (Nat.le_refl _) o)
theorem zvq {w w1:World} {x y:Value} {t:TypeId} (h:Below (w.heap.size+1) (w.alloc (.cells #[x,y] t)) w1):
  (w1.cell? ⟨w.heap.size,0,none⟩=some x∧w1.cell? ⟨w.heap.size,1,none⟩=some y)∧(w1.frozen? ⟨w.heap.size,0,none⟩=false∧w1.frozen? ⟨w.heap.size,1,none⟩=false)∧w.heap.size<w1.heap.size:=by
 refine ⟨⟨?_,?_⟩,⟨?_,?_⟩,?_⟩
 ·rw[h.cell (p:=⟨w.heap.size,0,none⟩) (by simp)];simp
 ·rw[h.cell (p:=⟨w.heap.size,1,none⟩) (by simp)];simp
 ·rw[h.frozen (p:=⟨w.heap.size,0,none⟩) (by simp)];simp
 ·rw[h.frozen (p:=⟨w.heap.size,1,none⟩) (by simp)];simp
 ·have:=h.size;simp at this;omega
theorem zw {w w1:World} {o:Obj} (h:Below (w.heap.size+1) (w.alloc o) w1):Below w.heap.size w w1:=
 ((Below.refl w.heap.size w).alloc (Nat.le_refl _) o).trans (h.mono (by omega))
theorem zcx:(Tryz.prog.info? 9).map (fun i=>(i.zero,i.size,i.bytes))=some (some (.string ⟨#[]⟩),1,16):=by kernel_rfl
def za9 (l:List Fl) (name:ByteArray):List ByteArray:=(l.filter fun p=>zbu p.1 name).map (·.2)
theorem zhk {l:List Fl} {name:ByteArray} {k:Nat} {x y:ByteArray} (h:l[k]?=some (x,y)):
  za9 (l.take (k+1)) name=if zbu x name=true then za9 (l.take k) name++[y] else za9 (l.take k) name:=by
 rw[zb6 h];unfold za9;rw[List.filter_append,List.map_append]
 cases e:zbu x name<;>simp[e]
theorem zed (l:List Fl) (name:ByteArray):(za9 l name).length≤l.length:=by
 unfold za9;rw[List.length_map];exact List.length_filter_le _ _
def zfF (w:World) (ss:List ByteArray) (e:Ending) (w':World):Prop:=
 ∃A c,e= .returned (.slice A ss.length c)∧w'.ownsRow w.heap.size 9 1 (.slice A ss.length c) ss.length (ss.map .string)∧Below w.heap.size w w'
set_option maxRecDepth 20000 in
set_option maxHeartbeats 1000000 in
theorem zm3 (A:Option Addr) (c:Nat) (l:List Fl) (name:ByteArray) (w:World) (hr:Row w A (zj l)) (hl:l.length≤4398046511104) (hw:zd6 l) (hn:name.size≤maxLen):
  Calls Tryz.prog 156 #[.slice A l.length c,.string name] w (zfF w (za9 l name)):=by
 obtain ⟨i0,hi0,hz0,hz1,hz2⟩:=info_parts zcx
 go_enter Tryz.func156,Tryz.ntmps156
 go_wp2
 go_loopw [5,10] (fun v i wr=>∃k:Nat,k≤l.length∧i= .int .i64 k∧wr.ownsRow w.heap.size 9 1 v (za9 (l.take k) name).length ((za9 (l.take k) name).map .string)∧Below w.heap.size w wr) (fun _ i _=>l.length - (RowKit.intOf i).toNat)
 case atStart=>exact ⟨0,by omega,rfl,World.ownsRow_nil _ _ _ _,Below.refl _ _⟩
 case round=>
  obtain ⟨k,hk,rfl,hown,hbw⟩:=hrel
  by_cases hlt:k<l.length
  ·obtain ⟨⟨x,y⟩,hxy⟩:=zD hlt
   obtain ⟨b,off,rfl,hb,h0,h1⟩:=(hr.below hbw).pair hxy;have hwx:=(hw.at_ hxy).1;have HX:=hid hxy;clear hxy;have hlen:=zed (l.take k) name;have hlk:(za9 (l.take k) name).length≤k:=Nat.le_trans hlen (List.length_take_le _ _);clear hlen
   go_wp2_with fail
   refine (zfz x name _ hwx hn).mono ?_;rintro e w1 ⟨rfl,hb1⟩;have hb1':Below (wr.heap.size+1) (wr.alloc (.cells #[.string x,.string y] 59)) w1:=by simpa using hb1
   obtain ⟨⟨hc0,hc1⟩,_,hsz⟩:=zvq hb1';have hbw1:Below w.heap.size w w1:=hbw.trans ((zw hb1').mono hbw.size);have hown1:=zW (hown.alloc _) hb1;clear hb1 hb1' h0 h1 hown
   cases hal:zbu x name
   ·have HS:=hid (zhk (name:=name) HX.out)
    go_wp2
    go_roundw
    case rel=>exact ⟨k+1,by omega,by go_num,by rw[HS.out,if_neg (by rw[hal];simp)];exact hown1,hbw1⟩
    case measure=>simp[RowKit.intOf];omega
   ·have HS:=hid (zhk (name:=name) HX.out)
    go_wp2_with (at_builtin;refine wpList_append_own _ rfl _ _ 22 rfl w.heap.size 9 i0 (.string ⟨#[]⟩) 1 16 Tryz.underlying22 hi0 hz0 hz1 hz2 rfl (by decide) _ _ _ rfl (hown1.alloc _) ⟨w1.heap.size,0,none⟩ 1 1 [.string y] rfl rfl (cell_one_new _ _ _) ?c1 ?c2 ?c3 ?c4 ?c5)
    case c1=>exact za5 [y]
    case c2=>unfold maxLen;omega
    case c3=>omega
    case c4=>simp;have:=hbw1.size;omega
    case c5=>
     intro v' w2 hown2 hg2 _
     go_wp2
     go_roundw
     case rel=>exact ⟨k+1,by omega,by go_num,by rw[HS.out,if_pos hal,List.map_append,List.length_append];exact hown2,(hbw1.alloc hbw1.size _).grown hg2 (by simp;have:=hbw1.size;omega) (zI hown1)⟩
     case measure=>simp[RowKit.intOf];omega
  ·obtain rfl:k=l.length:=by omega
   rw[List.take_length] at hown;obtain ⟨A',c',rfl⟩:=zC hown
   go_wp2
   go_ret
   exact ⟨A',c',rfl,hown,hbw⟩
def zgn (l:List Fl) (name:ByteArray):ByteArray×Bool:=match za9 l name with
 |[]=>(⟨#[]⟩,false)
 |v::_=>(v,true)
set_option maxRecDepth 20000 in
theorem zuo (A:Option Addr) (c:Nat) (l:List Fl) (name:ByteArray) (w:World) (hr:Row w A (zj l)) (hl:l.length≤4398046511104) (hw:zd6 l) (hn:name.size≤maxLen):
  Calls Tryz.prog 113 #[.slice A l.length c,.string name] w fun e w'=>e= .returned (.tuple #[.string (zgn l name).1,.bool (zgn l name).2])∧Below w.heap.size w w':=by
 have hlen:=Nat.le_trans (zed l name) hl;have hA:=zm3 A c l name w hr hl hw hn
 cases hV:za9 l name with
 |nil=>
  have HF:=hid (show zgn l name=(⟨#[]⟩,false) by unfold zgn;rw[hV]);rw[hV] at hA;clear hV hlen
  go_enter Tryz.func113,Tryz.ntmps113
  go_wp2_with fail
  refine hA.mono ?_;rintro e w1 ⟨A',c',rfl,_,hb⟩
  go_wp2
  go_ret2
  exact ⟨by rw[HF.out];rfl,hb⟩
 |cons v vs=>
  have HF:=hid (show zgn l name=(v,true) by unfold zgn;rw[hV]);rw[hV] at hA hlen;simp only[List.length_cons] at hlen;clear hV
  go_enter Tryz.func113,Tryz.ntmps113
  go_wp2_with fail
  refine hA.mono ?_;rintro e w1 ⟨A',c',rfl,hown,hb⟩;obtain ⟨b,off,rfl,_,hc⟩:=(zak hown).str (k:=0) (x:=v) rfl;clear hown;have hpos:((vs.length:Int)+1==0)=false:=by simp;omega
  rw[List.length_cons];rw[Nat.add_zero] at hc
  go_wp2
  go_ret2
  exact ⟨by rw[HF.out];rfl,hb⟩
end Go.Proofs.YtbnafbdhomdcoaaGreatDoor
namespace Go.Proofs.YtbnafbdhomdcoaaGreatDoor
open Go.RowKit
def zop (w:World) (B size:Nat) (A:Option Addr) (n:Nat) (xs:List Value):Prop:=
 xs.length=n*size∧(0<n→∃ad,A=some ad∧ad.block<B∧∀j u,xs[j]?=some u→w.cell? (ad.add j)=some u)
section
variable {w w':World} {B B' size n:Nat} {A:Option Addr} {xs:List Value}
end
section
variable {w w':World} {g:Nat} {t:TypeId} {cs:Array Value}
end
section
variable {P:Program} (w:World)
theorem zij (base:Nat) (t ty e:TypeId) (i:TypeInfo) (size:Nat) (ht:P.underlying t=some (.slice e)) (hi:P.info? e=some i)
  (v:Value) (n:Nat) (xs:List Value) (hown:w.ownsRow base e size v n xs) (c:Nat):(Builtin.append_ #[t,t] ty #[v,.slice none 0 c]).run P w= .ok v w:=by
 rcases hown.2 with ⟨rfl,rfl⟩|⟨g,cap,cur,rfl,_,_,hnc,_⟩
 ·simp[Builtin.append_,run_underlying ht,sizeOf,typeInfo,hi,Builtin.lenOf,Builtin.firstCells]
 ·simp[Builtin.append_,run_underlying ht,sizeOf,typeInfo,hi,Builtin.lenOf,Builtin.firstCells,hnc,storeCells]
theorem zkI (base:Nat) (t ty e:TypeId) (i:TypeInfo) (z:Value) (size bytes:Nat) (ht:P.underlying t=some (.slice e)) (hi:P.info? e=some i) (hz:i.zero=some z)
  (hsize:i.size=size) (hby:i.bytes=bytes) (hzs:z.cells.size=size) (hsz:0<size)
  (v:Value) (n:Nat) (xs:List Value) (hown:w.ownsRow base e size v n xs)
  (B:Nat) (A:Option Addr) (m c:Nat) (news:List Value) (hr:zop w B size A m news) (h1:∀u∈news,u.oneCell'=true)
  (h63:n+m≤maxLen) (hbytes:(n+m)*bytes≤140737488355328) (hbase:base≤w.heap.size):
  ∃v' w',(Builtin.append_ #[t,t] ty #[v,.slice A m c]).run P w= .ok v' w'∧w'.ownsRow base e size v' (n+m) (xs++news)∧w.grownBy w' v.ownBlock∧
   (v'.ownBlock=v.ownBlock∨v'.ownBlock=some w.heap.size):=by
 rcases A with _|ad
 ·have hm:m=0:=by
   rcases Nat.eq_zero_or_pos m with h0|h0
   ·exact h0
   ·obtain ⟨ad,h,_⟩:=hr.2 h0
    cases h
  subst hm;have hn:news=[]:=List.eq_nil_of_length_eq_zero (by simpa using hr.1);subst hn;exact ⟨v,w,zij w base t ty e i size ht hi v n xs hown c,by simpa using hown,World.grownBy.refl w _,.inl rfl⟩
 ·have hcells:∀j u,news[j]?=some u→w.cell? (ad.add j)=some u:=by
   intro j u hu
   rcases Nat.eq_zero_or_pos m with h0|h0
   ·subst h0
    have hn:news=[]:=List.eq_nil_of_length_eq_zero (by simpa using hr.1);subst hn;simp at hu
   ·obtain ⟨ad',h,_,hc⟩:=hr.2 h0
    injection h with h;subst h;exact hc j u hu
  obtain ⟨v',w',hrun,h2,h3,_,h5⟩:=run_append_own_at (P:=P) w base t ty e i z size bytes ht hi hz hsize hby hzs hsz v n xs hown ad m c news hr.1 hcells h1 h63 hbytes hbase;exact ⟨v',w',hrun,h2,h3,h5⟩
theorem zhp {o:Oper} {a:Act} {K:Act→World→Prop} {Q:Exit→Act→World→Prop} (s x:Operand) (t:TypeId)
  (ho:o.op= .call {callee:=.builtin .append,args:=#[s,x],argTypes:=#[t,t]})
  (base:Nat) (e:TypeId) (i:TypeInfo) (z:Value) (size bytes:Nat) (ht:P.underlying t=some (.slice e)) (hi:P.info? e=some i) (hz:i.zero=some z)
  (hsize:i.size=size) (hby:i.bytes=bytes) (hzs:z.cells.size=size) (hsz:0<size)
  (v:Value) (n:Nat) (xs:List Value) (hs:a.eval s=v) (hown:w.ownsRow base e size v n xs)
  (B:Nat) (A:Option Addr) (m c:Nat) (news:List Value) (hx:a.eval x= .slice A m c) (hr:zop w B size A m news) (h1:∀u∈news,u.oneCell'=true)
  (h63:n+m≤maxLen) (hbytes:(n+m)*bytes≤140737488355328) (hbase:base≤w.heap.size)
  (h:∀v' w',w'.ownsRow base e size v' (n+m) (xs++news)→w.grownBy w' v.ownBlock→(v'.ownBlock=v.ownBlock∨v'.ownBlock=some w.heap.size)→K (a.put o.dst v') w'):o.wp P a w K Q:=by
 obtain ⟨v',w',hrun,h2,h3,h4⟩:=zkI (P:=P) w base t o.type e i z size bytes ht hi hz hsize hby hzs hsz v n xs hown B A m c news hr h1 h63 hbytes hbase;unfold Oper.wp execOp;simp only[ho,resolve,invoke,builtin,Sem.run_bind,Sem.run_pure,Result.andThen_ok,List.map_toArray,List.map_cons,List.map_nil,hs,hx,hrun];exact h v' w' h2 h3 h4
theorem zq {ops:Array Oper} {rest:List Oper} {o:Oper} {a:Act} {Q:Exit→Act→World→Prop} (hgd:o.guard=none) (s x:Operand) (t:TypeId)
  (ho:o.op= .call {callee:=.builtin .append,args:=#[s,x],argTypes:=#[t,t]})
  (base:Nat) (e:TypeId) (i:TypeInfo) (z:Value) (size bytes:Nat) (ht:P.underlying t=some (.slice e)) (hi:P.info? e=some i) (hz:i.zero=some z)
  (hsize:i.size=size) (hby:i.bytes=bytes) (hzs:z.cells.size=size) (hsz:0<size)
  (v:Value) (n:Nat) (xs:List Value) (hs:a.eval s=v) (hown:w.ownsRow base e size v n xs)
  (B:Nat) (A:Option Addr) (m c:Nat) (news:List Value) (hx:a.eval x= .slice A m c) (hr:zop w B size A m news) (h1:∀u∈news,u.oneCell'=true)
  (h63:n+m≤maxLen) (hbytes:(n+m)*bytes≤140737488355328) (hbase:base≤w.heap.size)
  (h:∀v' w',w'.ownsRow base e size v' (n+m) (xs++news)→w.grownBy w' v.ownBlock→(v'.ownBlock=v.ownBlock∨v'.ownBlock=some w.heap.size)→wpList P ops Q rest (a.put o.dst v') w'):wpList P ops Q (o::rest) a w:=
 wpList_plain hgd fun _ hK=>zhp w s x t ho base e i z size bytes ht hi hz hsize hby hzs hsz v n xs hs hown B A m c news hx hr h1 h63 hbytes hbase fun v' w' h2 h3 h4=>hK _ _ (h v' w' h2 h3 h4)
theorem zaO {ops:Array Oper} {o:Oper} {a:Act} {K:Act→World→Prop} {Q:Exit→Act→World→Prop} {E:Prop} (hgd:o.guard=none) (s x:Operand) (t:TypeId)
  (ho:o.op= .call {callee:=.builtin .append,args:=#[s,x],argTypes:=#[t,t]})
  (base:Nat) (e:TypeId) (i:TypeInfo) (z:Value) (size bytes:Nat) (ht:P.underlying t=some (.slice e)) (hi:P.info? e=some i) (hz:i.zero=some z)
  (hsize:i.size=size) (hby:i.bytes=bytes) (hzs:z.cells.size=size) (hsz:0<size)
  (v:Value) (n:Nat) (xs:List Value) (hs:a.eval s=v) (hown:w.ownsRow base e size v n xs)
  (B:Nat) (A:Option Addr) (m c:Nat) (news:List Value) (hx:a.eval x= .slice A m c) (hr:zop w B size A m news) (h1:∀u∈news,u.oneCell'=true)
  (h63:n+m≤maxLen) (hbytes:(n+m)*bytes≤140737488355328) (hbase:base≤w.heap.size)
  (h:∀v' w',w'.ownsRow base e size v' (n+m) (xs++news)→w.grownBy w' v.ownBlock→(v'.ownBlock=v.ownBlock∨v'.ownBlock=some w.heap.size)→K (a.put o.dst v') w'):
  if Region.wanted o (yielded ops a.tmps)=true then Oper.wp P o a w K Q else E:=by
 have hw:Region.wanted o (yielded ops a.tmps)=true:=by simp[Region.wanted,hgd]
 rw[if_pos hw];exact zhp w s x t ho base e i z size bytes ht hi hz hsize hby hzs hsz v n xs hs hown B A m c news hx hr h1 h63 hbytes hbase h
end
theorem zv {w:World} {A:Option Addr} {xs:List Value} {n size:Nat} (h:Row w A xs) (hl:xs.length=n*size) (hs:0<size):zop w w.heap.size size A n xs:=
 ⟨hl,fun hn=>by
  have:0<xs.length:=by rw[hl];exact Nat.mul_pos hn hs
  obtain ⟨b,off,rfl,hb,hc⟩:=h this;refine ⟨_,rfl,hb,fun j u hu=>?_⟩;unfold Addr.add
  split
  ·rename_i h0
   have:=hc j u hu;rw[h0,Nat.add_zero] at this;exact this
  ·exact hc j u hu⟩
end Go.Proofs.YtbnafbdhomdcoaaGreatDoor
namespace Go.Proofs
open Go.Shelf
def Tryz.hays166_ren:Go.Shelf.Ren:=⟨fun|166=>146|240=>190|276=>217|n=>n,fun|5=>5|0=>0|3=>3|4=>4|9=>9|20=>20|37=>80|70=>143|72=>145|75=>149|164=>197|80=>156|n=>n,fun|n=>n⟩
theorem Tryz.hays166:Go.Proofs.Lays.n166 Tryz.prog Tryz.hays166_ren:={
 mixed:=by kernel_rfl
 f166:=Tryz.func146.trans (congrArg some (by kernel_rfl))
 f240:=Tryz.func190.trans (congrArg some (by kernel_rfl))
 f276:=Tryz.func217.trans (congrArg some (by kernel_rfl))
 t0:=Tryz.underlying0
 a0:=Tryz.isAgg0
 z0:=Tryz.sizeOf0
 v0:=Tryz.zeroValue0
 t3:=Tryz.underlying3
 a3:=Tryz.isAgg3
 z3:=Tryz.sizeOf3
 v3:=Tryz.zeroValue3
 t4:=Tryz.underlying4
 a4:=Tryz.isAgg4
 z4:=Tryz.sizeOf4
 v4:=Tryz.zeroValue4
 t9:=Tryz.underlying9
 a9:=Tryz.isAgg9
 z9:=Tryz.sizeOf9
 v9:=Tryz.zeroValue9
 t20:=Tryz.underlying20
 a20:=Tryz.isAgg20
 z20:=Tryz.sizeOf20
 v20:=Tryz.zeroValue20
 t37:=Tryz.underlying80
 a37:=Tryz.isAgg80
 z37:=Tryz.sizeOf80
 v37:=Tryz.zeroValue80
 t70:=Tryz.underlying143
 a70:=Tryz.isAgg143
 z70:=Tryz.sizeOf143
 v70:=Tryz.zeroValue143
 t72:=Tryz.underlying145
 a72:=Tryz.isAgg145
 z72:=Tryz.sizeOf145
 v72:=Tryz.zeroValue145
 t75:=Tryz.underlying149
 a75:=Tryz.isAgg149
 z75:=Tryz.sizeOf149
 v75:=Tryz.zeroValue149
 t164:=Tryz.underlying197
 a164:=Tryz.isAgg197
 z164:=Tryz.sizeOf197
 v164:=Tryz.zeroValue197}
def Tryz.hays167_ren:Go.Shelf.Ren:=⟨fun|167=>144|240=>190|276=>217|n=>n,fun|0=>0|4=>4|5=>5|9=>9|20=>20|37=>80|70=>143|72=>145|75=>149|164=>197|80=>156|n=>n,fun|n=>n⟩
theorem Tryz.hays167:Go.Proofs.Lays.n167 Tryz.prog Tryz.hays167_ren:={
 mixed:=by kernel_rfl
 f167:=Tryz.func144.trans (congrArg some (by kernel_rfl))
 f240:=Tryz.func190.trans (congrArg some (by kernel_rfl))
 f276:=Tryz.func217.trans (congrArg some (by kernel_rfl))
 t0:=Tryz.underlying0
 a0:=Tryz.isAgg0
 z0:=Tryz.sizeOf0
 v0:=Tryz.zeroValue0
 t4:=Tryz.underlying4
 a4:=Tryz.isAgg4
 z4:=Tryz.sizeOf4
 v4:=Tryz.zeroValue4
 t5:=Tryz.underlying5
 a5:=Tryz.isAgg5
 z5:=Tryz.sizeOf5
 v5:=Tryz.zeroValue5
 t9:=Tryz.underlying9
 a9:=Tryz.isAgg9
 z9:=Tryz.sizeOf9
 v9:=Tryz.zeroValue9
 t20:=Tryz.underlying20
 a20:=Tryz.isAgg20
 z20:=Tryz.sizeOf20
 v20:=Tryz.zeroValue20
 t37:=Tryz.underlying80
 a37:=Tryz.isAgg80
 z37:=Tryz.sizeOf80
 v37:=Tryz.zeroValue80
 t70:=Tryz.underlying143
 a70:=Tryz.isAgg143
 z70:=Tryz.sizeOf143
 v70:=Tryz.zeroValue143
 t72:=Tryz.underlying145
 a72:=Tryz.isAgg145
 z72:=Tryz.sizeOf145
 v72:=Tryz.zeroValue145
 t75:=Tryz.underlying149
 a75:=Tryz.isAgg149
 z75:=Tryz.sizeOf149
 v75:=Tryz.zeroValue149
 t164:=Tryz.underlying197
 a164:=Tryz.isAgg197
 z164:=Tryz.sizeOf197
 v164:=Tryz.zeroValue197}
theorem Tryz.hExtra166:Builder.Extra Tryz.prog Tryz.hays166_ren where
 sizeBuilder:=by kernel_rfl
 liesBuilder:=by kernel_rfl
 t5:=Tryz.underlying5
 a5:=Tryz.isAgg5
 z5:=Tryz.sizeOf5
 v5:=Tryz.zeroValue5
 infoByte:=by kernel_rfl
 cellsByte:=by kernel_rfl
 sizeByte:=by kernel_rfl
 neB5:=by decide
theorem Tryz.hExtra167:Builder.Extra Tryz.prog Tryz.hays167_ren where
 sizeBuilder:=by kernel_rfl
 liesBuilder:=by kernel_rfl
 t5:=Tryz.underlying5
 a5:=Tryz.isAgg5
 z5:=Tryz.sizeOf5
 v5:=Tryz.zeroValue5
 infoByte:=by kernel_rfl
 cellsByte:=by kernel_rfl
 sizeByte:=by kernel_rfl
 neB5:=by decide
namespace YtbnafbdhomdcoaaGreatDoor
open Go.RowKit
theorem zlQ (B b:Nat) (bs:List Value) (s:ByteArray) (w:World) (h:Lib.IsBuilderF 145 5 B b bs w) (hlen:bs.length+s.size≤140737488355328) (hBw:B≤w.heap.size):
  Calls Tryz.prog 146 #[.pointer (some ⟨b,0,none⟩),.string s] w fun e w'=>e= .returned (.tuple #[.int .i64 s.size,.nilIface])∧(Lib.BuilderAtF 145 5 B b (.pointer (some ⟨b,0,none⟩)) (bs++Lib.strCells s) w'∧Below B w w'∧Lib.OthersKept 5 (some b) w w'):=
 Any.Builder_WriteString_k Tryz.hays166 Tryz.hExtra166 B b bs s w h hlen hBw
theorem zcd (B b:Nat) (bs:List Value) (c:Int) (w:World) (h:Lib.IsBuilderF 145 5 B b bs w) (hlen:bs.length+1≤140737488355328) (hBw:B≤w.heap.size):
  Calls Tryz.prog 144 #[.pointer (some ⟨b,0,none⟩),.int .u8 c] w fun e w'=>e= .returned .nilIface∧(Lib.BuilderAtF 145 5 B b (.pointer (some ⟨b,0,none⟩)) (bs++[.int .u8 c]) w'∧Below B w w'∧Lib.OthersKept 5 (some b) w w'):=
 Any.Builder_WriteByte_k Tryz.hays167 Tryz.hExtra167 B b bs c w h hlen hBw
end YtbnafbdhomdcoaaGreatDoor
end Go.Proofs
namespace Go.Proofs.YtbnafbdhomdcoaaGreatDoor
def zeE:List (Int×ByteArray×ByteArray):=[
 (100,⟨#[49,48,48]⟩,⟨#[67,111,110,116,105,110,117,101]⟩),
 (101,⟨#[49,48,49]⟩,⟨#[83,119,105,116,99,104,105,110,103,32,80,114,111,116,111,99,111,108,115]⟩),
 (200,⟨#[50,48,48]⟩,⟨#[79,75]⟩),
 (201,⟨#[50,48,49]⟩,⟨#[67,114,101,97,116,101,100]⟩),
 (202,⟨#[50,48,50]⟩,⟨#[65,99,99,101,112,116,101,100]⟩),
 (204,⟨#[50,48,52]⟩,⟨#[78,111,32,67,111,110,116,101,110,116]⟩),
 (206,⟨#[50,48,54]⟩,⟨#[80,97,114,116,105,97,108,32,67,111,110,116,101,110,116]⟩),
 (301,⟨#[51,48,49]⟩,⟨#[77,111,118,101,100,32,80,101,114,109,97,110,101,110,116,108,121]⟩),
 (302,⟨#[51,48,50]⟩,⟨#[70,111,117,110,100]⟩),
 (303,⟨#[51,48,51]⟩,⟨#[83,101,101,32,79,116,104,101,114]⟩),
 (304,⟨#[51,48,52]⟩,⟨#[78,111,116,32,77,111,100,105,102,105,101,100]⟩),
 (307,⟨#[51,48,55]⟩,⟨#[84,101,109,112,111,114,97,114,121,32,82,101,100,105,114,101,99,116]⟩),
 (308,⟨#[51,48,56]⟩,⟨#[80,101,114,109,97,110,101,110,116,32,82,101,100,105,114,101,99,116]⟩),
 (400,⟨#[52,48,48]⟩,⟨#[66,97,100,32,82,101,113,117,101,115,116]⟩),
 (401,⟨#[52,48,49]⟩,⟨#[85,110,97,117,116,104,111,114,105,122,101,100]⟩),
 (403,⟨#[52,48,51]⟩,⟨#[70,111,114,98,105,100,100,101,110]⟩),
 (404,⟨#[52,48,52]⟩,⟨#[78,111,116,32,70,111,117,110,100]⟩),
 (405,⟨#[52,48,53]⟩,⟨#[77,101,116,104,111,100,32,78,111,116,32,65,108,108,111,119,101,100]⟩),
 (406,⟨#[52,48,54]⟩,⟨#[78,111,116,32,65,99,99,101,112,116,97,98,108,101]⟩),
 (408,⟨#[52,48,56]⟩,⟨#[82,101,113,117,101,115,116,32,84,105,109,101,111,117,116]⟩),
 (411,⟨#[52,49,49]⟩,⟨#[76,101,110,103,116,104,32,82,101,113,117,105,114,101,100]⟩),
 (412,⟨#[52,49,50]⟩,⟨#[80,114,101,99,111,110,100,105,116,105,111,110,32,70,97,105,108,101,100]⟩),
 (413,⟨#[52,49,51]⟩,⟨#[67,111,110,116,101,110,116,32,84,111,111,32,76,97,114,103,101]⟩),
 (414,⟨#[52,49,52]⟩,⟨#[85,82,73,32,84,111,111,32,76,111,110,103]⟩),
 (415,⟨#[52,49,53]⟩,⟨#[85,110,115,117,112,112,111,114,116,101,100,32,77,101,100,105,97,32,84,121,112,101]⟩),
 (416,⟨#[52,49,54]⟩,⟨#[82,97,110,103,101,32,78,111,116,32,83,97,116,105,115,102,105,97,98,108,101]⟩),
 (417,⟨#[52,49,55]⟩,⟨#[69,120,112,101,99,116,97,116,105,111,110,32,70,97,105,108,101,100]⟩),
 (421,⟨#[52,50,49]⟩,⟨#[77,105,115,100,105,114,101,99,116,101,100,32,82,101,113,117,101,115,116]⟩),
 (422,⟨#[52,50,50]⟩,⟨#[85,110,112,114,111,99,101,115,115,97,98,108,101,32,67,111,110,116,101,110,116]⟩),
 (426,⟨#[52,50,54]⟩,⟨#[85,112,103,114,97,100,101,32,82,101,113,117,105,114,101,100]⟩),
 (428,⟨#[52,50,56]⟩,⟨#[80,114,101,99,111,110,100,105,116,105,111,110,32,82,101,113,117,105,114,101,100]⟩),
 (429,⟨#[52,50,57]⟩,⟨#[84,111,111,32,77,97,110,121,32,82,101,113,117,101,115,116,115]⟩),
 (431,⟨#[52,51,49]⟩,⟨#[82,101,113,117,101,115,116,32,72,101,97,100,101,114,32,70,105,101,108,100,115,32,84,111,111,32,76,97,114,103,101]⟩),
 (500,⟨#[53,48,48]⟩,⟨#[73,110,116,101,114,110,97,108,32,83,101,114,118,101,114,32,69,114,114,111,114]⟩),
 (501,⟨#[53,48,49]⟩,⟨#[78,111,116,32,73,109,112,108,101,109,101,110,116,101,100]⟩),
 (502,⟨#[53,48,50]⟩,⟨#[66,97,100,32,71,97,116,101,119,97,121]⟩),
 (503,⟨#[53,48,51]⟩,⟨#[83,101,114,118,105,99,101,32,85,110,97,118,97,105,108,97,98,108,101]⟩),
 (504,⟨#[53,48,52]⟩,⟨#[71,97,116,101,119,97,121,32,84,105,109,101,111,117,116]⟩),
 (505,⟨#[53,48,53]⟩,⟨#[72,84,84,80,32,86,101,114,115,105,111,110,32,78,111,116,32,83,117,112,112,111,114,116,101,100]⟩)]
def za6 (n:Int):ByteArray:=match zeE.find? fun x=>x.1==n with
 |some x=>x.2.2
 |none=>⟨#[]⟩
def zfr:ByteArray:=⟨#[49,48,48,32,67,111,110,116,105,110,117,101,124,49,48,49,32,83,119,105,116,99,104,105,110,103,32,80,114,111,116,111,99,111,108,115,124,50,48,48,32,79,75,124,50,48,49,32,67,114,101,97,116,101,100,124,50,48,50,32,65,99,99,101,112,116,101,100,124,50,48,52,32,78,111,32,67,111,110,116,101,110,116,124,50,48,54,32,80,97,114,116,105,97,108,32,67,111,110,116,101,110,116,124,51,48,49,32,77,111,118,101,100,32,80,101,114,109,97,110,101,110,116,108,121,124,51,48,50,32,70,111,117,110,100,124,51,48,51,32,83,101,101,32,79,116,104,101,114,124,51,48,52,32,78,111,116,32,77,111,100,105,102,105,101,100,124,51,48,55,32,84,101,109,112,111,114,97,114,121,32,82,101,100,105,114,101,99,116,124,51,48,56,32,80,101,114,109,97,110,101,110,116,32,82,101,100,105,114,101,99,116,124,52,48,48,32,66,97,100,32,82,101,113,117,101,115,116,124,52,48,49,32,85,110,97,117,116,104,111,114,105,122,101,100,124,52,48,51,32,70,111,114,98,105,100,100,101,110,124,52,48,52,32,78,111,116,32,70,111,117,110,100,124,52,48,53,32,77,101,116,104,111,100,32,78,111,116,32,65,108,108,111,119,101,100,124,52,48,54,32,78,111,116,32,65,99,99,101,112,116,97,98,108,101,124,52,48,56,32,82,101,113,117,101,115,116,32,84,105,109,101,111,117,116,124,52,49,49,32,76,101,110,103,116,104,32,82,101,113,117,105,114,101,100,124,52,49,50,32,80,114,101,99,111,110,100,105,116,105,111,110,32,70,97,105,108,101,100,124,52,49,51,32,67,111,110,116,101,110,116,32,84,111,111,32,76,97,114,103,101,124,52,49,52,32,85,82,73,32,84,111,111,32,76,111,110,103,124,52,49,53,32,85,110,115,117,112,112,111,114,116,101,100,32,77,101,100,105,97,32,84,121,112,101,124,52,49,54,32,82,97,110,103,101,32,78,111,116,32,83,97,116,105,115,102,105,97,98,108,101,124,52,49,55,32,69,120,112,101,99,116,97,116,105,111,110,32,70,97,105,108,101,100,124,52,50,49,32,77,105,115,100,105,114,101,99,116,101,100,32,82,101,113,117,101,115,116,124,52,50,50,32,85,110,112,114,111,99,101,115,115,97,98,108,101,32,67,111,110,116,101,110,116,124,52,50,54,32,85,112,103,114,97,100,101,32,82,101,113,117,105,114,101,100,124,52,50,56,32,80,114,101,99,111,110,100,105,116,105,111,110,32,82,101,113,117,105,114,101,100,124,52,50,57,32,84,111,111,32,77,97,110,121,32,82,101,113,117,101,115,116,115,124,52,51,49,32,82,101,113,117,101,115,116,32,72,101,97,100,101,114,32,70,105,101,108,100,115,32,84,111,111,32,76,97,114,103,101,124,53,48,48,32,73,110,116,101,114,110,97,108,32,83,101,114,118,101,114,32,69,114,114,111,114,124,53,48,49,32,78,111,116,32,73,109,112,108,101,109,101,110,116,101,100,124,53,48,50,32,66,97,100,32,71,97,116,101,119,97,121,124,53,48,51,32,83,101,114,118,105,99,101,32,85,110,97,118,97,105,108,97,98,108,101,124,53,48,52,32,71,97,116,101,119,97,121,32,84,105,109,101,111,117,116,124,53,48,53,32,72,84,84,80,32,86,101,114,115,105,111,110,32,78,111,116,32,83,117,112,112,111,114,116,101,100,124]⟩
def frm:Nat→Nat
 |0=>0
 |i+1=>if bt zfr i=124 then i+1 else frm i
theorem zuP:∀i,frm i≤i
 |0=>Nat.le_refl _
 |i+1=>by
  unfold frm
  split
  ·exact Nat.le_refl _
  ·have:=zuP i;omega
theorem zvl {i:Nat} (h:bt zfr i=124):frm (i+1)=i+1:=by
 show (if bt zfr i=124 then i+1 else frm i)=i+1;rw[if_pos h]
theorem zwG {i:Nat} (h:¬bt zfr i=124):frm (i+1)=frm i:=by
 show (if bt zfr i=124 then i+1 else frm i)=frm i;rw[if_neg h]
def zf7 (D:ByteArray) (j:Nat):Bool:=decide (bt zfr j=124)&&decide (zfr.extract (frm j) (frm j+3)=D)
def zcr (D:ByteArray):ByteArray:=match (List.range 787).find? (zf7 D) with
 |some j=>zfr.extract (frm j+4) j
 |none=>⟨#[]⟩
theorem zfw:zfr.size=787:=by decide +kernel
theorem zgw:∀j,j<787→bt zfr j=124→frm j+4≤j∧zeE.any (fun x=>decide (x.2.1=zfr.extract (frm j) (frm j+3))&&decide (x.2.2=zfr.extract (frm j+4) j))=true:=by decide +kernel
theorem zoO:∀x∈zeE,([12,36,43,55,68,83,103,125,135,149,166,189,212,228,245,259,273,296,315,335,355,379,401,418,445,471,494,518,544,565,591,613,649,675,695,711,735,755,786]:List Nat).any (fun j=>zf7 x.2.1 j)=true:=by decide +kernel
theorem zuZ:∀j∈([12,36,43,55,68,83,103,125,135,149,166,189,212,228,245,259,273,296,315,335,355,379,401,418,445,471,494,518,544,565,591,613,649,675,695,711,735,755,786]:List Nat),j<787:=by decide +kernel
theorem zrG:∀x∈zeE,∀y∈zeE,x.2.1=y.2.1→x=y:=by decide +kernel
theorem zt1:∀x∈zeE,∀y∈zeE,x.1=y.1→x=y:=by decide +kernel
theorem zrF:∀x∈zeE,100≤x.1∧x.1<600:=by decide +kernel
theorem znb {D:ByteArray} {x:Int×ByteArray×ByteArray} (hx:x∈zeE) (hD:x.2.1=D):zcr D=x.2.2:=by
 subst hD;unfold zcr
 cases h:(List.range zfr.size).find? (zf7 x.2.1) with
 |none=>
  rw[zfw] at h;rw[h];obtain ⟨j,hj,hh⟩:=List.any_eq_true.1 (zoO x hx);have:=List.find?_eq_none.1 h j (List.mem_range.2 (zuZ j hj));exact absurd hh this
 |some j=>
  rw[zfw] at h;rw[h];have h1:=List.find?_some h;have h2:=List.mem_range.1 (List.mem_of_find?_eq_some h);unfold zf7 at h1;rw[Bool.and_eq_true] at h1;have h3:=of_decide_eq_true h1.1;have h4:=of_decide_eq_true h1.2;obtain ⟨_,h5⟩:=zgw j h2 h3;obtain ⟨y,hy,h6⟩:=List.any_eq_true.1 h5;rw[Bool.and_eq_true] at h6;have h7:=of_decide_eq_true h6.1;have h8:=of_decide_eq_true h6.2;rw[h4] at h7;rw[←zrG y hy x hx h7];exact h8.symm
theorem zlF {D:ByteArray} (h:∀x∈zeE,x.2.1≠D):zcr D=⟨#[]⟩:=by
 unfold zcr
 cases hf:(List.range zfr.size).find? (zf7 D) with
 |none=>rw[zfw] at hf;rw[hf]
 |some j=>
  rw[zfw] at hf;have h1:=List.find?_some hf;have h2:=List.mem_range.1 (List.mem_of_find?_eq_some hf);unfold zf7 at h1;rw[Bool.and_eq_true] at h1;have h3:=of_decide_eq_true h1.1;have h4:=of_decide_eq_true h1.2;obtain ⟨_,h5⟩:=zgw j h2 h3;obtain ⟨y,hy,h6⟩:=List.any_eq_true.1 h5;rw[Bool.and_eq_true] at h6;exact absurd ((of_decide_eq_true h6.1).trans h4) (h y hy)
theorem zk7 {x:Int×ByteArray×ByteArray} (hx:x∈zeE):za6 x.1=x.2.2:=by
 unfold za6
 cases h:zeE.find? fun y=>y.1==x.1 with
 |none=>exact absurd (by simp) (List.find?_eq_none.1 h x hx)
 |some y=>
  have h1:=List.find?_some h;have h2:y.1=x.1:=by simpa using h1
  rw[zt1 y (List.mem_of_find?_eq_some h) x hx h2]
theorem zjw {n:Int} (h:∀x∈zeE,x.1≠n):za6 n=⟨#[]⟩:=by
 unfold za6
 cases hf:zeE.find? fun y=>y.1==n with
 |none=>rfl
 |some y=>
  have h1:=List.find?_some hf;exact absurd (by simpa using h1) (h y (List.mem_of_find?_eq_some hf))
theorem znv {n:Int} {D:ByteArray} (hD:∀x∈zeE,x.2.1=D↔x.1=n):zcr D=za6 n:=by
 by_cases h:∃x∈zeE,x.1=n
 ·obtain ⟨x,hx,rfl⟩:=h
  rw[znb hx ((hD x hx).2 rfl),zk7 hx]
 ·have h2:∀x∈zeE,x.1≠n:=fun x hx e=>h ⟨x,hx,e⟩
  rw[zlF (fun x hx e=>h2 x hx ((hD x hx).1 e)),zjw h2]
end Go.Proofs.YtbnafbdhomdcoaaGreatDoor
namespace Go.Proofs.YtbnafbdhomdcoaaGreatDoor
open Go.RowKit Go.Shelf Go.Lib
theorem zez:(Tryz.prog.info? 59).map (fun i=>(i.zero,i.size,i.bytes))=some (some (.agg #[.string ⟨#[]⟩,.string ⟨#[]⟩]),2,32):=by kernel_rfl
theorem zbQ:(Tryz.prog.info? 69).map (fun i=>(i.zero,i.size,i.bytes))=some (some (.agg #[.string ⟨#[]⟩,.string ⟨#[]⟩]),2,32):=by kernel_rfl
theorem zuH (w:World):(w.alloc (.cells #[] 59)).ownsRow w.heap.size 59 2 (.slice (some ⟨w.heap.size,0,none⟩) 0 0) 0 []:=World.ownsRow_lit w #[] 0 (Nat.le_refl _) (by unfold maxLen;omega) rfl
theorem zk6 (w:World) (x y:ByteArray) (t:TypeId) {n:Nat} (hn:n=w.heap.size):∀j u,[Value.string x,Value.string y][j]?=some u→(w.alloc (.cells #[.string x,.string y] t)).cell? ((⟨n,0,none⟩:Addr).add j)=some u:=by
 subst hn;intro j u hu
 match j with
 |0=>simp at hu;subst hu;simp[Addr.add]
 |1=>simp at hu;subst hu;simp[Addr.add]
 |j+2=>simp at hu
def zgf (T:TypeId) (w:World) (fs:List Fl) (e:Ending) (w':World):Prop:=
 ∃A c,e= .returned (.slice A fs.length c)∧w'.ownsRow w.heap.size T 2 (.slice A fs.length c) fs.length (zj fs)∧Below w.heap.size w w'
def zir (t:List (Int×ByteArray×ByteArray)) (n:Int):ByteArray:=match t.find? fun x=>x.1==n with
 |some x=>x.2.2
 |none=>⟨#[]⟩
theorem zke {a b:List (Int×ByteArray×ByteArray)} {n:Int} (h:∀x∈a,x.1≠n):zir (a++b) n=zir b n:=by
 have h1:a.find? (fun x=>x.1==n)=none:=List.find?_eq_none.2 fun x hx=>by simpa using h x hx
 unfold zir;rw[List.find?_append,h1]
 rfl
def zkl:List (Int×ByteArray×ByteArray):=[(500,⟨#[53,48,48]⟩,⟨#[73,110,116,101,114,110,97,108,32,83,101,114,118,101,114,32,69,114,114,111,114]⟩),(501,⟨#[53,48,49]⟩,⟨#[78,111,116,32,73,109,112,108,101,109,101,110,116,101,100]⟩),(502,⟨#[53,48,50]⟩,⟨#[66,97,100,32,71,97,116,101,119,97,121]⟩),(503,⟨#[53,48,51]⟩,⟨#[83,101,114,118,105,99,101,32,85,110,97,118,97,105,108,97,98,108,101]⟩),(504,⟨#[53,48,52]⟩,⟨#[71,97,116,101,119,97,121,32,84,105,109,101,111,117,116]⟩),(505,⟨#[53,48,53]⟩,⟨#[72,84,84,80,32,86,101,114,115,105,111,110,32,78,111,116,32,83,117,112,112,111,114,116,101,100]⟩)]
set_option maxRecDepth 20000 in
set_option maxHeartbeats 2000000 in
theorem zi7 (n:Int) (w:World):Calls Tryz.prog 116 #[.int .i64 n] w fun e w'=>e= .returned (.string (zir zkl n))∧w=w':=by
 by_cases h500:n=500
 ·subst h500
  go_enter Tryz.func116,Tryz.ntmps116
  go_wp2
  go_ret
  exact ⟨rfl,rfl⟩
 by_cases h501:n=501
 ·subst h501
  go_enter Tryz.func116,Tryz.ntmps116
  go_wp2
  go_ret
  exact ⟨rfl,rfl⟩
 by_cases h502:n=502
 ·subst h502
  go_enter Tryz.func116,Tryz.ntmps116
  go_wp2
  go_ret
  exact ⟨rfl,rfl⟩
 by_cases h503:n=503
 ·subst h503
  go_enter Tryz.func116,Tryz.ntmps116
  go_wp2
  go_ret
  exact ⟨rfl,rfl⟩
 by_cases h504:n=504
 ·subst h504
  go_enter Tryz.func116,Tryz.ntmps116
  go_wp2
  go_ret
  exact ⟨rfl,rfl⟩
 by_cases h505:n=505
 ·subst h505
  go_enter Tryz.func116,Tryz.ntmps116
  go_wp2
  go_ret
  exact ⟨rfl,rfl⟩
 have q500:(n==500)=false:=by simpa using h500
 have q501:(n==501)=false:=by simpa using h501
 have q502:(n==502)=false:=by simpa using h502
 have q503:(n==503)=false:=by simpa using h503
 have q504:(n==504)=false:=by simpa using h504
 have q505:(n==505)=false:=by simpa using h505
 have hs:∀x∈zkl,x.1≠n:=by
  intro x hx;simp only[zkl,List.mem_cons,List.not_mem_nil,or_false] at hx
  rcases hx with rfl|rfl|rfl|rfl|rfl|rfl
  all_goals (intro e;simp only at e;omega)
 have HE:=hid (show zir zkl n=⟨#[]⟩ by
  have h1:zkl.find? (fun x=>x.1==n)=none:=List.find?_eq_none.2 fun x hx=>by simpa using hs x hx
  unfold zir;rw[h1])
 clear hs h500 h501 h502 h503 h504 h505
 go_enter Tryz.func116,Tryz.ntmps116
 go_wp2
 go_ret
 exact ⟨by rw[HE.out];rfl,rfl⟩
def zqJ:List (Int×ByteArray×ByteArray):=[(400,⟨#[52,48,48]⟩,⟨#[66,97,100,32,82,101,113,117,101,115,116]⟩),(401,⟨#[52,48,49]⟩,⟨#[85,110,97,117,116,104,111,114,105,122,101,100]⟩),(403,⟨#[52,48,51]⟩,⟨#[70,111,114,98,105,100,100,101,110]⟩),(404,⟨#[52,48,52]⟩,⟨#[78,111,116,32,70,111,117,110,100]⟩),(405,⟨#[52,48,53]⟩,⟨#[77,101,116,104,111,100,32,78,111,116,32,65,108,108,111,119,101,100]⟩),(406,⟨#[52,48,54]⟩,⟨#[78,111,116,32,65,99,99,101,112,116,97,98,108,101]⟩),(408,⟨#[52,48,56]⟩,⟨#[82,101,113,117,101,115,116,32,84,105,109,101,111,117,116]⟩),(411,⟨#[52,49,49]⟩,⟨#[76,101,110,103,116,104,32,82,101,113,117,105,114,101,100]⟩),(412,⟨#[52,49,50]⟩,⟨#[80,114,101,99,111,110,100,105,116,105,111,110,32,70,97,105,108,101,100]⟩),(413,⟨#[52,49,51]⟩,⟨#[67,111,110,116,101,110,116,32,84,111,111,32,76,97,114,103,101]⟩),(414,⟨#[52,49,52]⟩,⟨#[85,82,73,32,84,111,111,32,76,111,110,103]⟩),(415,⟨#[52,49,53]⟩,⟨#[85,110,115,117,112,112,111,114,116,101,100,32,77,101,100,105,97,32,84,121,112,101]⟩),(416,⟨#[52,49,54]⟩,⟨#[82,97,110,103,101,32,78,111,116,32,83,97,116,105,115,102,105,97,98,108,101]⟩),(417,⟨#[52,49,55]⟩,⟨#[69,120,112,101,99,116,97,116,105,111,110,32,70,97,105,108,101,100]⟩),(421,⟨#[52,50,49]⟩,⟨#[77,105,115,100,105,114,101,99,116,101,100,32,82,101,113,117,101,115,116]⟩),(422,⟨#[52,50,50]⟩,⟨#[85,110,112,114,111,99,101,115,115,97,98,108,101,32,67,111,110,116,101,110,116]⟩),(426,⟨#[52,50,54]⟩,⟨#[85,112,103,114,97,100,101,32,82,101,113,117,105,114,101,100]⟩),(428,⟨#[52,50,56]⟩,⟨#[80,114,101,99,111,110,100,105,116,105,111,110,32,82,101,113,117,105,114,101,100]⟩),(429,⟨#[52,50,57]⟩,⟨#[84,111,111,32,77,97,110,121,32,82,101,113,117,101,115,116,115]⟩),(431,⟨#[52,51,49]⟩,⟨#[82,101,113,117,101,115,116,32,72,101,97,100,101,114,32,70,105,101,108,100,115,32,84,111,111,32,76,97,114,103,101]⟩)]
set_option maxRecDepth 20000 in
set_option maxHeartbeats 2000000 in
theorem zjG (n:Int) (w:World):Calls Tryz.prog 78 #[.int .i64 n] w fun e w'=>e= .returned (.string (zir (zqJ++zkl) n))∧w=w':=by
 by_cases h400:n=400
 ·subst h400
  go_enter Tryz.func78,Tryz.ntmps78
  go_wp2
  go_ret
  exact ⟨rfl,rfl⟩
 by_cases h401:n=401
 ·subst h401
  go_enter Tryz.func78,Tryz.ntmps78
  go_wp2
  go_ret
  exact ⟨rfl,rfl⟩
 by_cases h403:n=403
 ·subst h403
  go_enter Tryz.func78,Tryz.ntmps78
  go_wp2
  go_ret
  exact ⟨rfl,rfl⟩
 by_cases h404:n=404
 ·subst h404
  go_enter Tryz.func78,Tryz.ntmps78
  go_wp2
  go_ret
  exact ⟨rfl,rfl⟩
 by_cases h405:n=405
 ·subst h405
  go_enter Tryz.func78,Tryz.ntmps78
  go_wp2
  go_ret
  exact ⟨rfl,rfl⟩
 by_cases h406:n=406
 ·subst h406
  go_enter Tryz.func78,Tryz.ntmps78
  go_wp2
  go_ret
  exact ⟨rfl,rfl⟩
 by_cases h408:n=408
 ·subst h408
  go_enter Tryz.func78,Tryz.ntmps78
  go_wp2
  go_ret
  exact ⟨rfl,rfl⟩
 by_cases h411:n=411
 ·subst h411
  go_enter Tryz.func78,Tryz.ntmps78
  go_wp2
  go_ret
  exact ⟨rfl,rfl⟩
 by_cases h412:n=412
 ·subst h412
  go_enter Tryz.func78,Tryz.ntmps78
  go_wp2
  go_ret
  exact ⟨rfl,rfl⟩
 by_cases h413:n=413
 ·subst h413
  go_enter Tryz.func78,Tryz.ntmps78
  go_wp2
  go_ret
  exact ⟨rfl,rfl⟩
 by_cases h414:n=414
 ·subst h414
  go_enter Tryz.func78,Tryz.ntmps78
  go_wp2
  go_ret
  exact ⟨rfl,rfl⟩
 by_cases h415:n=415
 ·subst h415
  go_enter Tryz.func78,Tryz.ntmps78
  go_wp2
  go_ret
  exact ⟨rfl,rfl⟩
 by_cases h416:n=416
 ·subst h416
  go_enter Tryz.func78,Tryz.ntmps78
  go_wp2
  go_ret
  exact ⟨rfl,rfl⟩
 by_cases h417:n=417
 ·subst h417
  go_enter Tryz.func78,Tryz.ntmps78
  go_wp2
  go_ret
  exact ⟨rfl,rfl⟩
 by_cases h421:n=421
 ·subst h421
  go_enter Tryz.func78,Tryz.ntmps78
  go_wp2
  go_ret
  exact ⟨rfl,rfl⟩
 by_cases h422:n=422
 ·subst h422
  go_enter Tryz.func78,Tryz.ntmps78
  go_wp2
  go_ret
  exact ⟨rfl,rfl⟩
 by_cases h426:n=426
 ·subst h426
  go_enter Tryz.func78,Tryz.ntmps78
  go_wp2
  go_ret
  exact ⟨rfl,rfl⟩
 by_cases h428:n=428
 ·subst h428
  go_enter Tryz.func78,Tryz.ntmps78
  go_wp2
  go_ret
  exact ⟨rfl,rfl⟩
 by_cases h429:n=429
 ·subst h429
  go_enter Tryz.func78,Tryz.ntmps78
  go_wp2
  go_ret
  exact ⟨rfl,rfl⟩
 by_cases h431:n=431
 ·subst h431
  go_enter Tryz.func78,Tryz.ntmps78
  go_wp2
  go_ret
  exact ⟨rfl,rfl⟩
 have q400:(n==400)=false:=by simpa using h400
 have q401:(n==401)=false:=by simpa using h401
 have q403:(n==403)=false:=by simpa using h403
 have q404:(n==404)=false:=by simpa using h404
 have q405:(n==405)=false:=by simpa using h405
 have q406:(n==406)=false:=by simpa using h406
 have q408:(n==408)=false:=by simpa using h408
 have q411:(n==411)=false:=by simpa using h411
 have q412:(n==412)=false:=by simpa using h412
 have q413:(n==413)=false:=by simpa using h413
 have q414:(n==414)=false:=by simpa using h414
 have q415:(n==415)=false:=by simpa using h415
 have q416:(n==416)=false:=by simpa using h416
 have q417:(n==417)=false:=by simpa using h417
 have q421:(n==421)=false:=by simpa using h421
 have q422:(n==422)=false:=by simpa using h422
 have q426:(n==426)=false:=by simpa using h426
 have q428:(n==428)=false:=by simpa using h428
 have q429:(n==429)=false:=by simpa using h429
 have q431:(n==431)=false:=by simpa using h431
 have hs:∀x∈zqJ,x.1≠n:=by
  intro x hx;simp only[zqJ,List.mem_cons,List.not_mem_nil,or_false] at hx
  rcases hx with rfl|rfl|rfl|rfl|rfl|rfl|rfl|rfl|rfl|rfl|rfl|rfl|rfl|rfl|rfl|rfl|rfl|rfl|rfl|rfl
  all_goals (intro e;simp only at e;omega)
 have HE:=hid (zke (b:=zkl) hs);clear hs h400 h401 h403 h404 h405 h406 h408 h411 h412 h413 h414 h415 h416 h417 h421 h422 h426 h428 h429 h431
 go_enter Tryz.func78,Tryz.ntmps78
 go_wp2_with fail
 refine (zi7 n _).mono ?_;rintro e w1 ⟨rfl,rfl⟩
 go_wp2
 go_ret
 exact ⟨by rw[HE.out];rfl,rfl⟩
def ztp:List (Int×ByteArray×ByteArray):=[(100,⟨#[49,48,48]⟩,⟨#[67,111,110,116,105,110,117,101]⟩),(101,⟨#[49,48,49]⟩,⟨#[83,119,105,116,99,104,105,110,103,32,80,114,111,116,111,99,111,108,115]⟩),(200,⟨#[50,48,48]⟩,⟨#[79,75]⟩),(201,⟨#[50,48,49]⟩,⟨#[67,114,101,97,116,101,100]⟩),(202,⟨#[50,48,50]⟩,⟨#[65,99,99,101,112,116,101,100]⟩),(204,⟨#[50,48,52]⟩,⟨#[78,111,32,67,111,110,116,101,110,116]⟩),(206,⟨#[50,48,54]⟩,⟨#[80,97,114,116,105,97,108,32,67,111,110,116,101,110,116]⟩),(301,⟨#[51,48,49]⟩,⟨#[77,111,118,101,100,32,80,101,114,109,97,110,101,110,116,108,121]⟩),(302,⟨#[51,48,50]⟩,⟨#[70,111,117,110,100]⟩),(303,⟨#[51,48,51]⟩,⟨#[83,101,101,32,79,116,104,101,114]⟩),(304,⟨#[51,48,52]⟩,⟨#[78,111,116,32,77,111,100,105,102,105,101,100]⟩),(307,⟨#[51,48,55]⟩,⟨#[84,101,109,112,111,114,97,114,121,32,82,101,100,105,114,101,99,116]⟩),(308,⟨#[51,48,56]⟩,⟨#[80,101,114,109,97,110,101,110,116,32,82,101,100,105,114,101,99,116]⟩)]
set_option maxRecDepth 20000 in
set_option maxHeartbeats 2000000 in
theorem zqT (n:Int) (w:World):Calls Tryz.prog 38 #[.int .i64 n] w fun e w'=>e= .returned (.string (zir (ztp++(zqJ++zkl)) n))∧w=w':=by
 by_cases h100:n=100
 ·subst h100
  go_enter Tryz.func38,Tryz.ntmps38
  go_wp2
  go_ret
  exact ⟨rfl,rfl⟩
 by_cases h101:n=101
 ·subst h101
  go_enter Tryz.func38,Tryz.ntmps38
  go_wp2
  go_ret
  exact ⟨rfl,rfl⟩
 by_cases h200:n=200
 ·subst h200
  go_enter Tryz.func38,Tryz.ntmps38
  go_wp2
  go_ret
  exact ⟨rfl,rfl⟩
 by_cases h201:n=201
 ·subst h201
  go_enter Tryz.func38,Tryz.ntmps38
  go_wp2
  go_ret
  exact ⟨rfl,rfl⟩
 by_cases h202:n=202
 ·subst h202
  go_enter Tryz.func38,Tryz.ntmps38
  go_wp2
  go_ret
  exact ⟨rfl,rfl⟩
 by_cases h204:n=204
 ·subst h204
  go_enter Tryz.func38,Tryz.ntmps38
  go_wp2
  go_ret
  exact ⟨rfl,rfl⟩
 by_cases h206:n=206
 ·subst h206
  go_enter Tryz.func38,Tryz.ntmps38
  go_wp2
  go_ret
  exact ⟨rfl,rfl⟩
 by_cases h301:n=301
 ·subst h301
  go_enter Tryz.func38,Tryz.ntmps38
  go_wp2
  go_ret
  exact ⟨rfl,rfl⟩
 by_cases h302:n=302
 ·subst h302
  go_enter Tryz.func38,Tryz.ntmps38
  go_wp2
  go_ret
  exact ⟨rfl,rfl⟩
 by_cases h303:n=303
 ·subst h303
  go_enter Tryz.func38,Tryz.ntmps38
  go_wp2
  go_ret
  exact ⟨rfl,rfl⟩
 by_cases h304:n=304
 ·subst h304
  go_enter Tryz.func38,Tryz.ntmps38
  go_wp2
  go_ret
  exact ⟨rfl,rfl⟩
 by_cases h307:n=307
 ·subst h307
  go_enter Tryz.func38,Tryz.ntmps38
  go_wp2
  go_ret
  exact ⟨rfl,rfl⟩
 by_cases h308:n=308
 ·subst h308
  go_enter Tryz.func38,Tryz.ntmps38
  go_wp2
  go_ret
  exact ⟨rfl,rfl⟩
 have q100:(n==100)=false:=by simpa using h100
 have q101:(n==101)=false:=by simpa using h101
 have q200:(n==200)=false:=by simpa using h200
 have q201:(n==201)=false:=by simpa using h201
 have q202:(n==202)=false:=by simpa using h202
 have q204:(n==204)=false:=by simpa using h204
 have q206:(n==206)=false:=by simpa using h206
 have q301:(n==301)=false:=by simpa using h301
 have q302:(n==302)=false:=by simpa using h302
 have q303:(n==303)=false:=by simpa using h303
 have q304:(n==304)=false:=by simpa using h304
 have q307:(n==307)=false:=by simpa using h307
 have q308:(n==308)=false:=by simpa using h308
 have hs:∀x∈ztp,x.1≠n:=by
  intro x hx;simp only[ztp,List.mem_cons,List.not_mem_nil,or_false] at hx
  rcases hx with rfl|rfl|rfl|rfl|rfl|rfl|rfl|rfl|rfl|rfl|rfl|rfl|rfl
  all_goals (intro e;simp only at e;omega)
 have HE:=hid (zke (b:=(zqJ++zkl)) hs);clear hs h100 h101 h200 h201 h202 h204 h206 h301 h302 h303 h304 h307 h308
 go_enter Tryz.func38,Tryz.ntmps38
 go_wp2_with fail
 refine (zjG n _).mono ?_;rintro e w1 ⟨rfl,rfl⟩
 go_wp2
 go_ret
 exact ⟨by rw[HE.out];rfl,rfl⟩
theorem zsQ:zeE=ztp++(zqJ++zkl):=rfl
theorem zhU (n:Int) (w:World):Calls Tryz.prog 38 #[.int .i64 n] w fun e w'=>e= .returned (.string (za6 n))∧w=w':=by
 have h:za6 n=zir (ztp++(zqJ++zkl)) n:=by rw[←zsQ];rfl
 rw[h];exact zqT n w
end Go.Proofs.YtbnafbdhomdcoaaGreatDoor
namespace Go.Proofs.YtbnafbdhomdcoaaGreatDoor.T5
theorem zlm (s:ByteArray) (c:UInt8):Lib.indexB s ⟨#[c]⟩=za7 s (c.toNat:Int):=by
 have h:=zda s (c.toNat:Int) (by omega) (by have:=c.toNat_lt;omega);rw[show ((c.toNat:Int)).toNat.toUInt8=c by simp] at h;rw[←h];exact Lib.index_one _ _
def zbI (s:ByteArray) (c:Int):ByteArray×ByteArray×Bool:=if zax s c<s.size then (s.extract 0 (zax s c),s.extract (zax s c+1) s.size,true) else (s,⟨#[]⟩,false)
section
variable {s:ByteArray} {c:Int} {k:Nat}
theorem zcY (hk:k<s.size) (hp:zax s c=k):zbI s c=(s.extract 0 k,s.extract (k+1) s.size,true):=by unfold zbI;rw[hp,if_pos hk]
theorem zco (hp:zax s c=s.size):zbI s c=(s,⟨#[]⟩,false):=by unfold zbI;rw[hp,if_neg (by omega)]
theorem place_at (hk:k<s.size) (hb:bt s k=c) (hn:∀j,j<k→bt s j≠c):zax s c=k:=
 zfN (fun j _ hj=>by simpa using hn j hj) (by omega) (by omega) (by simpa using hb)
theorem place_none (hn:∀j,j<s.size→bt s j≠c):zax s c=s.size:=by
 have:=zgM (P:=fun j=>!decide (bt s j=c)) (a:=0) (n:=s.size) (fun j _ hj=>by simpa using hn j (by omega))
 rwa [Nat.zero_add] at this
theorem zaC (s:ByteArray) (c:Int):(zax s c=s.size∧∀j,j<s.size→bt s j≠c)∨(∃k,zax s c=k∧k<s.size∧bt s k=c∧∀j,j<k→bt s j≠c):=by
 rcases ze0 s c with ⟨_,h,h2⟩|⟨k,hk,_,hp,hb,hn⟩
 ·exact .inl ⟨h,h2⟩
 ·exact .inr ⟨k,hp,hk,hb,hn⟩
end
theorem zww (s:ByteArray) (c:UInt8):(⟨(Lib.cut s.data.toList [c]).1.toArray⟩:ByteArray)=(zbI s c.toNat).1∧(⟨(Lib.cut s.data.toList [c]).2.1.toArray⟩:ByteArray)=(zbI s c.toNat).2.1∧(Lib.cut s.data.toList [c]).2.2=(zbI s c.toNat).2.2:=by
 have hx:=zlm s c
 rcases ze0 s (c.toNat:Int) with ⟨h1,hp,_⟩|⟨k,hk,h1,hp,_,_⟩
 ·rw[h1] at hx
  have h:=Lib.cutB_miss s ⟨#[c]⟩ hx;rw[zco hp];exact h
 ·rw[h1] at hx
  have h:=Lib.cutB_hit s ⟨#[c]⟩ k hx;rw[zcY hk hp];exact h
theorem zg0 (s:ByteArray) (c:Int):(zbI s c).1.size≤s.size∧(zbI s c).2.1.size≤s.size∧(zbI s c).1.size+(zbI s c).2.1.size≤s.size:=by
 rcases zaC s c with ⟨h,_⟩|⟨k,h,hk,_⟩
 ·rw[zco h];exact ⟨Nat.le_refl _,Nat.zero_le _,Nat.le_refl _⟩
 ·rw[zcY hk h]
  have h1:=zk s (a:=0) (b:=k) (by omega) (by omega);have h2:=zk s (a:=k+1) (b:=s.size) (by omega) (by omega);simp only
  omega
def zdr (c:Int):Nat→ByteArray→List ByteArray
 |0,s=>[s]
 |n+1,s=>if zax s c<s.size then s.extract 0 (zax s c)::zdr c n (s.extract (zax s c+1) s.size) else [s]
def zG (s:ByteArray) (c:Int):List ByteArray:=zdr c s.size s
theorem zh3 (c:Int):∀(n:Nat) (s:ByteArray),s.size≤n→zdr c n s=zdr c (n+1) s
 |0,s,h=>by
  unfold zdr;rw[if_neg (by omega)]
 |n+1,s,h=>by
  conv=>lhs;unfold zdr
  conv=>rhs;unfold zdr
  split
  ·rw[zh3 c n _ (by rw[zk s (by omega) (by omega)];omega)]
  ·rfl
theorem zls (c:Int) (s:ByteArray):∀(d n:Nat),s.size≤n→zdr c (n+d) s=zdr c n s
 |0,_,_=>rfl
 |d+1,n,h=>by rw[←Nat.add_assoc,←zh3 c (n+d) s (by omega)];exact zls c s d n h
section
variable {s:ByteArray} {c:Int}
theorem ziH {n:Nat} (h:s.size≤n):zdr c n s=zG s c:=by
 have:=zls c s (n - s.size) s.size (Nat.le_refl _);rw[show s.size+(n - s.size)=n from by omega] at this;exact this
theorem zdC (h:zax s c=s.size):zG s c=[s]:=by
 rw[←ziH (n:=s.size+1) (by omega)];unfold zdr;rw[if_neg (by omega)]
theorem zeQ {k:Nat} (hk:k<s.size) (h:zax s c=k):zG s c=s.extract 0 k::zG (s.extract (k+1) s.size) c:=by
 rw[←ziH (n:=s.size+1) (by omega)];unfold zdr;rw[h,if_pos hk,ziH (by rw[zk s (by omega) (by omega)];omega)]
end
theorem ziM (s:ByteArray) (c:Int):zG s c≠[]:=by
 rcases zaC s c with ⟨h,_⟩|⟨k,h,hk,_⟩
 ·rw[zdC h];simp
 ·rw[zeQ hk h];simp
theorem zl0 (c:UInt8):∀(n:Nat) (s:ByteArray),s.size≤n→Lib.splitB ⟨#[c]⟩ 0 (Lib.countB s ⟨#[c]⟩) s=zG s c.toNat∧(zG s c.toNat).length=Lib.countB s ⟨#[c]⟩+1
 |n,s,hn=>by
  have hx:=zlm s c
  rcases ze0 s (c.toNat:Int) with ⟨h1,hp,_⟩|⟨k,hk,h1,hp,_,_⟩
  ·rw[h1] at hx
   rw[Lib.countB_miss s _ hx,zdC hp];exact ⟨rfl,rfl⟩
  ·rw[h1] at hx
   have hz:=zk s (a:=k+1) (b:=s.size) (by omega) (by omega);have hc:=Lib.countB_hit s ⟨#[c]⟩ k (by show 1≤1;omega) hx
   match n,hn with
   |0,hn=>omega
   |n+1,hn=>
    obtain ⟨ih1,ih2⟩:=zl0 c n (s.extract (k+1) s.size) (by omega);have hc':Lib.countB s ⟨#[c]⟩=Lib.countB (s.extract (k+1) s.size) ⟨#[c]⟩+1:=by rw[hc,Nat.add_comm];rfl
    rw[hc',zeQ hk hp,Lib.splitB_hit _ _ _ _ _ hx];refine ⟨?_,by rw[List.length_cons,ih2]⟩;rw[←ih1]
    rfl
def zcX (l:List ByteArray):Nat:=(l.map (·.size)).sum
theorem zgY (x:ByteArray) (l:List ByteArray):zcX (x::l)=x.size+zcX l:=by simp[zcX]
theorem ze4 (l m:List ByteArray):zcX (l++m)=zcX l+zcX m:=by simp[zcX]
theorem zk8 {l:List ByteArray} {x:ByteArray} (h:x∈l):x.size≤zcX l:=by
 induction l with
 |nil=>cases h
 |cons y l ih=>
  rw[zgY]
  rcases List.mem_cons.1 h with rfl|h
  ·omega
  ·have:=ih h;omega
theorem zeF (c:Int):∀(n:Nat) (s:ByteArray),s.size≤n→zcX (zG s c)+(zG s c).length=s.size+1
 |n,s,hn=>by
  rcases zaC s c with ⟨h,_⟩|⟨k,h,hk,_⟩
  ·rw[zdC h];simp[zcX]
  ·rw[zeQ hk h,zgY,List.length_cons]
   have h1:=zk s (a:=0) (b:=k) (by omega) (by omega);have h2:=zk s (a:=k+1) (b:=s.size) (by omega) (by omega)
   match n,hn with
   |0,hn=>omega
   |n+1,hn=>
    have:=zeF c n (s.extract (k+1) s.size) (by omega)
    omega
theorem zdv (s:ByteArray) (c:Int):(zG s c).length≤s.size+1:=by have:=zeF c s.size s (Nat.le_refl _);omega
theorem ze1 {s:ByteArray} {c:Int} {x:ByteArray} (h:x∈zG s c):x.size≤s.size:=by
 have:=zeF c s.size s (Nat.le_refl _);have h1:=zk8 h;have:=List.length_pos_of_mem h
 omega
def za3 (n:Int):ByteArray:=⟨(Lib.itoa n).toArray⟩
def zcQ (s:ByteArray):Bool:=decide ((zbY s 255 10).2=0)&&decide (za3 (zbY s 255 10).1=s)
def quad (s:ByteArray):Bool:=(zG s 46).all zcQ&&decide ((zG s 46).length=4)
def zaS (g:ByteArray):Bool:=decide (0<g.size)&&(decide (g.size≤4)&&zb3 zbZ g)
def zbl (last:Bool):List ByteArray→Int
 |[]=>0
 |g::r=>if zaS g=true then (if zbl last r<0 then -1 else 1+zbl last r) else if last=true∧r=[]∧quad g=true then 2 else -1
def zam (s:ByteArray) (last:Bool):Int:=if s.size=0 then 0 else zbl last (zG s 58)
theorem zfh (last:Bool):∀l:List ByteArray,-1≤zbl last l∧zbl last l≤l.length+1
 |[]=>by simp[zbl]
 |g::r=>by
  have:=zfh last r;unfold zbl;rw[List.length_cons]
  split
  ·split<;>omega
  ·split<;>omega
theorem zd1 (s:ByteArray) (last:Bool):-1≤zam s last∧zam s last≤s.size+2:=by
 unfold zam
 split
 ·omega
 ·have:=zfh last (zG s 58)
  have:=zdv s 58
  omega
def zba (l:List ByteArray) (k:Nat):Prop:=∀g∈l.take k,zaS g=true
theorem zba.zero (l:List ByteArray):zba l 0:=fun g h=>by simp at h
theorem zfc {last:Bool}:∀(l m:List ByteArray),(∀g∈l,zaS g=true)→zbl last (l++m)=if zbl last m<0 then -1 else l.length+zbl last m
 |[],m,_=>by
  have:=(zfh last m).1
  split<;>simp<;>omega
 |g::l,m,h=>by
  have ih:=zfc (last:=last) l m fun x hx=>h x (List.mem_cons_of_mem _ hx)
  have hg:=h g (by simp);rw[List.cons_append,zbl,if_pos hg,ih,List.length_cons]
  split
  ·rw[if_pos (by omega)]
  ·rw[if_neg (by omega)];omega
section
variable {last:Bool} {l:List ByteArray} {k:Nat} {g:ByteArray}
theorem zba.succ (h:zba l k) (hk:l[k]?=some g) (hg:zaS g=true):zba l (k+1):=fun x hx=>by
 obtain ⟨hlt,rfl⟩:=List.getElem?_eq_some_iff.1 hk;rw[List.take_succ_eq_append_getElem hlt] at hx
 rcases List.mem_append.1 hx with hx|hx
 ·exact h x hx
 ·obtain rfl:x=l[k]:=by simpa using hx
  exact hg
theorem zba.all (h:zba l l.length):zbl last l=l.length:=by
 have:=zfc (last:=last) l [] (by intro x hx;exact h x (by rw[List.take_length];exact hx));rw[List.append_nil] at this;rw[this];simp[zbl]
theorem zo3 {α:Type} {l:List α} {k:Nat} {x:α} (hk:l[k]?=some x):l.drop k=x::l.drop (k+1):=by
 obtain ⟨hlt,rfl⟩:=List.getElem?_eq_some_iff.1 hk;exact List.drop_eq_getElem_cons hlt
theorem zba.bad (h:zba l k) (hk:l[k]?=some g) (hg:zaS g=false) (hq:last=false∨k+1<l.length∨quad g=false):zbl last l=-1:=by
 have e:=zfc (last:=last) (l.take k) (l.drop k) h;rw[List.take_append_drop,zo3 hk] at e;have:zbl last (g::l.drop (k+1))=-1:=by
  rw[zbl,if_neg (by rw[hg];simp),if_neg];rintro ⟨h1,h2,h3⟩
  rcases hq with h|h|h
  ·rw[h] at h1;cases h1
  ·have:=List.drop_eq_nil_iff.1 h2;omega
  ·rw[h] at h3;cases h3
 rw[e,this,if_pos (by omega)]
theorem zba.quad (h:zba l k) (hk:l[k]?=some g) (hl:k+1=l.length) (hg:zaS g=false) (hq:quad g=true):zbl true l=k+2:=by
 have e:=zfc (last:=true) (l.take k) (l.drop k) h;have hd:l.drop (k+1)=[]:=List.drop_eq_nil_iff.2 (by omega);rw[List.take_append_drop,zo3 hk] at e;have:zbl true (g::l.drop (k+1))=2:=by
  rw[zbl,if_neg (by rw[hg];simp),if_pos ⟨rfl,hd,hq⟩]
 rw[e,this,if_neg (by omega),List.length_take]
 omega
end
theorem zul {P:Int→Bool} {s:ByteArray} (h:zb3 P s=true) {j:Nat} (hj:j<s.size):P (bt s j)=true:=zrm h j hj
theorem zu3 {g:ByteArray} (h:inB g 46=true):zaS g=false:=by
 cases e:zaS g
 ·rfl
 ·simp only[zaS,Bool.and_eq_true] at e
  obtain ⟨_,_,e⟩:=e;have:zb3 (fun b=>!decide (b=46)) g=true:=zaU fun j hj=>by
   have:=zul e hj;have hne:bt g j≠46:=fun h=>by rw[h] at this;exact absurd this (by decide)
   simpa using hne
  unfold inB at h;rw[this] at h
  cases h
theorem zui {g:ByteArray} (h:inB g 46=false):quad g=false:=by
 rcases zaC g 46 with ⟨hp,_⟩|⟨k,_,hk,hb,_⟩
 ·unfold quad
  rw[zdC hp];simp
 ·unfold inB at h
  rw[zaB hk (by simp[hb])] at h
  cases h
def zdB (s:ByteArray) (i:Nat):Bool:=decide (bt s i=58)&&decide (bt s (i+1)=58)
def gap (s:ByteArray):Nat:=zdG (fun i=>!(decide (i+1<s.size)&&zdB s i)) 0 s.size
theorem znM (s:ByteArray):(gap s=s.size∧∀j,j+1<s.size→zdB s j=false)∨(∃k,gap s=k∧k+1<s.size∧zdB s k=true∧∀j,j<k→zdB s j=false):=by
 obtain ⟨_,h2,h3,h4⟩:=zey (fun i=>!(decide (i+1<s.size)&&zdB s i)) s.size 0;change gap s≤_ at h2;rw[Nat.zero_add] at *;have nn:∀j,j<gap s→j+1<s.size→zdB s j=false:=fun j hj hs=>by
  have:=h3 j (by omega) hj;rw[decide_eq_true hs] at this
  simpa using this
 by_cases e:gap s=s.size
 ·exact .inl ⟨e,fun j hj=>nn j (by omega) hj⟩
 ·have:=h4 (by show gap s<_;omega)
  change (!(decide (gap s+1<s.size)&&zdB s (gap s)))=false at this;simp at this;exact .inr ⟨gap s,rfl,this.1,this.2,fun j hj=>nn j hj (by omega)⟩
theorem zwI {s:ByteArray} {k:Nat} (hk:k+1<s.size) (h:zdB s k=true) (hn:∀j,j<k→zdB s j=false):gap s=k:=
 zfN (fun j _ hj=>by rw[hn j hj];simp) (by omega) (by omega) (by rw[h];simpa using hk)
theorem zt0 {s:ByteArray} (hn:∀j,j+1<s.size→zdB s j=false):gap s=s.size:=by
 have:=zgM (P:=fun i=>!(decide (i+1<s.size)&&zdB s i)) (a:=0) (n:=s.size) (fun j _ hj=>by
  by_cases h:j+1<s.size
  ·show (!(decide (j+1<s.size)&&zdB s j))=true
   rw[hn j h];simp
  ·simp;omega)
 rwa [Nat.zero_add] at this
def zcj (s:ByteArray):Bool:=if gap s<s.size then decide (0≤zam (s.extract 0 (gap s)) false)&&(decide (0≤zam (s.extract (gap s+2) s.size) true)&&decide (zam (s.extract 0 (gap s)) false+zam (s.extract (gap s+2) s.size) true≤7)) else decide (zam s true=8)
theorem zlx {s:ByteArray} {k:Nat} (hk:k<s.size) (h:gap s=k):zcj s=(decide (0≤zam (s.extract 0 k) false)&&(decide (0≤zam (s.extract (k+2) s.size) true)&&decide (zam (s.extract 0 k) false+zam (s.extract (k+2) s.size) true≤7))):=by
 unfold zcj;rw[h,if_pos hk]
theorem zlD {s:ByteArray} (h:gap s=s.size):zcj s=decide (zam s true=8):=by
 unfold zcj;rw[if_neg (by omega)]
theorem zu6 (s:ByteArray):(gap s=s.size∧Lib.indexB s ⟨#[58,58]⟩=-1)∨(∃k,gap s=k∧k+1<s.size∧Lib.indexB s ⟨#[58,58]⟩=k):=by
 have occ:∀j,Lib.occAt s.data.toList [58,58] j=(decide (j+1<s.size)&&zdB s j):=by
  intro j;unfold Lib.occAt zdB
  by_cases h1:j+1<s.size
  ·have hl:j+1<s.data.toList.length:=by rw[size_eq];exact h1
   rw[List.drop_eq_getElem_cons (by omega),List.drop_eq_getElem_cons (by omega),decide_eq_true h1,Bool.true_and];have e0:bt s j=(s.data.toList[j].toNat:Int):=by
    unfold bt;rw[List.getD_eq_getElem?_getD,List.getElem?_eq_getElem (by omega)]
    rfl
   have e1:bt s (j+1)=(s.data.toList[j+1].toNat:Int):=by
    unfold bt;rw[List.getD_eq_getElem?_getD,List.getElem?_eq_getElem (by omega)]
    rfl
   rw[e0,e1];generalize s.data.toList[j]=a;generalize s.data.toList[j+1]=b;simp only[List.isPrefixOf,Bool.and_true];have key:∀x:UInt8,((58:UInt8)==x)=decide ((x.toNat:Int)=58):=by
    intro x;rw[Bool.eq_iff_iff];simp only[beq_iff_eq,decide_eq_true_eq]
    constructor
    ·rintro rfl;rfl
    ·intro h
     apply UInt8.toNat_inj.1
     show 58=x.toNat
     omega
   rw[key,key]
  ·rw[decide_eq_false h1,Bool.false_and]
   rcases e:s.data.toList.drop j with _|⟨x,_|⟨y,t⟩⟩
   ·rfl
   ·simp[List.isPrefixOf]
   ·have:(s.data.toList.drop j).length=(x::y::t).length:=by rw[e]
    rw[List.length_drop,size_eq] at this;simp at this
    omega
 rcases znM s with ⟨h,h2⟩|⟨k,h,hk,h3,h4⟩
 ·refine .inl ⟨h,?_⟩
  show Lib.index s.data.toList [58,58]=-1;refine Lib.index_none fun j _=>?_
  rw[occ]
  by_cases hj:j+1<s.size
  ·rw[h2 j hj];simp
  ·simp;omega
 ·refine .inr ⟨k,h,hk,?_⟩
  show Lib.index s.data.toList [58,58]=k;refine Lib.index_first (by rw[size_eq];omega) ?_ ?_
  ·rw[occ,h3];simpa using hk
  ·intro j hj
   rw[occ,h4 j hj];simp
def zcm (s:ByteArray):Bool:=decide (0<s.size)&&decide (zeG s=s.size)
def zcf:ByteArray×Int×Int:=(⟨#[]⟩,0,52)
def zen (host port:ByteArray):ByteArray×Int×Int:=
 if 5<port.size then zcf else if port.size=0 then (zaP host,-1,0) else if (zbY port 65535 10).2=0 then (zaP host,(zbY port 65535 10).1,0) else zcf
def authR (s:ByteArray):ByteArray×Int×Int:=
 if 0<s.size∧bt s 0=91 then
  (if zax s 93<s.size then
   (if zcj (s.extract 1 (zax s 93))=true then
    (if zax s 93+1=s.size then (zaP s,-1,0) else if bt s (zax s 93+1)=58 then zen (s.extract 0 (zax s 93+1)) (s.extract (zax s 93+2) s.size) else zcf)
   else zcf)
  else zcf)
 else if zcm (zbI s 58).1=true then zen (zbI s 58).1 (zbI s 58).2.1 else zcf
structure Tg where
 form:Int
 host:ByteArray
 port:Int
 path:ByteArray
 query:ByteArray
 hasq:Bool
def zbK:Tg:=⟨0,⟨#[]⟩,0,⟨#[]⟩,⟨#[]⟩,false⟩
def zgv:ByteArray:=⟨#[47]⟩
def Tg.laid (t:Tg) (p q:ByteArray) (h:Bool):Tg:={t with path:=if p.size=0 then zgv else p,query:=q,hasq:=h}
def zb0 (s:ByteArray) (i:Nat):Nat:=i+zz (s.extract i s.size)
def zjL (s:ByteArray) (i:Nat):Nat:=i+zay (s.extract i s.size)
theorem zhG {s:ByteArray} {i:Nat} (h:i≤s.size):i≤zb0 s i∧zb0 s i≤s.size:=by
 have:=zgo zbt (s.extract i s.size);rw[zk s h (Nat.le_refl _)] at this;unfold zb0 zz
 omega
theorem zqe {s:ByteArray} {i:Nat} (h:i≤s.size):i≤zjL s i∧zjL s i≤s.size:=by
 have:=zgo zcv (s.extract i s.size);rw[zk s h (Nat.le_refl _)] at this;unfold zjL zay
 omega
def zaK (t:Tg) (s:ByteArray) (i:Nat):Tg×Nat×Int:=
 if zb0 s i=s.size then (t.laid (s.extract i (zb0 s i)) ⟨#[]⟩ false,0,0)
 else if bt s (zb0 s i)=63 then
  (if zjL s (zb0 s i+1)<s.size then (zbK,zjL s (zb0 s i+1),zbk s (zjL s (zb0 s i+1)) 54)
  else (t.laid (s.extract i (zb0 s i)) (s.extract (zb0 s i+1) s.size) true,0,0))
 else (zbK,zb0 s i,zbk s (zb0 s i) 53)
def endA (s:ByteArray) (i:Nat):Nat:=zdG (fun j=>!(decide (bt s j=47)||decide (bt s j=63))) i (s.size - i)
theorem endA_spec {s:ByteArray} {i:Nat} (h:i≤s.size):i≤endA s i∧endA s i≤s.size∧(∀j,i≤j→j<endA s i→bt s j≠47∧bt s j≠63)∧(endA s i<s.size→bt s (endA s i)=47∨bt s (endA s i)=63):=by
 obtain ⟨h1,h2,h3,h4⟩:=zey (fun j=>!(decide (bt s j=47)||decide (bt s j=63))) (s.size - i) i;refine ⟨h1,by unfold endA;omega,fun j hj hk=>?_,fun hlt=>?_⟩
 ·have:=h3 j hj hk
  simp at this;exact this
 ·have:=h4 (by unfold endA at hlt;omega)
  rw[Bool.not_eq_false',Bool.or_eq_true,decide_eq_true_eq,decide_eq_true_eq] at this;exact this
theorem endA_at {s:ByteArray} {i k:Nat} (h1:i≤k) (h2:k<s.size) (hn:∀j,i≤j→j<k→bt s j≠47∧bt s j≠63) (hb:bt s k=47∨bt s k=63):endA s i=k:=
 zfN (fun j g1 g2=>by have:=hn j g1 g2;simp[this.1,this.2]) h1 (by omega) (by rw[Bool.not_eq_false',Bool.or_eq_true,decide_eq_true_eq,decide_eq_true_eq];exact hb)
theorem endA_none {s:ByteArray} {i:Nat} (h:i≤s.size) (hn:∀j,i≤j→j<s.size→bt s j≠47∧bt s j≠63):endA s i=s.size:=by
 have:=zgM (P:=fun j=>!(decide (bt s j=47)||decide (bt s j=63))) (a:=i) (n:=s.size - i) (fun j g1 g2=>by have:=hn j g1 (by omega);simp[this.1,this.2]);unfold endA;rw[this]
 omega
def zdd:ByteArray:=⟨#[104,116,116,112,58,47,47]⟩
def zbv:ByteArray:=⟨#[67,79,78,78,69,67,84]⟩
def zgi:ByteArray:=⟨#[79,80,84,73,79,78,83]⟩
def zcE:ByteArray:=⟨#[42]⟩
theorem zlv:zaP zdd=zdd:=by decide +kernel
def zjH (s:ByteArray):Tg×Nat×Int:=
 if (authR (s.extract 7 (endA s 7))).2.2=0 then zaK ⟨2,(authR (s.extract 7 (endA s 7))).1,(authR (s.extract 7 (endA s 7))).2.1,⟨#[]⟩,⟨#[]⟩,false⟩ s (endA s 7) else (zbK,7,52)
def zjs (s:ByteArray):Tg×Nat×Int:=
 if (authR s).2.2=0∧0≤(authR s).2.1 then (⟨3,(authR s).1,(authR s).2.1,⟨#[]⟩,⟨#[]⟩,false⟩,0,0) else (zbK,0,52)
def parseT (m s:ByteArray):Tg×Nat×Int:=
 if s.size=0 then (zbK,0,50)
 else if m=zbv then zjs s
 else if bt s 0=47 then zaK ⟨1,⟨#[]⟩,-1,⟨#[]⟩,⟨#[]⟩,false⟩ s 0
 else if s=zcE∧m=zgi then (⟨4,⟨#[]⟩,-1,⟨#[]⟩,⟨#[]⟩,false⟩,0,0)
 else if s.size<7∨zaP (s.extract 0 7)≠zdd then (zbK,0,50)
 else zjH s
theorem zrK (s:ByteArray):(authR s).2.2=0∨authR s=zcf:=by
 have hp:∀h p,(zen h p).2.2=0∨zen h p=zcf:=by
  intro h p;unfold zen
  split
  ·exact .inr rfl
  ·split
   ·exact .inl rfl
   ·split
    ·exact .inl rfl
    ·exact .inr rfl
 unfold authR
 split
 ·split
  ·split
   ·split
    ·exact .inl rfl
    ·split
     ·exact hp _ _
     ·exact .inr rfl
   ·exact .inr rfl
  ·exact .inr rfl
 ·split
  ·exact hp _ _
  ·exact .inr rfl
theorem zq8 {r:ByteArray} {k i:Nat} (hp:zax r 63=k) (hi:i<k):tri (r.extract 0 k) i=tri r i:=by
 have hk:=zfx r 63;rw[hp] at hk;have hz:=zk r (a:=0) (b:=k) (by omega) hk;have hb:∀j,j<k→bt (r.extract 0 k) j=bt r j:=fun j hj=>by
  have:=zbe r (a:=0) (b:=k) (j:=j) (by omega)
  rwa [Nat.zero_add] at this
 by_cases h2:i+2<k
 ·unfold tri
  rw[hz,hb i hi,hb (i+1) (by omega),hb (i+2) h2,decide_eq_true (show i+2<k - 0 by omega),decide_eq_true (show i+2<r.size by omega)]
 ·rw[zg1 (by omega)]
  rcases zaC r 63 with ⟨h,_⟩|⟨q,h,hq,hb63,_⟩
  ·rw[zg1 (by omega)]
  ·rw[hp] at h
   subst h;have hx:zaE 63<0:=by decide
   by_cases h1:k=i+1
   ·rw[zm9 (by rw[←h1,hb63];exact hx)]
   ·rw[znd (by rw[show i+2=k by omega,hb63];exact hx)]
theorem zkZ {P:Int→Bool} (h63:P 63=false) {r:ByteArray} {k:Nat} (hp:zax r 63=k):∀(n i:Nat),k - i≤n→i≤k→zbi P (r.extract 0 k) i=zbi P r i
 |n,i,hn,hi=>by
  have hk:=zfx r 63;rw[hp] at hk;have hz:=zk r (a:=0) (b:=k) (by omega) hk
  by_cases e:i=k
  ·subst e
   rw[zcp (by omega)]
   rcases zaC r 63 with ⟨h,_⟩|⟨q,h,hq,hb63,_⟩
   ·rw[zcp (by omega)]
   ·rw[hp] at h
    subst h;rw[zeI hq (zhc (by omega)) (by rw[hb63];exact h63)]
  ·have hb:bt (r.extract 0 k) i=bt r i:=by
    have:=zbe r (a:=0) (b:=k) (j:=i) (by omega)
    rwa [Nat.zero_add] at this
   rw[zc2 (by omega),zc2 (show i<r.size by omega),zq8 hp (by omega),hb]
   match n,hn with
   |0,hn=>omega
   |n+1,hn=>
    split
    ·rename_i ht
     have h3:=(zbB.1 ((zq8 hp (show i<k by omega)).trans ht)).1;rw[zkZ h63 hp n (i+3) (by omega) (by omega)]
    ·split
     ·rw[zkZ h63 hp n (i+1) (by omega) (by omega)]
     ·rfl
theorem zuX:zbt 63=false:=by decide +kernel
theorem zkr (r:ByteArray):zz (zbI r 63).1=zz r∧zz r≤zax r 63∧(zz r<zax r 63→bt (zbI r 63).1 (zz r)=bt r (zz r)):=by
 rcases zaC r 63 with ⟨h,_⟩|⟨k,h,hk,hb,_⟩
 ·rw[zco h,h]
  exact ⟨rfl,zgo _ _,fun _=>rfl⟩
 ·rw[zcY hk h,h]
  have e:zz (r.extract 0 k)=zz r:=zkZ zuX h k 0 (by omega) (by omega);have hle:=zgo zbt (r.extract 0 k);have hz:=zk r (a:=0) (b:=k) (by omega) (by omega);change zz (r.extract 0 k)≤_ at hle;refine ⟨e,by omega,fun hlt=>?_⟩;show bt (r.extract 0 k) _=_;have:=zbe r (a:=0) (b:=k) (j:=zz r) (by omega)
  rwa [Nat.zero_add] at this
def zjq (t:Tg) (s:ByteArray) (i:Nat):Tg×Nat×Int:=
 if zz (zbI (s.extract i s.size) 63).1<(zbI (s.extract i s.size) 63).1.size then (zbK,i+zz (zbI (s.extract i s.size) 63).1,zbk (zbI (s.extract i s.size) 63).1 (zz (zbI (s.extract i s.size) 63).1) 53)
 else if zay (zbI (s.extract i s.size) 63).2.1<(zbI (s.extract i s.size) 63).2.1.size then (zbK,i+(zbI (s.extract i s.size) 63).1.size+1+zay (zbI (s.extract i s.size) 63).2.1,zbk (zbI (s.extract i s.size) 63).2.1 (zay (zbI (s.extract i s.size) 63).2.1) 54)
 else (t.laid (zbI (s.extract i s.size) 63).1 (zbI (s.extract i s.size) 63).2.1 (zbI (s.extract i s.size) 63).2.2,0,0)
theorem ziN {s r:ByteArray} {i j:Nat} (h:bt r j=bt s i) (o:Int):zbk r j o=zbk s i o:=by unfold zbk;rw[h]
theorem zjW (s:ByteArray) {i k:Nat} (hi:i≤s.size) (hk:i+k≤s.size):(s.extract i s.size).extract 0 k=s.extract i (i+k):=by
 apply zV
 rw[Lib.extract_data,Lib.extract_data,Lib.extract_data,List.drop_zero,List.take_take]
 congr 1
 omega
theorem zv9 (t:Tg) (s:ByteArray) {i:Nat} (hi:i≤s.size):zjq t s i=zaK t s i:=by
 have hrz:=zk s (a:=i) (b:=s.size) hi (Nat.le_refl _);have hrb:∀j,j<s.size - i→bt (s.extract i s.size) j=bt s (i+j):=fun j hj=>zbe s hj
 obtain ⟨h1,h2,h3⟩:=zkr (s.extract i s.size);have he:zb0 s i=i+zz (s.extract i s.size):=rfl;have hee:∀k,i+k+1≤s.size→(s.extract i s.size).extract (k+1) (s.extract i s.size).size=s.extract (i+k+1) s.size:=fun k hk=>by
  rw[zh7,Nat.add_assoc]
 have hpre:∀k,i+k≤s.size→(s.extract i s.size).extract 0 k=s.extract i (i+k):=fun k hk=>zjW s hi hk
 unfold zjq zaK;rw[h1,he];generalize s.extract i s.size=r at *
 rcases zaC r 63 with ⟨hp,hn⟩|⟨k,hp,hk,hb,hn⟩
 ·rw[zco hp] at *
  rw[hp] at h2 h3
  by_cases hq:zz r=r.size
  ·have hs:i+r.size=s.size:=by omega
   have hr:r=s.extract i s.size:=by rw[←hs,←hpre r.size (by omega)];simp
   rw[if_neg (by simp only;omega),if_neg (show ¬zay ⟨#[]⟩<ByteArray.size ⟨#[]⟩ from Nat.not_lt_zero _),if_pos (by omega),hq,hs,←hr]
  ·have hlt:zz r<r.size:=by omega
   rw[if_pos (by simp only;omega),if_neg (by omega)];have hbb:=hrb (zz r) (by omega);have hne:=hn (zz r) hlt;rw[if_neg (by rw[←hbb];exact hne),ziN hbb]
 ·rw[hp] at h2 h3
  rw[zcY hk hp] at *;have hz:=zk r (a:=0) (b:=k) (by omega) (by omega);simp only[hz,Nat.sub_zero] at *
  by_cases hlt:zz r<k
  ·rw[if_pos hlt,if_neg (by omega)]
   have hbb:=hrb (zz r) (by omega);have hne:=hn (zz r) hlt;rw[if_neg (by rw[←hbb];exact hne),ziN ((h3 hlt).trans hbb)]
  ·have hpk:zz r=k:=by omega
   have hbk:bt s (i+k)=63:=by rw[←hrb k (by omega)];exact hb
   rw[if_neg hlt,hpk,if_neg (show ¬i+k=s.size by omega),if_pos hbk,hee k (by omega),hpre k (by omega)];have hqz:=zk s (a:=i+k+1) (b:=s.size) (by omega) (Nat.le_refl _);have hql:=zgo zcv (s.extract (i+k+1) s.size);change zay (s.extract (i+k+1) s.size)≤_ at hql;have hE:zjL s (i+k+1)=i+k+1+zay (s.extract (i+k+1) s.size):=rfl;rw[hE]
   by_cases hqe:zay (s.extract (i+k+1) s.size)<(s.extract (i+k+1) s.size).size
   ·have hbb:=zbe s (a:=i+k+1) (b:=s.size) (j:=zay (s.extract (i+k+1) s.size)) (by omega)
    rw[if_pos hqe,if_pos (by omega),ziN hbb]
   ·rw[if_neg hqe,if_neg (by omega)]
theorem zi1 (s:ByteArray) (i:Nat) {o:Int} (h:o≠0):zbk s i o≠0:=by
 unfold zbk
 split<;>omega
end Go.Proofs.YtbnafbdhomdcoaaGreatDoor.T5
