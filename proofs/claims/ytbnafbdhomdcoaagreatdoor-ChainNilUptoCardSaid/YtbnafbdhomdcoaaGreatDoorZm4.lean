/-
  ChS, CjB, TgN, CjP, CjN, CjF, CjG, CjX, CjQ, CjT, CjY, CjReg, without what the claim does not reach.
-/
import Derived.Test.YtbnafbdhomdcoaaGreatDoorZm3
import Derived.Test.YtbnafbdhomdcoaaGreatDoorZm2
import Derived.Laws.EntriesVeiled
import Derived.Test.YtbnafbdhomdcoaaGreatDoorZm0
import Derived.Test.YtbnafbdhomdcoaaGreatDoorZm1
import Derived.Lib.Join
import Derived.Lib.Strings
import Derived.Lib.Hide
import Derived.Test.YtbnafbdhomdcoaaGreatDoorZTgO
import Derived.Deep.RegionHeld3
namespace Go.Proofs.YtbnafbdhomdcoaaGreatDoor
open Go.RowKit Go.Shelf Go.Lib
set_option maxRecDepth 20000 in
theorem zpw (w:World):
  Calls Tryz.prog 55 #[.string ⟨#[49]⟩] w fun e w'=>e= .returned (.bool true)∧Below w.heap.size w w':=by
 have HF:=hid (fun w=>zd7 ⟨#[49]⟩ w (by decide));have HT:=hid (fun w=>zkz ⟨#[49]⟩ w (by decide));rw[show zcb ⟨#[49]⟩=true by decide +kernel] at HF;rw[show zes ⟨#[49]⟩=⟨#[49]⟩ by decide +kernel] at HT
 go_enter Tryz.func55,Tryz.ntmps55
 go_wp2_with fail
 refine (HF.out _).mono ?_;rintro e w1 ⟨rfl,rfl⟩
 go_wp2_with fail
 refine (HT.out _).mono ?_;rintro e w1 ⟨rfl,b1⟩
 go_wp2
 go_ret
 exact ⟨rfl,b1⟩
set_option maxRecDepth 20000 in
theorem zsT (w:World) (hg:Glob w):
  Calls Tryz.prog 53 #[.agg #[.int .i64 1,.string ⟨#[88]⟩,.string ⟨#[49]⟩,.slice none 0 0,.int .i64 0]] w fun e w'=>e= .returned (.bool true)∧Below w.heap.size w w':=by
 have HT:=hid (fun w hg=>zd9 ⟨#[88]⟩ w (by decide) hg);rw[show zbn ⟨#[88]⟩=true by decide +kernel] at HT
 go_enter Tryz.func53,Tryz.ntmps53
 go_wp2_with fail
 refine (HT.out _ (hg.beyond ((Below.refl _ w).alloc (Nat.le_refl _) _))).mono ?_;rintro e w1 ⟨rfl,rfl⟩
 go_wp2_with fail
 refine (zpw _).mono ?_;rintro e w1 ⟨rfl,b1⟩;have hbw:Below w.heap.size w w1:=((Below.refl _ w).alloc (Nat.le_refl _) _).trans (b1.mono (by simp));clear b1
 go_wp2
 go_ret
 exact ⟨rfl,hbw⟩
set_option maxRecDepth 20000 in
theorem zmn (w:World):
  Calls Tryz.prog 35 #[] w fun e w'=>e= .returned (.slice (some ⟨w.heap.size,0,none⟩) 10 10)∧(w'.cell? ⟨w.heap.size,0,none⟩=some (.int .i64 3)∧w'.cell? ⟨w.heap.size,1,none⟩=some (.func (.func 53) #[] #[])∧w'.cell? ⟨w.heap.size,2,none⟩=some (.func (.func 56) #[] #[]))∧w.heap.size<w'.heap.size∧Below w.heap.size w w':=by
 go_enter Tryz.func35,Tryz.ntmps35
 go_wp2
 go_ret
 exact ⟨rfl,⟨by simp,by simp,by simp⟩,by simp,(Below.refl _ w).alloc (Nat.le_refl _) _⟩
theorem zuh (B:Nat) (w:World) (z:Bool) (hc:w.cell? ⟨B,0,none⟩=some (.int .i64 3)):
  Calls Tryz.prog 52 #[.int .i64 1,.bool z,.pointer (some ⟨B,0,none⟩)] w fun e w'=>e= .returned (.bool true)∧w=w':=by
 go_enter Tryz.func52,Tryz.ntmps52
 go_wp2
 go_ret
 exact ⟨rfl,rfl⟩
theorem zup (B:Nat) (w:World) (z:Bool) (hc:w.cell? ⟨B,0,none⟩=some (.int .i64 3)):
  Calls Tryz.prog 52 #[.int .i64 2,.bool z,.pointer (some ⟨B,0,none⟩)] w fun e w'=>e= .returned (.bool true)∧w=w':=by
 go_enter Tryz.func52,Tryz.ntmps52
 go_wp2
 go_ret
 exact ⟨rfl,rfl⟩
theorem zst (B:Nat) (w:World) (hc:w.cell? ⟨B,0,none⟩=some (.int .i64 3)):
  Calls Tryz.prog 52 #[.int .i64 4,.bool true,.pointer (some ⟨B,0,none⟩)] w fun e w'=>e= .returned (.bool true)∧w=w':=by
 go_enter Tryz.func52,Tryz.ntmps52
 go_wp2
 go_ret
 exact ⟨rfl,rfl⟩
theorem zpW (B:Nat) (w:World) (hc:w.cell? ⟨B,0,none⟩=some (.int .i64 3)):
  Calls Tryz.prog 52 #[.int .i64 8,.bool true,.pointer (some ⟨B,0,none⟩)] w fun e w'=>e= .returned (.bool true)∧w=w':=by
 go_enter Tryz.func52,Tryz.ntmps52
 go_wp2
 go_ret
 exact ⟨rfl,rfl⟩
set_option maxRecDepth 20000 in
set_option maxHeartbeats 2000000 in
theorem zsm (w:World) (hg:Glob w):
  Calls Tryz.prog 34 #[.agg #[.int .i64 1,.string ⟨#[88]⟩,.string ⟨#[49]⟩,.slice none 0 0,.int .i64 0]] w fun e w'=>e= .returned (.int .i64 0)∧Below w.heap.size w w':=by
 have hmf:∀(fn:Fn) (first cap:Array Value) (w:World),(Instr.makeFunc fn first cap).run Tryz.prog w= .ok (.func fn first cap) w:=fun _ _ _ _=>rfl
 go_enter Tryz.func34,Tryz.ntmps34
 go_wp2_with fail
 refine (zmn _).mono ?_;rintro e w1 ⟨rfl,⟨k0,k1,k2⟩,hs1,b1⟩;have b1':Below (w.heap.size+1) (w.alloc (.cells #[.int .i64 1,.string ⟨#[88]⟩,.string ⟨#[49]⟩,.slice none 0 0,.int .i64 0] 24)) w1:=by simpa using b1
 clear b1;obtain ⟨c0,f0⟩:=zH b1' 0;obtain ⟨c1,f1⟩:=zH b1' 1;obtain ⟨c2,f2⟩:=zH b1' 2;obtain ⟨c3,f3⟩:=zH b1' 3;obtain ⟨c4,f4⟩:=zH b1' 4;have hs1':w.heap.size+1<w1.heap.size:=by simpa using hs1
 have hs0':w.heap.size<w1.heap.size:=by omega
 have hbw:=zw b1';clear b1' hs1;simp at k0 k1 k2
 go_wp2_with fail
 refine (zuh _ _ _ (by simp)).mono ?_;rintro e w2 ⟨rfl,rfl⟩
 go_wp2_with fail
 refine (zup _ _ _ (by simp)).mono ?_;rintro e w2 ⟨rfl,rfl⟩
 go_wp2_with fail
 refine (zst _ _ (by simp)).mono ?_;rintro e w2 ⟨rfl,rfl⟩
 go_wp2_with fail
 refine (zpW _ _ (by simp)).mono ?_;rintro e w2 ⟨rfl,rfl⟩;have hbw2:=hbw.alloc hbw.size (.cells #[.int .i64 3,.func (.func 53) #[] #[],.func (.func 56) #[] #[]] 76)
 go_wp2_with fail
 refine (zsT _ (hg.beyond hbw2)).mono ?_;rintro e w2 ⟨rfl,b2⟩;have hbw3:Below w.heap.size w w2:=hbw2.trans (b2.mono (by simp;omega));clear b2
 go_wp2
 go_ret
 exact ⟨rfl,hbw3⟩
def zjP (w:World) (st:Int) (rs:ByteArray) (fs:List Fl) (b:ByteArray) (e:Ending) (w':World):Prop:=
 ∃A c,e= .returned (.agg #[.int .i64 st,.string rs,.slice A fs.length c,.string b])∧w'.ownsRow w.heap.size 59 2 (.slice A fs.length c) fs.length (zj fs)∧Below w.heap.size w w'
set_option maxRecDepth 20000 in
set_option maxHeartbeats 2000000 in
theorem zbV (st:Int) (rs b:ByteArray) (A B:Option Addr) (c d:Nat) (l m:List Fl) (w:World) (hr:Row w A (zj l)) (hs:Row w B (zj m)) (hl:l.length≤2199023255552) (hm:m.length≤2199023255552):
  Calls Tryz.prog 93 #[.agg #[.int .i64 st,.string rs,.slice A l.length c,.string b],.slice B m.length d] w (zjP w st rs (l++m) b):=by
 obtain ⟨i0,hi0,hz0,hz1,hz2⟩:=info_parts zez;have hW:Below w.heap.size w ((w.alloc (.cells #[.int .i64 st,.string rs,.slice A l.length c,.string b] 29)).alloc (.cells #[.int .i64 0,.string ⟨#[]⟩,.slice none 0 0,.string ⟨#[]⟩] 29)):=((Below.refl _ w).alloc (Nat.le_refl _) _).alloc (by simp) _;have HC:=hid (zrD A c l ((w.alloc (.cells #[.int .i64 st,.string rs,.slice A l.length c,.string b] 29)).alloc (.cells #[.int .i64 0,.string ⟨#[]⟩,.slice none 0 0,.string ⟨#[]⟩] 29)) ((hr.alloc _).alloc _) (by omega))
 go_enter Tryz.func93,Tryz.ntmps93
 go_wp2_with fail
 refine HC.out.mono ?_;rintro e w1 ⟨A1,c1,rfl,hown,hb1⟩;have hb1':Below (w.heap.size+2) ((w.alloc (.cells #[.int .i64 st,.string rs,.slice A l.length c,.string b] 29)).alloc (.cells #[.int .i64 0,.string ⟨#[]⟩,.slice none 0 0,.string ⟨#[]⟩] 29)) w1:=by simpa using hb1
 have hown1:w1.ownsRow (w.heap.size+2) 59 2 (.slice A1 l.length c1) l.length (zj l):=by simpa using hown
 have hs1:=hs.below (hW.trans (hb1.mono (by simp;omega)));clear hb1 hown;have hsz:w.heap.size+2≤w1.heap.size:=by have:=hb1'.size;simpa using this
 go_wp2_with (at_builtin;refine zq _ rfl _ _ 25 rfl (w.heap.size+2) 59 i0 (.agg #[.string ⟨#[]⟩,.string ⟨#[]⟩]) 2 32 Tryz.underlying25 hi0 hz0 hz1 hz2 rfl (by decide) _ l.length (zj l) rfl hown1 _ B m.length d (zj m) rfl (zv hs1 (zK m) (by decide)) ?c1 ?c2 ?c3 ?c4 ?c5)
 case c1=>exact zA m
 case c2=>unfold maxLen;omega
 case c3=>omega
 case c4=>omega
 case c5=>
  intro v' w3 hown3 hg _;have hb3:Below (w.heap.size+2) ((w.alloc (.cells #[.int .i64 st,.string rs,.slice A l.length c,.string b] 29)).alloc (.cells #[.int .i64 0,.string ⟨#[]⟩,.slice none 0 0,.string ⟨#[]⟩] 29)) w3:=hb1'.grown hg hsz (zI hown1);have hov:w3.ownsRow (w.heap.size+2) 59 2 v' (l++m).length (zj (l++m)):=by rw[zX,List.length_append];exact hown3
  clear hg hown3 hown1 hb1' hs1;obtain ⟨A',c',rfl⟩:=zC hov;have hll:(l++m).length=l.length+m.length:=List.length_append;have K0:∀j,w3.cell? ⟨w.heap.size,j,none⟩=(#[.int .i64 st,.string rs,.slice A l.length c,.string b]:Array Value)[j]?∧w3.frozen? ⟨w.heap.size,j,none⟩=false:=fun j=>by
   refine ⟨?_,?_⟩
   ·rw[hb3.cell (p:=⟨w.heap.size,j,none⟩) (by simp),World.cell?_alloc_lt _ _ _ (by simp),World.cell?_alloc_new]
   ·rw[hb3.frozen (p:=⟨w.heap.size,j,none⟩) (by simp)];simp
  have K1:∀j,w3.cell? ⟨w.heap.size+1,j,none⟩=(#[.int .i64 0,.string ⟨#[]⟩,.slice none 0 0,.string ⟨#[]⟩]:Array Value)[j]?∧w3.frozen? ⟨w.heap.size+1,j,none⟩=false:=fun j=>by
   refine ⟨?_,?_⟩
   ·rw[hb3.cell (p:=⟨w.heap.size+1,j,none⟩) (by simp)];exact World.cell?_alloc_at _ _ _ _ (by simp)
   ·rw[hb3.frozen (p:=⟨w.heap.size+1,j,none⟩) (by simp)];exact World.frozen?_alloc_at _ _ _ _ (by simp)
  obtain ⟨k0,g0⟩:=K0 0;obtain ⟨k1,g1⟩:=K0 1;obtain ⟨k2,g2⟩:=K0 2;obtain ⟨k3,g3⟩:=K0 3;obtain ⟨j0,f0⟩:=K1 0;obtain ⟨j1,f1⟩:=K1 1;obtain ⟨j2,f2⟩:=K1 2;obtain ⟨j3,f3⟩:=K1 3;have hz0:w.heap.size<w3.heap.size:=by have:=hb3.size;simp at this;omega
  have hz1:w.heap.size+1<w3.heap.size:=by have:=hb3.size;simp at this;omega
  have HBW:=hid (show Below w.heap.size w w3 from hW.trans (hb3.mono (by omega)));have HOV:=hid hov;have HLL:=hid hll;clear hb3 hov hW K0 K1 hll
  go_wp2
  exact bodyPost_ret (v:=.agg #[.int .i64 st,.string rs,.slice A' (l.length+m.length) c',.string b]) (by simp[results,Tryz.results93,go_sem,j0,j1,j2,j3]) rfl ⟨A',c',by rw[HLL.out],zn (ownsRow_setCell_below (ownsRow_setCell_below (ownsRow_setCell_below (ownsRow_setCell_below (ownsRow_setCell_below HOV.out (by simp) _) (by simp) _) (by simp) _) (by simp) _) (by simp) _) (by omega),by (repeat (first|(with_reducible refine Below.setCell ?_ (by simp) _)));exact HBW.out⟩
end Go.Proofs.YtbnafbdhomdcoaaGreatDoor
namespace Go.Proofs.YtbnafbdhomdcoaaGreatDoor
def zce:ByteArray:=⟨#[65,66,67,68,69,70,71,72,73,74,75,76,77,78,79,80,81,82,83,84,85,86,87,88,89,90,97,98,99,100,101,102,103,104,105,106,107,108,109,110,111,112,113,114,115,116,117,118,119,120,121,122,48,49,50,51,52,53,54,55,56,57,43,47]⟩
def zaI (c:UInt8):Int:=za7 zce (c.toNat:Int)
theorem zeM (c:UInt8):-1≤zaI c∧zaI c<64:=by
 have h:∀k:Fin 256,-1≤zaI (UInt8.ofNat k.val)∧zaI (UInt8.ofNat k.val)<64:=by decide +kernel
 have:=h ⟨c.toNat,c.toNat_lt⟩
 simpa using this
theorem zg4:zaI 61=-1:=by decide +kernel
def zm (c:UInt8):Nat:=(zaI c).toNat
def zc4 (a b c d:UInt8):Option (List UInt8×Bool):=
 if zaI a<0∨zaI b<0 then none
 else if 0≤zaI c then
  if 0≤zaI d then some ([UInt8.ofNat ((((zm a*64+zm b)*64+zm c)*64+zm d) / 65536),UInt8.ofNat ((((zm a*64+zm b)*64+zm c)*64+zm d) / 256),UInt8.ofNat (((zm a*64+zm b)*64+zm c)*64+zm d)],false)
  else if d=61∧zm c % 4=0 then some ([UInt8.ofNat (((zm a*64+zm b)*64+zm c) / 1024),UInt8.ofNat (((zm a*64+zm b)*64+zm c) / 4)],true)
  else none
 else if c=61∧d=61∧zm b % 16=0 then some ([UInt8.ofNat ((zm a*64+zm b) / 16)],true)
 else none
def b64:List UInt8→Option (List UInt8)
 |[]=>some []
 |a::b::c::d::r=>match zc4 a b c d with
  |none=>none
  |some (o,false)=>(b64 r).map (o++·)
  |some (o,true)=>if r=[] then some o else none
 |_=>none
structure B6 where
 n:Nat
 hv:Nat
 fill:Nat
 out:List UInt8
def zc7 (n m:Nat):List UInt8:=if m<8 then [] else UInt8.ofNat (n / 2 ^ (m - 8))::zc7 n (m - 8)
termination_by m
def zav (p:Nat) (st:B6) (c:UInt8):Option B6:=
 if 0<st.fill∧p=0 then none
 else if 0≤zaI c∧st.fill=0 then some ⟨st.n*64+zm c,st.hv+6,0,st.out⟩
 else if c=61∧st.fill=0∧2≤p∧st.n % 2 ^ (st.hv % 8)=0 then some ⟨st.n,st.hv,1,st.out⟩
 else if c=61∧st.fill=1∧p=3 then some ⟨st.n,st.hv,2,st.out⟩
 else none
def zbj (p:Nat) (st:B6):B6:=if p=3 then ⟨0,0,st.fill,st.out++zc7 st.n st.hv⟩ else st
def zbR:List UInt8→Nat→B6→Option (List UInt8)
 |[],i,st=>if i % 4=0 then some st.out else none
 |c::r,i,st=>match zav (i % 4) st c with
  |none=>none
  |some s=>zbR r (i+1) (zbj (i % 4) s)
structure znt (i:Nat) (st:B6):Prop where
 n:st.n<2 ^ st.hv
 hv:st.hv≤6*(i % 4)
theorem znt.first:znt 0 ⟨0,0,0,[]⟩:=⟨by simp,by simp⟩
theorem znt.next {i:Nat} {st s:B6} {c:UInt8} (h:znt i st) (hs:zav (i % 4) st c=some s):s.n<2 ^ s.hv∧s.hv≤6*(i % 4)+6∧s.hv≤24:=by
 obtain ⟨h1,h2⟩:=h;have h4:i % 4<4:=Nat.mod_lt _ (by omega);unfold zav at hs
 split at hs
 ·cases hs
 ·split at hs
  ·cases hs
   have hv:zm c<64:=by have:=zeM c;unfold zm;omega
   refine ⟨?_,by simp;omega,by simp;omega⟩;show st.n*64+zm c<2 ^ (st.hv+6);rw[Nat.pow_add]
   omega
  ·split at hs
   ·cases hs;exact ⟨h1,by simp;omega,by simp;omega⟩
   ·split at hs
    ·cases hs;exact ⟨h1,by simp;omega,by simp;omega⟩
    ·cases hs
theorem znt.step {i:Nat} {st s:B6} {c:UInt8} (h:znt i st) (hs:zav (i % 4) st c=some s):znt (i+1) (zbj (i % 4) s):=by
 obtain ⟨h1,h2,h3⟩:=h.next hs;unfold zbj
 split
 ·exact ⟨by simp,by simp⟩
 ·have:(i+1) % 4=i % 4+1:=by omega
  exact ⟨h1,by omega⟩
theorem zrB {i:Nat} (hi:i % 4=0) (f:Nat) (hf:0<f) (l out:List UInt8) (n hv:Nat):zbR l i ⟨n,hv,f,out⟩=if l=[] then some out else none:=by
 cases l with
 |nil=>simp[zbR,hi]
 |cons c r=>simp[zbR,zav,hi,hf]
theorem zwA (n:Nat):zc7 n 24=[UInt8.ofNat (n / 65536),UInt8.ofNat (n / 256),UInt8.ofNat n]:=by simp[zc7]
theorem zw2 (n:Nat):zc7 n 18=[UInt8.ofNat (n / 1024),UInt8.ofNat (n / 4)]:=by simp[zc7]
theorem zw6 (n:Nat):zc7 n 12=[UInt8.ofNat (n / 16)]:=by simp[zc7]
theorem zuR {i:Nat} (hi:i % 4=0) (a b c d:UInt8) (r out:List UInt8):zbR (a::b::c::d::r) i ⟨0,0,0,out⟩=match zc4 a b c d with
  |none=>none
  |some (o,false)=>zbR r (i+4) ⟨0,0,0,out++o⟩
  |some (o,true)=>if r=[] then some (out++o) else none:=by
 have h1:(i+1) % 4=1:=by omega
 have h2:(i+1+1) % 4=2:=by omega
 have h3:(i+1+1+1) % 4=3:=by omega
 have h4:(i+1+1+1+1) % 4=0:=by omega
 have h61:=zg4
 by_cases ha:zaI a<0
 ·have:¬0≤zaI a:=by omega
  simp[zbR,zav,hi,zc4,ha,this]
 ·have ha':0≤zaI a:=by omega
  by_cases hb:zaI b<0
  ·have:¬0≤zaI b:=by omega
   simp[zbR,zav,zbj,hi,h1,zc4,ha,ha',hb,this]
  ·have hb':0≤zaI b:=by omega
   by_cases hc:0≤zaI c
   ·by_cases hd:0≤zaI d
    ·simp[zbR,zav,zbj,hi,h1,h2,h3,zc4,ha,ha',hb,hb',hc,hd,zwA]
    ·have hm:(((zm a*64+zm b)*64+zm c) % 4=0)↔zm c % 4=0:=by omega
     by_cases he:d=61
     ·by_cases hz:zm c % 4=0
      ·have hz':=hm.2 hz
       simp[zbR,zav,zbj,hi,h1,h2,h3,zc4,ha,ha',hb,hb',hc,he,hz,hz',h61,zw2];rw[zrB h4 1 (by omega)]
      ·have hz':¬((zm a*64+zm b)*64+zm c) % 4=0:=fun h=>hz (hm.1 h)
       simp[zbR,zav,zbj,hi,h1,h2,h3,zc4,ha,ha',hb,hb',hc,he,hz,hz',h61]
     ·simp[zbR,zav,zbj,hi,h1,h2,h3,zc4,ha,ha',hb,hb',hc,hd,he]
   ·by_cases he:c=61
    ·have hm:((zm a*64+zm b) % 16=0)↔zm b % 16=0:=by omega
     by_cases hz:zm b % 16=0
     ·have hz':=hm.2 hz
      by_cases hf:d=61
      ·simp[zbR,zav,zbj,hi,h1,h2,h3,zc4,ha,ha',hb,hb',he,hf,hz,hz',h61,zw6]
       rw[zrB h4 2 (by omega)]
      ·simp[zbR,zav,zbj,hi,h1,h2,h3,zc4,ha,ha',hb,hb',he,hf,hz,hz',h61]
     ·have hz':¬(zm a*64+zm b) % 16=0:=fun h=>hz (hm.1 h)
      simp[zbR,zav,zbj,hi,h1,h2,zc4,ha,ha',hb,hb',he,hz,hz',h61]
    ·simp[zbR,zav,zbj,hi,h1,h2,zc4,ha,ha',hb,hb',hc,he]
theorem ztk:∀(k:Nat) (l out:List UInt8) (i:Nat),l.length≤k→i % 4=0→zbR l i ⟨0,0,0,out⟩=(b64 l).map (out++·)
 |0,l,out,i,hl,hi=>by
  obtain rfl:l=[]:=List.eq_nil_of_length_eq_zero (by omega);simp[zbR,b64,hi]
 |k+1,[],out,i,_,hi=>by simp[zbR,b64,hi]
 |k+1,[a],out,i,_,hi=>by
  have h1:¬(i+1) % 4=0:=by omega
  simp only[zbR,b64,Option.map_none]
  split
  ·rfl
  ·rw[if_neg h1]
 |k+1,[a,b],out,i,_,hi=>by
  have h1:¬(i+1+1) % 4=0:=by omega
  simp only[zbR,b64,Option.map_none]
  split
  ·rfl
  ·split
   ·rfl
   ·rw[if_neg h1]
 |k+1,[a,b,c],out,i,_,hi=>by
  have h1:¬(i+1+1+1) % 4=0:=by omega
  simp only[zbR,b64,Option.map_none]
  split
  ·rfl
  ·split
   ·rfl
   ·split
    ·rfl
    ·rw[if_neg h1]
 |k+1,a::b::c::d::r,out,i,hl,hi=>by
  rw[zuR hi,b64]
  cases hg:zc4 a b c d with
  |none=>rfl
  |some x=>
   obtain ⟨o,e⟩:=x
   cases e
   ·show zbR r (i+4) ⟨0,0,0,out++o⟩=_
    rw[ztk k r (out++o) (i+4) (by simp at hl;omega) (by omega)]
    cases b64 r<;>simp
   ·show (if r=[] then some (out++o) else none)=(if r=[] then some o else none).map (out++·)
    split<;>rfl
theorem zwr (l:List UInt8):zbR l 0 ⟨0,0,0,[]⟩=b64 l:=by
 rw[ztk l.length l [] 0 (Nat.le_refl _) (by rfl)]
 cases b64 l<;>simp
theorem ztm (n:Nat):∀m,(zc7 n m).length≤m / 8:=by
 intro m
 induction m using Nat.strongRecOn with
 |ind m ih=>
  rw[zc7]
  split
  ·simp
  ·rename_i h
   have:=ih (m - 8) (by omega);simp
   omega
def zbF:List UInt8→Bool
 |[]=>true
 |[a]=>decide (0≤zaI a)
 |[a,b]=>decide (0≤zaI a)&&decide (0≤zaI b)
 |[a,b,c]=>(decide (0≤zaI a)&&decide (0≤zaI b))&&(decide (0≤zaI c)||(decide (c=61)&&decide (zm b % 16=0)))
 |a::b::c::d::_=>((decide (0≤zaI a)&&decide (0≤zaI b))&&(decide (0≤zaI c)||(decide (c=61)&&decide (zm b % 16=0))))&&((decide (0≤zaI d)&&!decide (c=61))||(decide (d=61)&&(decide (c=61)||decide (zm c % 4=0))))
def zdn (a b c d:UInt8):List UInt8:=
 [UInt8.ofNat ((zm a*262144+zm b*4096) / 65536)]++(if c=61 then [] else [UInt8.ofNat ((zm a*262144+zm b*4096+zm c*64) / 256)])++(if d=61 then [] else [UInt8.ofNat (zm a*262144+zm b*4096+zm c*64+zm d)])
theorem zxj {x d:Nat} (h:d<64):(x*64+d) / 64=x:=by omega
theorem zwg (a b c:Nat):a*262144+b*4096+c*64=((a*64+b)*64+c)*64:=by omega
theorem zxl (x:Nat) {d:Nat} (h:d<64):x*64 / 256=(x*64+d) / 256:=by
 rw[←Nat.div_div_eq_div_mul _ 64 4,←Nat.div_div_eq_div_mul _ 64 4,zxj h,Nat.mul_div_cancel _ (by omega)]
theorem zxy (x:Nat):x*64 / 256=x / 4:=by
 rw[←Nat.div_div_eq_div_mul _ 64 4,Nat.mul_div_cancel _ (by omega)]
theorem zs2 {a b c d:UInt8} (nc:¬c=61) (nd:¬d=61):zdn a b c d=[UInt8.ofNat ((((zm a*64+zm b)*64+zm c)*64+zm d) / 65536),UInt8.ofNat ((((zm a*64+zm b)*64+zm c)*64+zm d) / 256),UInt8.ofNat (((zm a*64+zm b)*64+zm c)*64+zm d)]:=by
 have hv:∀x:UInt8,zm x<64:=fun x=>by have:=zeM x;unfold zm;omega
 have hc:=hv c;have hd:=hv d;have e1:(zm a*262144+zm b*4096) / 65536=(((zm a*64+zm b)*64+zm c)*64+zm d) / 65536:=by
  rw[←Nat.div_div_eq_div_mul _ 4096 16,←Nat.div_div_eq_div_mul _ 4096 16]
  congr 1
  omega
 have e2:(zm a*262144+zm b*4096+zm c*64) / 256=(((zm a*64+zm b)*64+zm c)*64+zm d) / 256:=by
  rw[zwg];exact zxl _ hd
 have e3:zm a*262144+zm b*4096+zm c*64+zm d=((zm a*64+zm b)*64+zm c)*64+zm d:=by omega
 unfold zdn;rw[if_neg nc,if_neg nd,e1,e2,e3]
 rfl
theorem zvD {a b c d:UInt8} (nc:¬c=61) (nd:d=61):zdn a b c d=[UInt8.ofNat (((zm a*64+zm b)*64+zm c) / 1024),UInt8.ofNat (((zm a*64+zm b)*64+zm c) / 4)]:=by
 have hv:∀x:UInt8,zm x<64:=fun x=>by have:=zeM x;unfold zm;omega
 have hc:=hv c;have e1:(zm a*262144+zm b*4096) / 65536=((zm a*64+zm b)*64+zm c) / 1024:=by
  rw[←Nat.div_div_eq_div_mul _ 4096 16,←Nat.div_div_eq_div_mul _ 64 16]
  congr 1
  omega
 have e2:(zm a*262144+zm b*4096+zm c*64) / 256=((zm a*64+zm b)*64+zm c) / 4:=by
  rw[zwg];exact zxy _
 unfold zdn;rw[if_neg nc,if_pos nd,e1,e2]
 rfl
theorem zvu {a b c d:UInt8} (nc:c=61) (nd:d=61):zdn a b c d=[UInt8.ofNat ((zm a*64+zm b) / 16)]:=by
 have e1:(zm a*262144+zm b*4096) / 65536=(zm a*64+zm b) / 16:=by omega
 unfold zdn;rw[if_pos nc,if_pos nd,e1]
 rfl
theorem zl5 (a b c d:UInt8):(if zbF [a,b,c,d]=true then some (zdn a b c d,decide (d=61)) else none)=zc4 a b c d:=by
 have h61:=zg4;unfold zc4
 by_cases ga:0≤zaI a
 ·by_cases gb:0≤zaI b
  ·rw[if_neg (show ¬(zaI a<0∨zaI b<0) by omega)]
   by_cases gc:0≤zaI c
   ·have nc:¬c=61:=fun e=>by rw[e,h61] at gc;omega
    rw[if_pos gc]
    by_cases gd:0≤zaI d
    ·have nd:¬d=61:=fun e=>by rw[e,h61] at gd;omega
     have hg:zbF [a,b,c,d]=true:=by simp[zbF,ga,gb,gc,gd,nc]
     rw[if_pos hg,if_pos gd,zs2 nc nd,decide_eq_false nd]
    ·by_cases nd:d=61
     ·by_cases gz:zm c % 4=0
      ·have hg:zbF [a,b,c,d]=true:=by simp[zbF,ga,gb,gc,nd,gz]
       rw[if_pos hg,if_neg gd,if_pos ⟨nd,gz⟩,zvD nc nd,decide_eq_true nd]
      ·have hg:¬zbF [a,b,c,d]=true:=by simp[zbF,nc,nd,gz,h61]
       rw[if_neg hg,if_neg gd,if_neg (fun g=>gz g.2)]
     ·have hg:¬zbF [a,b,c,d]=true:=by simp[zbF,gd,nd]
      rw[if_neg hg,if_neg gd,if_neg (fun g=>nd g.1)]
   ·rw[if_neg gc]
    by_cases nc:c=61
    ·by_cases gz:zm b % 16=0
     ·by_cases nd:d=61
      ·have hg:zbF [a,b,c,d]=true:=by simp[zbF,ga,gb,nc,nd,gz]
       rw[if_pos hg,if_pos ⟨nc,nd,gz⟩,zvu nc nd,decide_eq_true nd]
      ·have hg:¬zbF [a,b,c,d]=true:=by simp[zbF,nc,nd]
       rw[if_neg hg,if_neg (fun g=>nd g.2.1)]
     ·have hg:¬zbF [a,b,c,d]=true:=by simp[zbF,nc,gz,h61]
      rw[if_neg hg,if_neg (fun g=>gz g.2.2)]
    ·have hg:¬zbF [a,b,c,d]=true:=by simp[zbF,gc,nc]
     rw[if_neg hg,if_neg (fun g=>nc g.1)]
  ·have hg:¬zbF [a,b,c,d]=true:=by simp[zbF,gb]
   rw[if_pos (show zaI a<0∨zaI b<0 by omega),if_neg hg]
 ·have hg:¬zbF [a,b,c,d]=true:=by simp[zbF,ga]
  rw[if_pos (show zaI a<0∨zaI b<0 by omega),if_neg hg]
end Go.Proofs.YtbnafbdhomdcoaaGreatDoor
namespace Go.Proofs.YtbnafbdhomdcoaaGreatDoor.T5
def zjO (s:ByteArray):Nat→Nat→List UInt8→List UInt8
 |0,_,acc=>acc
 |n+1,i,acc=>if i<s.size then (if tri s i=true then zjO s n (i+3) (acc++zgy (zdm s i)) else zjO s n (i+1) (acc++[zf6 s i])) else acc
theorem zi5 (s:ByteArray):∀(n i:Nat) (acc:List UInt8),s.size - i≤n→zjO s n i acc=zjO s (n+1) i acc
 |0,i,acc,h=>by
  unfold zjO;rw[if_neg (by omega)]
 |n+1,i,acc,h=>by
  conv=>lhs;unfold zjO
  conv=>rhs;unfold zjO
  split
  ·split
   ·exact zi5 s n (i+3) _ (by omega)
   ·exact zi5 s n (i+1) _ (by omega)
  ·rfl
theorem zrb (s:ByteArray) (i:Nat) (acc:List UInt8):∀(d n:Nat),s.size - i≤n→zjO s (n+d) i acc=zjO s n i acc
 |0,_,_=>rfl
 |d+1,n,h=>by rw[←Nat.add_assoc,←zi5 s (n+d) i acc (by omega)];exact zrb s i acc d n h
def plF (s:ByteArray) (i:Nat) (acc:List UInt8):List UInt8:=zjO s (s.size - i) i acc
section
variable {s:ByteArray} {i:Nat} {acc:List UInt8}
theorem zt6 {n:Nat} (h:s.size - i≤n):zjO s n i acc=plF s i acc:=by
 have:=zrb s i acc (n - (s.size - i)) (s.size - i) (Nat.le_refl _);rw[show s.size - i+(n - (s.size - i))=n from by omega] at this;exact this
theorem zfb (h:s.size≤i):plF s i acc=acc:=by
 unfold plF;rw[show s.size - i=0 from by omega]
 rfl
theorem zgU (h:i<s.size):plF s i acc=if tri s i=true then plF s (i+3) (acc++zgy (zdm s i)) else plF s (i+1) (acc++[zf6 s i]):=by
 have e:s.size - i=(s.size - i - 1)+1:=by omega
 conv=>lhs;unfold plF;rw[e];unfold zjO
 rw[if_pos h,zt6 (by omega),zt6 (by omega)]
theorem zrx (h:tri s i=true):plF s i acc=plF s (i+3) (acc++zgy (zdm s i)):=by
 have:=(zbB.1 h).1;rw[zgU (by omega),if_pos h]
theorem zpX (hi:i<s.size) (h:tri s i=false):plF s i acc=plF s (i+1) (acc++[zf6 s i]):=by
 rw[zgU hi,if_neg (by rw[h];simp)]
end
theorem ziq (s:ByteArray):∀(n i:Nat) (acc:List UInt8),s.size - i≤n→plF s i acc=acc++plF s i []
 |0,i,acc,h=>by rw[zfb (by omega),zfb (by omega),List.append_nil]
 |n+1,i,acc,h=>by
  by_cases hlt:i<s.size
  ·rw[zgU hlt,zgU hlt]
   split
   ·rw[ziq s n (i+3) _ (by omega),ziq s n (i+3) ([]++_) (by omega)]
    simp
   ·rw[ziq s n (i+1) _ (by omega),ziq s n (i+1) ([]++_) (by omega)]
    simp
  ·rw[zfb (by omega),zfb (by omega),List.append_nil]
theorem znE (s:ByteArray):∀(n i:Nat) (acc:List UInt8),s.size - i≤n→i≤s.size→(plF s i acc).length≤acc.length+(s.size - i)
 |0,i,acc,h,hi=>by rw[zfb (by omega)];omega
 |n+1,i,acc,h,hi=>by
  by_cases hlt:i<s.size
  ·rw[zgU hlt]
   split
   ·rename_i ht
    have h3:=(zbB.1 ht).1;have:=znE s n (i+3) (acc++zgy (zdm s i)) (by omega) (by omega);have h2:=(zim (zdm s i)).2;rw[List.length_append] at this
    omega
   ·have:=znE s n (i+1) (acc++[zf6 s i]) (by omega) (by omega)
    rw[List.length_append] at this;simp at this
    omega
  ·rw[zfb (by omega)];omega
def zaF (s:ByteArray):ByteArray:=⟨(plF s 0 []).toArray⟩
theorem zju (s:ByteArray):(zaF s).size≤s.size:=by
 have:=znE s s.size 0 [] (by omega) (by omega);rw[←size_eq]
 simpa [zaF] using this
def zoW:ByteArray:=⟨#[46]⟩
def zmm:ByteArray:=⟨#[46,46]⟩
def zcN (x:ByteArray):Bool:=decide (x=zoW)||decide (x=zmm)
def zbm (kept:List ByteArray) (x:ByteArray):List ByteArray:=if x=zmm then kept.dropLast else if x=zoW then kept else kept++[x]
def zaz (kept:List ByteArray) (l:List ByteArray):List ByteArray:=l.foldl zbm kept
def zcG (d:Bool) (l:List ByteArray):Bool:=match l.getLast? with
 |none=>d
 |some x=>zcN x
def zcS (l:List ByteArray):List ByteArray:=if zcG false l=true then zaz [] l++[⟨#[]⟩] else zaz [] l
theorem zgc (kept l:List ByteArray) (x:ByteArray):zaz kept (l++[x])=zbm (zaz kept l) x:=by simp[zaz]
theorem zft (d:Bool) (l:List ByteArray) (x:ByteArray):zcG d (l++[x])=zcN x:=by simp[zcG]
theorem zn1 {l:List ByteArray} (h:l≠[]):zcS l≠[]:=by
 have e:=List.dropLast_concat_getLast h;generalize l.getLast h=x at e;generalize l.dropLast=m at e;subst e;unfold zcS;rw[zft,zgc]
 cases hd:zcN x
 ·rw[if_neg (by simp)]
  simp only[zcN,Bool.or_eq_false_iff,decide_eq_false_iff_not] at hd;unfold zbm;rw[if_neg hd.2,if_neg hd.1];simp
 ·rw[if_pos rfl];simp
theorem zoM (kept:List ByteArray) (x:ByteArray):zcX (zbm kept x)≤zcX kept+x.size∧(zbm kept x).length≤kept.length+1:=by
 have hd:zcX kept.dropLast≤zcX kept:=by
  by_cases h:kept=[]
  ·rw[h];simp[zcX]
  ·have e:=List.dropLast_concat_getLast h
   have:zcX kept=zcX kept.dropLast+zcX [kept.getLast h]:=by rw[←ze4,e]
   omega
 unfold zbm
 split
 ·simp;omega
 ·split
  ·omega
  ·rw[ze4];simp[zcX]
theorem zeZ (l:List ByteArray):∀kept:List ByteArray,zcX (zaz kept l)≤zcX kept+zcX l∧(zaz kept l).length≤kept.length+l.length:=by
 induction l with
 |nil=>intro kept;simp[zaz,zcX]
 |cons x l ih=>
  intro kept;have h1:=zoM kept x;have h2:=ih (zbm kept x);have e:zaz kept (x::l)=zaz (zbm kept x) l:=rfl;rw[e,zgY,List.length_cons]
  omega
theorem zlX (l:List ByteArray):zcX (zcS l)≤zcX l∧(zcS l).length≤l.length+1:=by
 have:=zeZ l [];unfold zcS
 split
 ·have hz:zcX [(⟨#[]⟩:ByteArray)]=0:=rfl
  have h0:zcX []=0:=rfl;rw[ze4,List.length_append,hz];simp only[List.length_nil,List.length_cons] at *
  omega
 ·have h0:zcX []=0:=rfl
  simp only[List.length_nil] at *
  omega
def zbh (l:List ByteArray):List UInt8:=l.flatMap fun x=>47::x.data.toList
def zi6 (l:List ByteArray):ByteArray:=if l=[] then ⟨#[47]⟩ else ⟨(zbh l).toArray⟩
theorem zfl:∀{l:List ByteArray},l≠[]→zbh l=47::Lib.join (l.map (·.data.toList)) [47]
 |[],h=>absurd rfl h
 |[x],_=>by simp[zbh,Lib.join,List.intercalate]
 |x::y::r,_=>by
  have ih:=zfl (l:=y::r) (by simp);have e:zbh (x::y::r)=47::x.data.toList++zbh (y::r):=rfl;rw[e,ih];simp[Lib.join,List.intercalate]
theorem zf1 (l:List ByteArray):(zbh l).length=zcX l+l.length:=by
 induction l with
 |nil=>rfl
 |cons x l ih=>
  have e:zbh (x::l)=47::x.data.toList++zbh l:=rfl;rw[e,zgY,List.length_append,ih,List.length_cons,List.length_cons,size_eq]
  omega
def zad (s:ByteArray):ByteArray:=s.extract 1 s.size
def normR (s:ByteArray):ByteArray×Int:=if isPathB s=true then (zi6 (zcS (zG (zad (zaF s)) 47)),0) else (⟨#[]⟩,53)
end Go.Proofs.YtbnafbdhomdcoaaGreatDoor.T5
namespace Go.Proofs.YtbnafbdhomdcoaaGreatDoor
structure Rq where
 method:ByteArray
 target:ByteArray
 major:Int
 minor:Int
 fields:List Fl
 body:ByteArray
 trailers:List Fl
structure Rs where
 status:Int
 reason:ByteArray
 fields:List Fl
 body:ByteArray
structure zY where
 kind:Int
 name:ByteArray
 value:ByteArray
 list:List ByteArray
 n:Int
def zwN (k:Int):Bool:=decide (k=1)||decide (k=2)||decide (k=3)||decide (k=7)
def zwL (k:Int):Bool:=decide (k=1)||decide (k=2)||decide (k=6)||decide (k=8)||decide (k=9)
def zw1 (k:Int):Bool:=decide (k=4)||decide (k=7)||decide (k=8)||decide (k=10)
def zwm (k:Int):Bool:=decide (k=5)||decide (k=8)
def zcP (m:zY):Bool:=(zwN m.kind||decide (m.name.size=0))&&((zwL m.kind||decide (m.value.size=0))&&((zw1 m.kind||decide (m.list.length=0))&&(zwm m.kind||decide (m.n=0))))
def zcw (pre:List ByteArray):List ByteArray→Bool
 |[]=>true
 |s::r=>(zbn s&&!zb5 pre s)&&zcw (pre++[s]) r
def zeb (c:Int):Bool:=decide (c<32)||decide (c=127)
def zbJ (s:ByteArray):Bool:=decide (1≤za7 s 58)&&zb3 (fun c=>!zeb c) s
def zcW (c:Int):Bool:=decide (c=32)||decide (c=9)||decide (c=44)
def zcl:ByteArray:=⟨#[42]⟩
def zai (n:Nat) (s:ByteArray):Bool:=!decide (s.size=0)&&(zcb s&&(zb3 (fun c=>!zcW c) s&&!(decide (s=zcl)&&decide (1<n))))
def zcu (s:ByteArray):Bool:=decide (T5.authR s=(s,-1,0))
def zj4 (s:ByteArray) (c:Int):Bool:=decide (0<s.size)&&decide (bt s (s.size - 1)=c)
def zaZ (s:ByteArray):Bool:=decide (T5.normR s=(s,0))&&!zj4 s 47
def zdf (s:ByteArray):Option (List ByteArray):=match zek s with
 |none=>none
 |some l=>if l.all zbn=true then some l else none
def zc3 (s:ByteArray):Bool:=match zdf s with
 |none=>false
 |some l=>decide (zaw l=s)
def zab (m:zY):Bool:=
 if m.kind=1∨m.kind=2 then zbn m.name&&zbf m.value
 else if m.kind=3 then zbn m.name
 else if m.kind=4 then zcw [] m.list&&decide (0<m.list.length)
 else if m.kind=5 then decide (0≤m.n)
 else if m.kind=6 then zaZ m.value
 else if m.kind=7 then m.list.all zbJ&&(zcb m.name&&decide (0<m.list.length))
 else if m.kind=8 then m.list.all (zai m.list.length)&&(decide (0<m.list.length)&&(decide (0≤m.n)&&zc3 m.value))
 else if m.kind=9 then !decide (m.value.size=0)&&zbf m.value
 else m.list.all zcu&&decide (0<m.list.length)
def zcz (k:Int):Bool:=decide (1≤k)&&decide (k≤10)
def zr (m:zY):Bool:=zcz m.kind&&(zcP m&&zab m)
def zT (n:Int) (l:List Fl):Rs:=⟨n,⟨#[]⟩,ctF::l,zao n⟩
def zcA:ByteArray:=⟨#[65,108,108,111,119]⟩
def zfy:ByteArray:=⟨#[65,117,116,104,111,114,105,122,97,116,105,111,110]⟩
def zbw:ByteArray:=⟨#[87,87,87,45,65,117,116,104,101,110,116,105,99,97,116,101]⟩
def zM:ByteArray:=⟨#[66,97,115,105,99,32,114,101,97,108,109,61]⟩
def zN:ByteArray:=⟨#[44,32,99,104,97,114,115,101,116,61,34,85,84,70,45,56,34]⟩
def zeg:ByteArray:=⟨#[98,97,115,105,99]⟩
def zaT:ByteArray:=⟨#[79,114,105,103,105,110]⟩
def zn5:Fl:=(⟨#[86,97,114,121]⟩,zaT)
def za0:ByteArray:=⟨#[65,99,99,101,115,115,45,67,111,110,116,114,111,108,45,65,108,108,111,119,45,79,114,105,103,105,110]⟩
def zgj:ByteArray:=⟨#[65,99,99,101,115,115,45,67,111,110,116,114,111,108,45,65,108,108,111,119,45,77,101,116,104,111,100,115]⟩
def zkJ:ByteArray:=⟨#[65,99,99,101,115,115,45,67,111,110,116,114,111,108,45,65,108,108,111,119,45,72,101,97,100,101,114,115]⟩
def zmS:ByteArray:=⟨#[65,99,99,101,115,115,45,67,111,110,116,114,111,108,45,77,97,120,45,65,103,101]⟩
def zd5:ByteArray:=⟨#[65,99,99,101,115,115,45,67,111,110,116,114,111,108,45,82,101,113,117,101,115,116,45,77,101,116,104,111,100]⟩
def zcF:ByteArray:=⟨#[65,99,99,101,115,115,45,67,111,110,116,114,111,108,45,82,101,113,117,101,115,116,45,72,101,97,100,101,114,115]⟩
def zdI:ByteArray:=⟨#[79,80,84,73,79,78,83]⟩
def zbd:ByteArray:=⟨#[67,97,99,104,101,45,67,111,110,116,114,111,108]⟩
def zwF:ByteArray:=⟨#[71,69,84]⟩
def ztP:ByteArray:=⟨#[72,69,65,68]⟩
def zeR:ByteArray:=⟨#[72,111,115,116]⟩
def zeJ:ByteArray:=⟨#[47]⟩
def zaD (l:List Fl) (name:ByteArray):Option ByteArray:=match za9 l name with
 |[v]=>some v
 |_=>none
def atP (t:T5.Tg) (s:ByteArray):Int:=if t.form=2 then 7+za7 (s.extract 7 s.size) 47 else 0
def zfE (t:T5.Tg) (v:ByteArray):ByteArray:=t.path.extract v.size t.path.size
def zc0 (v s:ByteArray):Bool:=decide (v.size≤s.size)&&decide (s.extract 0 v.size=v)
def zb9 (v m s:ByteArray):Bool:=decide ((T5.parseT m s).2.2=0)&&((decide ((T5.parseT m s).1.form=1)||decide ((T5.parseT m s).1.form=2))&&(zc0 v (T5.parseT m s).1.path&&(decide ((zfE (T5.parseT m s).1 v).size=0)||decide (bt (zfE (T5.parseT m s).1 v) 0=47))))
def zdX (v m s:ByteArray):ByteArray:=
 s.extract 0 (atP (T5.parseT m s).1 s).toNat++(if (zfE (T5.parseT m s).1 v).size=0 then zeJ else zfE (T5.parseT m s).1 v)++s.extract ((atP (T5.parseT m s).1 s).toNat+(T5.parseT m s).1.path.size) s.size
def zjj (s:ByteArray):Option ByteArray:=
 if 5<s.size∧zbu (s.extract 0 5) zeg=true∧bt s 5=32 then (b64 (Lib.trimLeftS (s.extract 5 s.size).data.toList [32])).map fun l=>⟨l.toArray⟩ else none
def zie (m:zY) (r:Rq):Bool:=match zaD r.fields zfy with
 |none=>false
 |some s=>match zjj s with
  |none=>false
  |some t=>zb5 m.list t
def zcM (s:ByteArray):ByteArray:=⟨(34::(s.data.toList.flatMap fun c=>if c=34∨c=92 then [92,c] else [c])++[34]).toArray⟩
def zaW (m:zY):Bool:=decide (m.list.head?=some zcl)
def zb2 (m:zY):List Fl:=if zaW m=true then [] else [zn5]
def zcq (m:zY) (r:Rq):Option ByteArray:=match zaD r.fields zaT with
 |none=>none
 |some s=>if zaW m=true then some zcl else if zb5 m.list s=true then some s else none
def zcV (m:zY) (r:Rq):Option (ByteArray×ByteArray):=match zcq m r with
 |none=>none
 |some o=>match zaD r.fields zd5 with
  |none=>none
  |some wanted=>if r.method=zdI then some (o,if m.value.size=0 then wanted else m.value) else none
def zeB (m:zY) (r:Rq) (x:ByteArray×ByteArray):Rs:=
 ⟨204,⟨#[]⟩,[(za0,x.1),(zgj,x.2)]++(if 0<(za9 r.fields zcF).length then [(zkJ,zaw (za9 r.fields zcF))] else [])++[(zmS,za3 m.n)]++zb2 m,⟨#[]⟩⟩
def zc9 (r:Rq):Option ByteArray:=
 if (T5.parseT r.method r.target).2.2=0∧(T5.parseT r.method r.target).1.form=2 then some (T5.parseT r.method r.target).1.host
 else match zaD r.fields zeR with
  |none=>none
  |some s=>if (T5.authR s).2.2=0 then some (T5.authR s).1 else none
def zej (m:zY) (r:Rq):Bool:=match zc9 r with
 |none=>false
 |some h=>zb5 m.list h
def zx (m:zY) (r:Rq):Rq⊕Rs:=
 if m.kind=4 then (if zb5 m.list r.method=true then .inl r else .inr (zT 405 [(zcA,zaw m.list)]))
 else if m.kind=5 then (if m.n<r.body.size then .inr (zT 413 []) else .inl r)
 else if m.kind=6 then (if zb9 m.value r.method r.target=true then .inl {r with target:=zdX m.value r.method r.target} else .inr (zT 404 []))
 else if m.kind=7 then (if zie m r=true then .inl r else .inr (zT 401 [(zbw,zM++zcM m.name++zN)]))
 else if m.kind=8 then (match zcV m r with|none=>.inl r|some x=>.inr (zeB m r x))
 else if m.kind=10 then (if zej m r=true then .inl r else .inr (zT 421 []))
 else .inl r
def zcn (r:Rq) (x:Rs):Bool:=decide (za9 x.fields zbd=[])&&((decide (x.status=200)||decide (x.status=304))&&(decide (r.method=zwF)||decide (r.method=ztP)))
def zB (m:zY) (r:Rq) (x:Rs):Rs:=
 if m.kind=1 then {x with fields:=x.fields++[(m.name,m.value)]}
 else if m.kind=2 then {x with fields:=zF x.fields m.name++[(m.name,m.value)]}
 else if m.kind=3 then {x with fields:=zF x.fields m.name}
 else if m.kind=8 then {x with fields:=x.fields++(match zcq m r with|none=>[]|some o=>[(za0,o)])++zb2 m}
 else if m.kind=9 then (if zcn r x=true then {x with fields:=x.fields++[(zbd,m.value)]} else x)
 else x
end Go.Proofs.YtbnafbdhomdcoaaGreatDoor
namespace Go.Proofs.YtbnafbdhomdcoaaGreatDoor
open Go.RowKit Go.Shelf Go.Lib
structure zb (D:Nat→Prop) (w w':World):Prop where
 os:w'.os=w.os
 tape:w'.tape=w.tape
 output:w'.output=w.output
 size:w.heap.size≤w'.heap.size
 block:∀k,k<w.heap.size→¬D k→w'.heap[k]?=w.heap[k]?
section
variable {D:Nat→Prop} {w w' w2:World}
theorem zb.refl (D:Nat→Prop) (w:World):zb D w w:=⟨rfl,rfl,rfl,Nat.le_refl _,fun _ _ _=>rfl⟩
theorem zb.trans (h:zb D w w') (h2:zb D w' w2):zb D w w2:=
 ⟨h2.os.trans h.os,h2.tape.trans h.tape,h2.output.trans h.output,Nat.le_trans h.size h2.size,fun k hk hn=>(h2.block k (Nat.lt_of_lt_of_le hk h.size) hn).trans (h.block k hk hn)⟩
theorem zb.of (hb:Below w.heap.size w w'):zb D w w':=⟨hb.os,hb.tape,hb.output,hb.size,fun k hk _=>hb.block k hk⟩
theorem zb.step (h:zb D w w') (hb:Below w'.heap.size w' w2):zb D w w2:=h.trans (zb.of hb)
theorem zb.ahead (hb:Below w.heap.size w w') (h:zb D w' w2):zb D w w2:=(zb.of hb).trans h
theorem zb.drew (h:zb D w w'):zb D w w'.drew:=⟨h.os,h.tape,h.output,h.size,h.block⟩
theorem zb.drewN (h:zb D w w') (n:Nat):zb D w (w'.drewN n):=⟨h.os,h.tape,h.output,h.size,h.block⟩
theorem zb.alloc (h:zb D w w') (o:Obj):zb D w (w'.alloc o):=h.step ((Below.refl _ w').alloc (Nat.le_refl _) o)
theorem zb.setCell (h:zb D w w') {p:Addr} (hp:w.heap.size≤p.block) (v:Value):zb D w (w'.setCell p v):=by
 have hb:=(Below.refl w.heap.size w').setCell hp v;exact ⟨hb.os.trans h.os,hb.tape.trans h.tape,hb.output.trans h.output,Nat.le_trans h.size hb.size,fun k hk hn=>(hb.block k hk).trans (h.block k hk hn)⟩
theorem zb.cell (h:zb D w w') {p:Addr} (hp:p.block<w.heap.size) (hn:¬D p.block):w'.cell? p=w.cell? p:=World.cell?_of_block (h.block p.block hp hn)
theorem zb.frozen (h:zb D w w') {p:Addr} (hp:p.block<w.heap.size) (hn:¬D p.block):w'.frozen? p=w.frozen? p:=World.frozen?_of_block (h.block p.block hp hn)
theorem zb.below (h:zb (fun _=>False) w w'):Below w.heap.size w w':=⟨h.os,h.tape,h.output,h.size,fun k hk=>h.block k hk (fun h=>h)⟩
end
def zQ (D:Nat→Prop) (w:World) (A:Option Addr) (xs:List Value):Prop:=0<xs.length→∃b off,A=some ⟨b,off,none⟩∧b<w.heap.size∧¬D b∧∀j v,xs[j]?=some v→w.cell? ⟨b,off+j,none⟩=some v
section
variable {D:Nat→Prop} {w w':World} {A:Option Addr} {xs:List Value}
theorem zQ.row (h:zQ D w A xs):Row w A xs:=fun hl=>by
 obtain ⟨b,off,e,hb,_,hc⟩:=h hl;exact ⟨b,off,e,hb,hc⟩
theorem zQ.keep (h:zQ D w A xs) (hk:zb D w w'):zQ D w' A xs:=fun hl=>by
 obtain ⟨b,off,e,hb,hd,hc⟩:=h hl;exact ⟨b,off,e,Nat.lt_of_lt_of_le hb hk.size,hd,fun j v hv=>(hk.cell (p:=⟨b,off+j,none⟩) hb hd).trans (hc j v hv)⟩
theorem zQ.below (h:zQ D w A xs) (hb:Below w.heap.size w w'):zQ D w' A xs:=h.keep (zb.of hb)
theorem zQ.of_own {base:Nat} {E:TypeId} {sz n c m:Nat} (h:w.ownsRow base E sz (.slice A n c) m xs) (hx:w.ownsRow base E sz (.slice A n c) n xs) (hD:∀k,D k→k<base):zQ D w A xs:=fun hl=>by
 obtain ⟨b,off,e,hb,hc⟩:=zak hx hl;refine ⟨b,off,e,hb,fun hd=>?_,hc⟩;have h1:=(h.lt b (by rw[e];rfl)).1;have h2:=hD b hd
 omega
theorem zQ.of_row (h:Row w A xs):zQ (fun _=>False) w A xs:=fun hl=>by
 obtain ⟨b,off,e,hb,hc⟩:=h hl;exact ⟨b,off,e,hb,fun h=>h,hc⟩
end
theorem zP {D:Nat→Prop} {w w':World} {base:Nat} {E:TypeId} {sz n:Nat} {v:Value} {xs:List Value} (h:w.ownsRow base E sz v n xs) (hk:zb D w w') (hD:∀k,D k→k<base):w'.ownsRow base E sz v n xs:=by
 obtain ⟨h1,h2⟩:=h;refine ⟨h1,?_⟩
 rcases h2 with h2|⟨g,cap,cur,hv,hg,hh,r⟩
 ·exact Or.inl h2
 ·refine Or.inr ⟨g,cap,cur,hv,hg,?_,r⟩
  rw[hk.block g (Array.getElem?_eq_some_iff.1 hh).1 (fun hd=>by have:=hD g hd;omega)];exact hh
def Btw (w w1:World) (k:Nat):Prop:=w.heap.size≤k∧k<w1.heap.size
def Out (D:Nat→Prop) (n0:Nat) (w:World) (k:Nat):Prop:=D k∨(n0≤k∧k<w.heap.size)
section
variable {D E:Nat→Prop} {w w' w1 w2 w3:World}
theorem zb.wider (h:zb D w w') (hE:∀k,k<w.heap.size→D k→E k):zb E w w':=⟨h.os,h.tape,h.output,h.size,fun k hk hn=>h.block k hk (fun hd=>hn (hE k hk hd))⟩
theorem zb.btw' (h1:Below w.heap.size w w1) (h2:Below w1.heap.size w1 w2) (hi:zb (Btw w1 w2) w3 w') {w4:World} (ho:zb (Btw w w1) w' w4):zb (Btw w w2) w3 w4:=
 (hi.wider (fun _ _ hd=>⟨Nat.le_trans h1.size hd.1,hd.2⟩)).trans (ho.wider (fun _ _ hd=>⟨hd.1,Nat.lt_of_lt_of_le hd.2 h2.size⟩))
theorem zQ.narrow {A:Option Addr} {xs:List Value} (h:zQ D w A xs) (hE:∀k,E k→D k):zQ E w A xs:=fun hl=>by
 obtain ⟨b,off,e,hb,hd,hc⟩:=h hl;exact ⟨b,off,e,hb,fun he=>hd (hE b he),hc⟩
theorem zQ.back {A:Option Addr} {xs:List Value} {n0:Nat} (h:zQ (Out D n0 w1) w2 A xs) (hn:n0≤w.heap.size) (hs:w.heap.size≤w1.heap.size) (hk:zb (Btw w w1) w2 w'):zQ (Out D n0 w) w' A xs:=
 ((h.narrow (E:=fun k=>Out D n0 w k∨Btw w w1 k) (fun k hk=>by
  rcases hk with (hd|⟨h1,h2⟩)|⟨h1,h2⟩
  ·exact .inl hd
  ·exact .inr ⟨h1,Nat.lt_of_lt_of_le h2 hs⟩
  ·exact .inr ⟨Nat.le_trans hn h1,h2⟩)).keep (hk.wider (fun k _ hd=>.inr hd))).narrow (fun k hk=>.inl hk)
theorem zQ.of_new {base n0:Nat} {T:TypeId} {sz n c:Nat} {A:Option Addr} {xs:List Value} (h:w'.ownsRow base T sz (.slice A n c) n xs) (hl:∀k,D k→k<w.heap.size) (hb:w.heap.size≤base):zQ (Out D n0 w) w' A xs:=
 zQ.of_own h h (fun k hk=>by
  rcases hk with hd|⟨_,h2⟩
  ·exact Nat.lt_of_lt_of_le (hl k hd) hb
  ·exact Nat.lt_of_lt_of_le h2 hb)
end
def rqV (r:Rq) (A:Option Addr) (c:Nat) (B:Option Addr) (d:Nat):Value:=.agg #[.string r.method,.string r.target,.int .i64 r.major,.int .i64 r.minor,.slice A r.fields.length c,.string r.body,.slice B r.trailers.length d]
def rsV (x:Rs) (A:Option Addr) (c:Nat):Value:=.agg #[.int .i64 x.status,.string x.reason,.slice A x.fields.length c,.string x.body]
def zL (m:zY) (A:Option Addr) (c:Nat):Value:=.agg #[.int .i64 m.kind,.string m.name,.string m.value,.slice A m.list.length c,.int .i64 m.n]
structure zcO (r:Rq):Prop where
 method:r.method.size≤1048576
 target:r.target.size≤1048576
 fields:zbT r.fields≤1048576
 body:r.body.size≤maxLen
structure zaY (m:zY):Prop where
 name:m.name.size≤1048576
 value:m.value.size≤1048576
 list:(m.list.map fun s=>s.size+1).sum≤1048576
 k0:-9223372036854775808≤m.kind
 k1:m.kind≤9223372036854775807
 n0:-9223372036854775808≤m.n
 n1:m.n≤9223372036854775807
structure zbH (N:Nat) (x:Rs):Prop where
 many:x.fields.length≤N
 wide:zd6 x.fields
theorem zbH.more {N M:Nat} {x:Rs} (h:zbH N x) (hm:N≤M):zbH M x:=⟨Nat.le_trans h.many hm,h.wide⟩
abbrev Ans:=Rq→World→Rs→Option Addr→Nat→World→Prop
def zcB (D:Nat→Prop) (n0 N:Nat) (T:World→Rs→Option Addr→Nat→World→Prop) (w:World) (e:Ending) (w':World):Prop:=
 ∃(x:Rs) (A:Option Addr) (c:Nat),e= .returned (rsV x A c)∧zQ (Out D n0 w) w' A (zj x.fields)∧zbH N x∧T w x A c w'∧zb D w w'
structure Env (D:Nat→Prop) (Pre:World→Prop) (w0:World):Prop where
 low:∀k,D k→k<w0.heap.size
 glob:∀W,zb D w0 W→zdF W
 stays:∀W W',zb D w0 W→Pre W→Below W.heap.size W W'→Pre W'
theorem Env.later {D:Nat→Prop} {Pre:World→Prop} {w0 w1:World} (h:Env D Pre w0) (hk:zb D w0 w1):Env D Pre w1:=
 ⟨fun k hd=>Nat.lt_of_lt_of_le (h.low k hd) hk.size,fun W hW=>h.glob W (hk.trans hW),fun W W' hW=>h.stays W W' (hk.trans hW)⟩
def Nx (D:Nat→Prop) (Pre:World→Prop) (n0 N:Nat) (w0:World) (f:Value) (T:Ans):Prop:=
 ∃(g:FuncId) (lb:Array Value),f= .func (.func g) #[] lb∧(∀args w,(callFunc g args).run Tryz.prog w= .ok (.enter g args) w)∧
  ∀(W:World) (r:Rq) (FA:Option Addr) (fc:Nat) (TA:Option Addr) (tc:Nat),zb D w0 W→Pre W→zQ D W FA (zj r.fields)→zQ D W TA (zj r.trailers)→zcO r→
   Calls Tryz.prog g (#[rqV r FA fc TA tc]++lb) W (zcB D n0 N (T r) W)
theorem Nx.later {D:Nat→Prop} {Pre:World→Prop} {n0 N:Nat} {w0 w1:World} {f:Value} {T:Ans} (h:Nx D Pre n0 N w0 f T) (hk:zb D w0 w1):Nx D Pre n0 N w1 f T:=by
 obtain ⟨g,lb,e,he,hc⟩:=h;exact ⟨g,lb,e,he,fun W r FA fc TA tc hW=>hc W r FA fc TA tc (hk.trans hW)⟩
def ziZ (w w':World) (x:Rs) (A:Option Addr) (c:Nat):Prop:=w'.ownsRow w.heap.size 59 2 (.slice A x.fields.length c) x.fields.length (zj x.fields)
theorem ziZ.less {w w1 w':World} {x:Rs} {A:Option Addr} {c:Nat} (h:ziZ w1 w' x A c) (hb:w.heap.size≤w1.heap.size):ziZ w w' x A c:=zn h hb
def doT (m:zY) (T:Ans):Ans:=fun r w x A c w'=>match zx m r with
 | .inr o=>x=o∧ziZ w w' x A c∧Below w.heap.size w w'
 | .inl q=>∃w1 y A1 c1 w2,Below w.heap.size w w1∧T q w1 y A1 c1 w2∧x=zB m r y∧zb (Btw w w1) w2 w'∧(ziZ w w' x A c∨(x=y∧A=A1∧c=c1))
theorem ziZ.keep {D:Nat→Prop} {w w' w2:World} {x:Rs} {A:Option Addr} {c:Nat} (h:ziZ w w' x A c) (hk:zb D w' w2) (hD:∀k,D k→k<w.heap.size):ziZ w w2 x A c:=zP h hk hD
theorem ztH {m:zY} {T:Ans} {r:Rq} {w w1 w2 w3:World} {x:Rs} {A:Option Addr} {c:Nat} (hb:Below w.heap.size w w1) (h:doT m T r w1 x A c w2) (hb2:zb (Btw w w1) w2 w3):doT m T r w x A c w3:=by
 unfold doT at *
 cases ha:zx m r with
 |inr o=>
  rw[ha] at h;obtain ⟨h1,h2,h3⟩:=h;refine ⟨h1,(h2.keep hb2 (fun k hk=>hk.2)).less hb.size,?_⟩;have h4:=hb2;refine ⟨hb2.os.trans (h3.os.trans hb.os),hb2.tape.trans (h3.tape.trans hb.tape),hb2.output.trans (h3.output.trans hb.output),Nat.le_trans hb.size (Nat.le_trans h3.size hb2.size),fun k hk=>?_⟩;rw[hb2.block k (Nat.lt_of_lt_of_le hk (Nat.le_trans hb.size h3.size)) (fun hd=>by have:=hd.1;omega),h3.block k (Nat.lt_of_lt_of_le hk hb.size),hb.block k hk]
 |inl q=>
  rw[ha] at h;obtain ⟨v1,y,A1,c1,v2,g1,g2,g3,g4,g5⟩:=h;refine ⟨v1,y,A1,c1,v2,hb.trans (g1.mono hb.size),g2,g3,zb.btw' hb g1 g4 hb2,?_⟩
  rcases g5 with h|h
  ·exact .inl ((h.keep hb2 (fun k hk=>hk.2)).less hb.size)
  ·exact .inr h
def zh2:List zY→Ans→Ans
 |[],T=>T
 |m::l,T=>if zr m=true then doT m (zh2 l T) else zh2 l T
def zg6 (T:Ans):Ans:=fun r w x A c w'=>∃w1 w2,Below w.heap.size w w1∧T r w1 x A c w2∧zb (Btw w w1) w2 w'
def zjN (m:zY) (g:FuncId):Prop:=
 (∀args w,(callFunc g args).run Tryz.prog w= .ok (.enter g args) w)∧
 ∀(D:Nat→Prop) (Pre:World→Prop) (n0 N:Nat) (T:Ans) (f:Value) (w:World) (r:Rq) (A:Option Addr) (c:Nat) (FA:Option Addr) (fc:Nat) (TA:Option Addr) (tc:Nat),
  Env D Pre w→Pre w→Nx D Pre n0 N w f T→n0≤w.heap.size→8≤N→N≤1099511627776→zQ D w A (m.list.map .string)→m.list.length≤c→zQ D w FA (zj r.fields)→zQ D w TA (zj r.trailers)→zaY m→zcO r→
   Calls Tryz.prog g #[zL m A c,rqV r FA fc TA tc,f] w (zcB D n0 (N+2) (doT m T r) w)
end Go.Proofs.YtbnafbdhomdcoaaGreatDoor
namespace Go.Proofs.YtbnafbdhomdcoaaGreatDoor
open T5
theorem zd2 {t:Tg} {s:ByteArray} {i:Nat} (h:(zaK t s i).2.2=0):(zaK t s i).1.form=t.form∧(zaK t s i).1.path=(if (s.extract i (zb0 s i)).size=0 then zgv else s.extract i (zb0 s i)):=by
 unfold zaK at *
 split at h
 ·rename_i h1
  rw[if_pos h1];exact ⟨rfl,rfl⟩
 ·rename_i h1
  rw[if_neg h1]
  split at h
  ·rename_i h2
   rw[if_pos h2]
   split at h
   ·exact absurd h (zi1 _ _ (by omega))
   ·rename_i h3
    rw[if_neg h3];exact ⟨rfl,rfl⟩
  ·exact absurd h (zi1 _ _ (by omega))
theorem zsL {m s:ByteArray} (h:(parseT m s).2.2=0) (hf:(parseT m s).1.form=1∨(parseT m s).1.form=2):∃i,i≤s.size∧(parseT m s).1.path=(if (s.extract i (zb0 s i)).size=0 then zgv else s.extract i (zb0 s i))∧(((parseT m s).1.form=1∧i=0)∨((parseT m s).1.form=2∧7≤s.size∧i=endA s 7)):=by
 unfold parseT at *
 by_cases h0:s.size=0
 ·rw[if_pos h0] at h;cases h
 ·rw[if_neg h0] at h hf ⊢
  by_cases hm:m=zbv
  ·rw[if_pos hm] at h hf
   unfold zjs at h hf
   split at h
   ·rename_i h1
    rw[if_pos h1] at hf
    rcases hf with hf|hf<;>cases hf
   ·cases h
  ·rw[if_neg hm] at h hf ⊢
   by_cases h47:bt s 0=47
   ·rw[if_pos h47] at h hf ⊢
    obtain ⟨g1,g2⟩:=zd2 h;exact ⟨0,Nat.zero_le _,g2,.inl ⟨g1,rfl⟩⟩
   ·rw[if_neg h47] at h hf ⊢
    by_cases hs:s=zcE∧m=zgi
    ·rw[if_pos hs] at hf
     rcases hf with hf|hf<;>cases hf
    ·rw[if_neg hs] at h hf ⊢
     by_cases h7:s.size<7∨zaP (s.extract 0 7)≠zdd
     ·rw[if_pos h7] at h;cases h
     ·rw[if_neg h7] at h hf ⊢
      unfold zjH at *
      split at h
      ·rename_i h1
       rw[if_pos h1];obtain ⟨g1,g2⟩:=zd2 h;have h8:7≤s.size:=by
        rcases Nat.lt_or_ge s.size 7 with g|g
        ·exact absurd (.inl g) h7
        ·exact g
       exact ⟨endA s 7,(endA_spec h8).2.1,g2,.inr ⟨g1,h8,rfl⟩⟩
      ·cases h
theorem zeu {v:ByteArray} (h:zaZ v=true):2≤v.size∧bt v 0=47∧¬bt v (v.size - 1)=47:=by
 unfold zaZ at h;rw[Bool.and_eq_true,decide_eq_true_eq,Bool.not_eq_true'] at h;obtain ⟨h1,h2⟩:=h;have hp:isPathB v=true:=by
  cases hp:isPathB v
  ·unfold normR at h1;rw[hp] at h1;cases h1
  ·rfl
 have hp2:0<v.size∧bt v 0=47:=by
  unfold isPathB at hp;simp only[Bool.and_eq_true,decide_eq_true_eq] at hp;exact ⟨hp.1,hp.2.1⟩
 have ht:¬bt v (v.size - 1)=47:=by
  unfold zj4 at h2;intro h3;rw[decide_eq_true hp2.1,decide_eq_true h3] at h2
  cases h2
 refine ⟨?_,hp2.2,ht⟩
 rcases Nat.lt_or_ge v.size 2 with g|g
 ·have:v.size - 1=0:=by omega
  rw[this] at ht;exact absurd hp2.2 ht
 ·exact g
theorem zg8 {v s:ByteArray}:zc0 v s=true↔v.size≤s.size∧s.extract 0 v.size=v:=by simp[zc0]
theorem zgQ {v m s:ByteArray} (hv:zaZ v=true) (h:zb9 v m s=true):∃i:Nat,atP (parseT m s).1 s=(i:Int)∧i+(parseT m s).1.path.size≤s.size∧v.size≤(parseT m s).1.path.size∧i+(parseT m s).1.path.size=zb0 s i∧(parseT m s).1.path=s.extract i (i+(parseT m s).1.path.size)∧(((parseT m s).1.form=1∧i=0)∨((parseT m s).1.form=2∧7≤s.size∧i=endA s 7)):=by
 obtain ⟨v2,v0,_⟩:=zeu hv;unfold zb9 at h;simp only[Bool.and_eq_true,Bool.or_eq_true,decide_eq_true_eq] at h;obtain ⟨h1,hf,hp,_⟩:=h;obtain ⟨i,hi,hpath,hw⟩:=zsL h1 hf;rw[zg8] at hp;obtain ⟨p1,p2⟩:=hp;have hz:¬(s.extract i (zb0 s i)).size=0:=by
  intro h0;rw[if_pos h0] at hpath;rw[hpath] at p1;have:zgv.size=1:=rfl
  omega
 rw[if_neg hz] at hpath;obtain ⟨e1,e2⟩:=zhG hi;have hsz:(parseT m s).1.path.size=zb0 s i - i:=by rw[hpath,zk s e1 e2]
 have hsum:i+(parseT m s).1.path.size=zb0 s i:=by omega
 have hb0:bt (parseT m s).1.path 0=47:=by
  rw[←v0]
  conv=>rhs;rw[←p2]
  rw[zbe _ (by omega),Nat.zero_add]
 refine ⟨i,?_,by omega,p1,hsum,by rw[hsum];exact hpath,hw⟩;unfold atP
 rcases hw with ⟨hw,rfl⟩|⟨hw,h7,hie⟩
 ·rw[hw,if_neg (by omega)];rfl
 ·rw[hw,if_pos rfl]
  obtain ⟨a1,a2,a3,a4⟩:=endA_spec (s:=s) (i:=7) h7;have hlt:i<s.size:=by omega
  have hbi:bt s i=47:=by
   rw[←hb0,hpath,zbe s (by omega),Nat.add_zero]
  have hs7:(s.extract 7 s.size).size=s.size - 7:=zk s h7 (Nat.le_refl _);rw[zj9 (k:=i - 7) (fun j _ hj=>by
   show (!decide (bt (s.extract 7 s.size) j=47))=true;rw[zbe s (by omega)];have:=(a3 (7+j) (by omega) (by omega)).1
   simpa using this) (by omega) (by rw[zbe s (by omega),show 7+(i - 7)=i by omega];exact hbi)]
  omega
theorem zhH {v m s:ByteArray} (hv:zaZ v=true) (h:zb9 v m s=true):(zdX v m s).size≤s.size:=by
 obtain ⟨i,h1,h2,h3,_,_,_⟩:=zgQ hv h;obtain ⟨v2,_,_⟩:=zeu hv;unfold zdX;rw[h1,Int.toNat_natCast,ByteArray.size_append,ByteArray.size_append,zk s (Nat.zero_le _) (by omega),zk s h2 (Nat.le_refl _)];have hr:(zfE (parseT m s).1 v).size=(parseT m s).1.path.size - v.size:=by
  unfold zfE;rw[zk _ h3 (Nat.le_refl _)]
 split
 ·have:zeJ.size=1:=rfl
  omega
 ·omega
end Go.Proofs.YtbnafbdhomdcoaaGreatDoor
namespace Go.Proofs.YtbnafbdhomdcoaaGreatDoor
open Go.RowKit Go.Shelf Go.Lib
theorem zll:∀l:List ByteArray,Lib.lens (l.map (·.data.toList))=(l.map (·.size)).sum
 |[]=>rfl
 |x::l=>by
  have:=zll l;simp only[List.map_cons,Lib.lens,List.sum_cons] at this ⊢;rw[←this]
  rfl
theorem zhX (l:List ByteArray):(zaw l).size≤(l.map (·.size)).sum+l.length*2:=by
 cases l with
 |nil=>exact Nat.zero_le _
 |cons x l=>
  have h:(zaw (x::l)).size=(Lib.join ((x::l).map (·.data.toList)) [44,32]).length:=rfl;have h2:=zll (x::l);rw[List.map_cons] at h2;rw[h,List.map_cons,Lib.join_length,h2];simp only[List.length_map,List.length_cons,List.length_nil]
  omega
theorem zsw {l:List Fl} {name v:ByteArray} (h:zbT l≤1048576) (hv:v∈za9 l name):v.size≤1048576:=by
 have h1:=ziv l name;have h2:v.size≤((za9 l name).map (·.size)).sum:=by
  clear h h1;generalize za9 l name=z at *
  induction z with
  |nil=>cases hv
  |cons x z ih=>
   rw[List.map_cons,List.sum_cons]
   rcases List.mem_cons.1 hv with rfl|hv
   ·omega
   ·have:=ih hv;omega
 omega
theorem zdS {l:List Fl} {name v:ByteArray} (h:zbT l≤1048576) (hv:zaD l name=some v):v.size≤1048576:=by
 unfold zaD at hv
 split at hv
 ·rename_i x hx
  cases hv
  exact zsw h (by rw[hx];exact List.mem_singleton.2 rfl)
 ·cases hv
theorem zcD {l:List ByteArray} (h:(l.map fun s=>s.size+1).sum≤1048576):(l.map (·.size)).sum≤1048576∧l.length≤1048576∧(l.map (·.size)).sum+l.length=(l.map fun s=>s.size+1).sum:=by
 have e:(l.map (·.size)).sum+l.length=(l.map fun s=>s.size+1).sum:=by
  clear h
  induction l with
  |nil=>rfl
  |cons x l ih=>simp only[List.map_cons,List.sum_cons,List.length_cons] at ih ⊢;omega
 exact ⟨by omega,by omega,e⟩
theorem zhh {l:List ByteArray} (h:(l.map fun s=>s.size+1).sum≤1048576) {s:ByteArray} (hs:s∈l):s.size≤1048576:=by
 have h1:=(zcD h).1;clear h;have:s.size≤(l.map (·.size)).sum:=by
  clear h1
  induction l with
  |nil=>cases hs
  |cons x l ih=>
   rw[List.map_cons,List.sum_cons]
   rcases List.mem_cons.1 hs with rfl|hs
   ·omega
   ·have:=ih hs;omega
 omega
theorem zgC (s:ByteArray):(zcM s).size≤2*s.size+2:=by
 have h:∀l:List UInt8,(l.flatMap fun c=>if c=34∨c=92 then [92,c] else [c]).length≤2*l.length:=by
  intro l
  induction l with
  |nil=>exact Nat.le_refl _
  |cons c l ih=>
   rw[List.flatMap_cons,List.length_append,List.length_cons]
   split<;>simp only[List.length_cons,List.length_nil]<;>omega
 have e:(zcM s).size=(34::(s.data.toList.flatMap fun c=>if c=34∨c=92 then [92,c] else [c])++[34]).length:=rfl;have h2:=h s.data.toList;have h3:s.data.toList.length=s.size:=rfl;rw[e,List.length_append,List.length_cons,List.length_cons,List.length_nil]
 omega
theorem zah {p:Fl} {l:List Fl} (h1:p.1.size≤maxLen) (h2:p.2.size≤maxLen) (hl:zd6 l):zd6 (p::l):=fun q hq=>by
 rcases List.mem_cons.1 hq with rfl|hq
 ·exact ⟨h1,h2⟩
 ·exact hl q hq
theorem zR:zd6 []:=fun q hq=>by cases hq
theorem zan {l m:List Fl} (h1:zd6 l) (h2:zd6 m):zd6 (l++m):=fun q hq=>(List.mem_append.1 hq).elim (h1 q) (h2 q)
theorem zgA {l:List Fl} (h:zd6 l) (name:ByteArray):zd6 (zF l name):=fun q hq=>h q (List.mem_filter.1 hq).1
theorem zou:ctF.1.size≤maxLen∧ctF.2.size≤maxLen:=by unfold maxLen;decide +kernel
theorem zaJ (n:Int) {l:List Fl} (hl:zd6 l) (hn:l.length≤7):zbH 8 (zT n l):=⟨by show (ctF::l).length≤8;simp;omega,zah zou.1 zou.2 hl⟩
theorem zgh:za0.size≤maxLen:=by unfold maxLen;decide +kernel
theorem zqo:zgj.size≤maxLen:=by unfold maxLen;decide +kernel
theorem zqC:zkJ.size≤maxLen:=by unfold maxLen;decide +kernel
theorem zpM:zmS.size≤maxLen:=by unfold maxLen;decide +kernel
theorem zdz:zbd.size≤maxLen:=by unfold maxLen;decide +kernel
theorem zfR (m:zY):zd6 (zb2 m)∧(zb2 m).length≤1:=by
 unfold zb2
 split
 ·exact ⟨zR,by simp⟩
 ·exact ⟨zah (by unfold maxLen;decide +kernel) (by unfold maxLen;decide +kernel) zR,by simp⟩
theorem zhD {m:zY} {r:Rq} {o:ByteArray} (hr:zcO r) (h:zcq m r=some o):o.size≤1048576:=by
 unfold zcq at h
 split at h
 ·cases h
 ·rename_i s hs
  split at h
  ·cases h;decide
  ·split at h
   ·cases h;exact zdS hr.fields hs
   ·cases h
theorem zlC {m:zY} {r:Rq} {x:ByteArray×ByteArray} (hm:zaY m) (hr:zcO r) (h:zcV m r=some x):zbH 8 (zeB m r x):=by
 have hx:x.1.size≤1048576∧x.2.size≤1048576:=by
  unfold zcV at h
  split at h
  ·cases h
  ·rename_i o ho
   split at h
   ·cases h
   ·rename_i v hv
    split at h
    ·cases h
     refine ⟨zhD hr ho,?_⟩;show (if m.value.size=0 then v else m.value).size≤1048576
     split
     ·exact zdS hr.fields hv
     ·exact hm.value
    ·cases h
 obtain ⟨v1,v2⟩:=zfR m;have hj:(zaw (za9 r.fields zcF)).size≤3145728:=by
  have h1:=zhX (za9 r.fields zcF);have h2:=ziv r.fields zcF;have h3:=hr.fields
  omega
 have hd:(za3 m.n).size≤32:=zhA hm.n0 hm.n1;refine ⟨?_,?_⟩
 ·show ([(za0,x.1),(zgj,x.2)]++(if 0<(za9 r.fields zcF).length then [(zkJ,zaw (za9 r.fields zcF))] else [])++[(zmS,za3 m.n)]++zb2 m).length≤8
  rw[List.length_append,List.length_append,List.length_append];have:(if 0<(za9 r.fields zcF).length then [(zkJ,zaw (za9 r.fields zcF))] else []).length≤1:=by split<;>simp
  simp only[List.length_cons,List.length_nil]
  omega
 ·show zd6 ([(za0,x.1),(zgj,x.2)]++(if 0<(za9 r.fields zcF).length then [(zkJ,zaw (za9 r.fields zcF))] else [])++[(zmS,za3 m.n)]++zb2 m)
  refine zan (zan (zan (zah zgh (by unfold maxLen;show x.1.size≤_;omega) (zah zqo (by unfold maxLen;show x.2.size≤_;omega) zR)) ?_) (zah zpM (by unfold maxLen;show (za3 m.n).size≤_;omega) zR)) v1
  split
  ·exact zah zqC (by unfold maxLen;show (zaw _).size≤_;omega) zR
  ·exact zR
theorem zi9 {m:zY} {r q:Rq} (hc:zr m=true) (hr:zcO r) (h:zx m r= .inl q):zcO q:=by
 unfold zx at h
 by_cases h4:m.kind=4
 ·rw[if_pos h4] at h
  split at h<;>cases h
  exact hr
 ·rw[if_neg h4] at h
  by_cases h5:m.kind=5
  ·rw[if_pos h5] at h
   split at h<;>cases h
   exact hr
  ·rw[if_neg h5] at h
   by_cases h6:m.kind=6
   ·rw[if_pos h6] at h
    split at h
    ·rename_i hs
     cases h
     have hv:zaZ m.value=true:=by
      unfold zr zab at hc;rw[h6] at hc;simp at hc;exact hc.2.2
     exact ⟨hr.method,Nat.le_trans (zhH hv hs) hr.target,hr.fields,hr.body⟩
    ·cases h
   ·rw[if_neg h6] at h
    by_cases h7:m.kind=7
    ·rw[if_pos h7] at h
     split at h<;>cases h
     exact hr
    ·rw[if_neg h7] at h
     by_cases h8:m.kind=8
     ·rw[if_pos h8] at h
      split at h<;>cases h
      exact hr
     ·rw[if_neg h8] at h
      split at h
      ·split at h<;>cases h
       exact hr
      ·cases h;exact hr
theorem zsU {m:zY} {r:Rq} {o:Rs} (hm:zaY m) (hr:zcO r) (h:zx m r= .inr o):zbH 8 o:=by
 obtain ⟨l1,l2,_⟩:=zcD hm.list;have hj:=zhX m.list;have hq:=zgC m.name;have hn:=hm.name;have hw:(zM++zcM m.name++zN).size≤4194304:=by
  rw[ByteArray.size_append,ByteArray.size_append];have h1:zM.size=12:=rfl;have h2:zN.size=17:=rfl
  omega
 have hp:∀n v (name:ByteArray),name.size≤maxLen→v.size≤4194304→zbH 8 (zT n [(name,v)]):=fun n v name h1 h2=>zaJ n (zah h1 (by unfold maxLen;show v.size≤_;omega) zR) (by simp)
 have h0:∀n,zbH 8 (zT n []):=fun n=>zaJ n zR (by simp)
 unfold zx at h
 split at h
 ·split at h<;>cases h
  exact hp _ _ _ (by unfold maxLen;decide +kernel) (by omega)
 ·split at h
  ·split at h<;>cases h
   exact h0 _
  ·split at h
   ·split at h<;>cases h
    exact h0 _
   ·split at h
    ·split at h<;>cases h
     exact hp _ _ _ (by unfold maxLen;decide +kernel) hw
    ·split at h
     ·split at h
      ·cases h
      ·rename_i x hx
       cases h
       exact zlC hm hr hx
     ·split at h
      ·split at h<;>cases h
       exact h0 _
      ·cases h
theorem zpy {m:zY} {r:Rq} {x:Rs} {N:Nat} (hm:zaY m) (hr:zcO r) (hx:zbH N x):zbH (N+2) (zB m r x):=by
 obtain ⟨x1,x2⟩:=hx;have hn:m.name.size≤maxLen:=by have:=hm.name;unfold maxLen;omega
 have hv:m.value.size≤maxLen:=by have:=hm.value;unfold maxLen;omega
 have hrm:(zF x.fields m.name).length≤x.fields.length:=List.length_filter_le _ _;obtain ⟨v1,v2⟩:=zfR m;unfold zB
 split
 ·exact ⟨by show (x.fields++[(m.name,m.value)]).length≤_;rw[List.length_append];simp;omega,zan x2 (zah hn hv zR)⟩
 ·split
  ·exact ⟨by show (zF x.fields m.name++[(m.name,m.value)]).length≤_;rw[List.length_append];simp;omega,zan (zgA x2 _) (zah hn hv zR)⟩
  ·split
   ·exact ⟨by show (zF x.fields m.name).length≤_;omega,zgA x2 _⟩
   ·split
    ·cases ho:zcq m r with
     |none=>exact ⟨by show (x.fields++[]++zb2 m).length≤_;simp;omega,zan (zan x2 zR) v1⟩
     |some o=>exact ⟨by show (x.fields++[(za0,o)]++zb2 m).length≤_;rw[List.length_append,List.length_append];simp;omega,zan (zan x2 (zah zgh (by have:=zhD hr ho;unfold maxLen;show o.size≤_;omega) zR)) v1⟩
    ·split
     ·split
      ·exact ⟨by show (x.fields++[(zbd,m.value)]).length≤_;rw[List.length_append];simp;omega,zan x2 (zah zdz hv zR)⟩
      ·exact ⟨by omega,x2⟩
     ·exact ⟨by omega,x2⟩
def zf (m:zY) (A:Option Addr) (c:Nat):Array Value:=#[.int .i64 m.kind,.string m.name,.string m.value,.slice A m.list.length c,.int .i64 m.n]
def zu (r:Rq) (A:Option Addr) (c:Nat) (B:Option Addr) (d:Nat):Array Value:=#[.string r.method,.string r.target,.int .i64 r.major,.int .i64 r.minor,.slice A r.fields.length c,.string r.body,.slice B r.trailers.length d]
def zei:Array Value:=#[.int .i64 0,.string ⟨#[]⟩,.slice none 0 0,.string ⟨#[]⟩]
def X3 (w:World) (a b:Array Value):World:=((w.alloc (.cells a 24)).alloc (.cells b 27)).alloc (.cells zei 29)
section
variable {D:Nat→Prop} {w w':World} {a b:Array Value}
theorem zaA (w:World) (a b:Array Value):(X3 w a b).heap.size=w.heap.size+3:=by simp[X3]
theorem zae (w:World) (a b:Array Value):Below w.heap.size w (X3 w a b):=(((Below.refl _ w).alloc (Nat.le_refl _) _).alloc (by simp) _).alloc (by simp;omega) _
theorem zlt (hD:∀k,D k→k<w.heap.size) (h:zb D (X3 w a b) w') (j:Nat):w'.cell? ⟨w.heap.size,j,none⟩=a[j]?:=by
 rw[h.cell (p:=⟨w.heap.size,j,none⟩) (by rw[zaA];simp) (fun hd=>by have:=hD _ hd;simp at this)];unfold X3;rw[World.cell?_alloc_lt _ _ _ (by simp;omega),World.cell?_alloc_lt _ _ _ (by simp),World.cell?_alloc_new]
theorem zhT (hD:∀k,D k→k<w.heap.size) (h:zb D (X3 w a b) w') (j:Nat):w'.cell? ⟨w.heap.size+1,j,none⟩=b[j]?:=by
 rw[h.cell (p:=⟨w.heap.size+1,j,none⟩) (by rw[zaA];simp) (fun hd=>by have:=hD _ hd;simp at this;omega)];unfold X3;rw[World.cell?_alloc_lt _ _ _ (by simp)];exact World.cell?_alloc_at _ _ _ _ (by simp)
theorem zdh (hD:∀k,D k→k<w.heap.size) (h:zb D (X3 w a b) w') (j:Nat):w'.cell? ⟨w.heap.size+1+1,j,none⟩=zei[j]?∧w'.frozen? ⟨w.heap.size+1+1,j,none⟩=false:=by
 have hn:¬D (w.heap.size+1+1):=fun hd=>by have:=hD _ hd;omega
 refine ⟨?_,?_⟩
 ·rw[h.cell (p:=⟨w.heap.size+1+1,j,none⟩) (by rw[zaA];simp) hn]
  exact World.cell?_alloc_at _ _ _ _ (by simp)
 ·rw[h.frozen (p:=⟨w.heap.size+1+1,j,none⟩) (by rw[zaA];simp) hn]
  exact World.frozen?_alloc_at _ _ _ _ (by simp)
theorem zbp (h:zb D (X3 w a b) w'):w.heap.size+3≤w'.heap.size:=by have:=h.size;rw[zaA] at this;exact this
end
end Go.Proofs.YtbnafbdhomdcoaaGreatDoor
namespace Go.Proofs.YtbnafbdhomdcoaaGreatDoor
open Go.RowKit Go.Lib
theorem zj8 (s v:ByteArray):Lib.hasPrefix s.data.toList v.data.toList=zc0 v s:=by
 rw[←Lib.hasPrefix_raw];unfold zc0
 congr 1
 rw[Bool.eq_iff_iff,beq_iff_eq,decide_eq_true_eq]
 constructor
 ·intro h
  have h2:(s.extract 0 v.size).data.toList=v.data.toList:=by
   rw[←Lib.toList_data,←Lib.toList_data];exact h
  exact zV h2
 ·intro h;rw[h]
theorem zu1 (s v:ByteArray) (h:zc0 v s=true):(⟨(Lib.trimPrefix s.data.toList v.data.toList).toArray⟩:ByteArray)=s.extract v.size s.size:=by
 unfold Lib.trimPrefix;rw[zj8,if_pos h]
 apply zV
 rw[zev]
 rfl
end Go.Proofs.YtbnafbdhomdcoaaGreatDoor
namespace Go.Proofs.YtbnafbdhomdcoaaGreatDoor
open Go.RowKit Go.Shelf Go.Lib
theorem zdF.five {w:World} (h:zdF w):T5.Glob w:=⟨h.g.size,h.g.maxl,h.pow⟩
def zal (w:World) (b:Nat) (v0 v1 v2 v3:Value):World:=(((w.setCell ⟨b,0,none⟩ v0).setCell ⟨b,1,none⟩ v1).setCell ⟨b,2,none⟩ v2).setCell ⟨b,3,none⟩ v3
theorem z7 {E:Nat→Prop} (w:World) {b:Nat} (hb:E b) (v0 v1 v2 v3:Value):zb E w (zal w b v0 v1 v2 v3):=by
 have h:∀(w:World) (j:Nat) (v:Value),zb E w (w.setCell ⟨b,j,none⟩ v):=fun w j v=>
  ⟨rfl,rfl,rfl,by simp,fun k _ hn=>Below.heap_setCell _ _ _ _ (fun e=>hn (by subst e;exact hb))⟩
 exact (((h w 0 v0).trans (h _ 1 v1)).trans (h _ 2 v2)).trans (h _ 3 v3)
def zjK (q:Rq) (F:Rs→Rs) (T:Ans):World→Rs→Option Addr→Nat→World→Prop:=fun w x A c w'=>
 ∃w1 y A1 c1 w2,Below w.heap.size w w1∧T q w1 y A1 c1 w2∧x=F y∧zb (Btw w w1) w2 w'∧(ziZ w w' x A c∨(x=y∧A=A1∧c=c1))
theorem zbc {m:zY} {T:Ans} {r q:Rq} {w w':World} {x:Rs} {A:Option Addr} {c:Nat} (h:zx m r= .inl q) (hx:zjK q (zB m r) T w x A c w'):doT m T r w x A c w':=by
 unfold doT;rw[h];exact hx
theorem zv1 {m:zY} {T:Ans} {r:Rq} {w w':World} {x:Rs} {A:Option Addr} {c:Nat} (h:zx m r= .inr x) (ho:ziZ w w' x A c) (hb:Below w.heap.size w w'):doT m T r w x A c w':=by
 unfold doT;rw[h];exact ⟨rfl,ho,hb⟩
theorem zcB.imp {D:Nat→Prop} {n0 N M:Nat} {T T':World→Rs→Option Addr→Nat→World→Prop} {w:World} {e:Ending} {w':World} (h:zcB D n0 N T w e w') (hN:N≤M) (hT:∀x A c,T w x A c w'→T' w x A c w'):zcB D n0 M T' w e w':=by
 obtain ⟨x,A,c,h1,h2,h3,h4,h5⟩:=h;exact ⟨x,A,c,h1,h2,h3.more hN,hT _ _ _ h4,h5⟩
section
variable {D:Nat→Prop} {n0 N M b c1 c:Nat} {T:Ans} {q:Rq} {F:Rs→Rs} {w W w2 wz:World} {x y:Rs} {A A1:Option Addr}
theorem zfT (hn:n0≤w.heap.size) (h0:Below w.heap.size w W) (hb1:w.heap.size≤b) (hb2:b<W.heap.size) (hr:zQ (Out D n0 W) w2 A1 (zj y.fields)) (hf:zbH N y) (hN:N≤M) (hT:T q W y A1 c1 w2) (hk:zb D W w2) (hz:zb (Btw w W) w2 wz) (hF:F y=y) (v0 v1 v2 v3:Value):
  zcB D n0 M (zjK q F T) w (.returned (rsV y A1 c1)) (zal wz b v0 v1 v2 v3):=by
 have hB:zb (Btw w W) w2 (zal wz b v0 v1 v2 v3):=hz.trans (z7 wz ⟨hb1,hb2⟩ v0 v1 v2 v3);refine ⟨y,A1,c1,rfl,hr.back hn h0.size hB,hf.more hN,⟨W,y,A1,c1,w2,h0,hT,hF.symm,hB,.inr ⟨rfl,rfl,rfl⟩⟩,?_⟩;refine ⟨hB.os.trans (hk.os.trans h0.os),hB.tape.trans (hk.tape.trans h0.tape),hB.output.trans (hk.output.trans h0.output),Nat.le_trans h0.size (Nat.le_trans hk.size hB.size),fun k hk1 hn1=>?_⟩;have h3:k<W.heap.size:=Nat.lt_of_lt_of_le hk1 h0.size;rw[hB.block k (Nat.lt_of_lt_of_le h3 hk.size) (fun hd=>by have:=hd.1;omega),hk.block k h3 hn1,h0.block k hk1]
theorem zdN (hn:n0≤w.heap.size) (h0:Below w.heap.size w W) (hb1:w.heap.size≤b) (hb2:b<W.heap.size) (hr:zQ (Out D n0 W) w2 A1 (zj y.fields)) (hf:zbH N y) (hN:N≤M) (hT:T q W y A1 c1 w2) (hk:zb D W w2) (hF:F y=y) (v0 v1 v2 v3:Value):
  zcB D n0 M (zjK q F T) w (.returned (rsV y A1 c1)) (zal w2 b v0 v1 v2 v3):=zfT hn h0 hb1 hb2 hr hf hN hT hk (zb.refl _ _) hF v0 v1 v2 v3
theorem zdb (hl:∀k,D k→k<w.heap.size) (h0:Below w.heap.size w W) (hb1:w.heap.size≤b) (hb2:b<W.heap.size) (hT:T q W y A1 c1 w2) (hk:zb D W w2) (hz:zb (Btw w W) w2 wz) (ho:wz.ownsRow W.heap.size 59 2 (.slice A x.fields.length c) x.fields.length (zj x.fields)) (hx:x=F y) (hf:zbH M x) (v0 v1 v2 v3:Value):
  zcB D n0 M (zjK q F T) w (.returned (rsV x A c)) (zal wz b v0 v1 v2 v3):=by
 have hB:zb (Btw w W) wz (zal wz b v0 v1 v2 v3):=z7 wz ⟨hb1,hb2⟩ v0 v1 v2 v3;have hB2:=hz.trans hB;have ho2:(zal wz b v0 v1 v2 v3).ownsRow W.heap.size 59 2 (.slice A x.fields.length c) x.fields.length (zj x.fields):=zP ho hB (fun k hk=>hk.2);refine ⟨x,A,c,rfl,zQ.of_new ho2 hl h0.size,hf,⟨W,y,A1,c1,w2,h0,hT,hx,hB2,.inl (zn ho2 h0.size)⟩,?_⟩;refine ⟨hB2.os.trans (hk.os.trans h0.os),hB2.tape.trans (hk.tape.trans h0.tape),hB2.output.trans (hk.output.trans h0.output),Nat.le_trans h0.size (Nat.le_trans hk.size hB2.size),fun k hk1 hn1=>?_⟩;have h3:k<W.heap.size:=Nat.lt_of_lt_of_le hk1 h0.size;rw[hB2.block k (Nat.lt_of_lt_of_le h3 hk.size) (fun hd=>by have:=hd.1;omega),hk.block k h3 hn1,h0.block k hk1]
theorem zbo {m:zY} {r:Rq} (hl:∀k,D k→k<w.heap.size) (h0:Below w.heap.size w W) (hb1:w.heap.size≤b) (hb2:b<W.heap.size) (hz:Below w.heap.size w wz) (ho:wz.ownsRow W.heap.size 59 2 (.slice A x.fields.length c) x.fields.length (zj x.fields)) (hx:zx m r= .inr x) (hf:zbH M x) (v0 v1 v2 v3:Value):
  zcB D n0 M (doT m T r) w (.returned (rsV x A c)) (zal wz b v0 v1 v2 v3):=by
 have hB:zb (Btw w W) wz (zal wz b v0 v1 v2 v3):=z7 wz ⟨hb1,hb2⟩ v0 v1 v2 v3;have ho2:(zal wz b v0 v1 v2 v3).ownsRow W.heap.size 59 2 (.slice A x.fields.length c) x.fields.length (zj x.fields):=zP ho hB (fun k hk=>hk.2);have hbl:Below w.heap.size w (zal wz b v0 v1 v2 v3):=⟨hB.os.trans hz.os,hB.tape.trans hz.tape,hB.output.trans hz.output,Nat.le_trans hz.size hB.size,fun k hk=>by
  rw[hB.block k (Nat.lt_of_lt_of_le hk hz.size) (fun hd=>by have:=hd.1;omega),hz.block k hk]⟩
 exact ⟨x,A,c,rfl,zQ.of_new ho2 hl h0.size,hf,zv1 hx (zn ho2 h0.size) hbl,zb.of hbl⟩
end
end Go.Proofs.YtbnafbdhomdcoaaGreatDoor
namespace Go.Proofs.YtbnafbdhomdcoaaGreatDoor
open Go
open Go.RowKit
section
variable {P:Program} {ops:Array Oper} {Q:Exit→Act→World→Prop} {md:Region.Mode} {S:World→Prop} {t:Nat}
def zh0 (P:Program) (md:Region.Mode) (ops:Array Oper) (Q:Exit→Act→World→Prop) (S:World→Prop) (t:Nat):Nat→Array Bool→Act→World→Prop
 |0,listed,a,w=>Region.ready md ops listed=[]∧Q .normal a w
 |fuel+1,listed,a,w=>
  (Region.ready md ops listed=[]→Q .normal a w)∧
  ∀i∈Region.ready md ops listed,wpOp P ops Q i (fun a' w'=>((listed.setIfInBounds i true).getD t false=true∨S w')∧zh0 P md ops Q S t fuel (listed.setIfInBounds i true) a' w') a w
theorem zn4:∀(fuel:Nat) (listed:Array Bool) (a:Act) (w:World),zh0 P md ops Q S t fuel listed a w→wpAny P md ops Q fuel listed a w
 |0,_,_,_,h=>h
 |fuel+1,_,_,_,h=>⟨h.1,fun i hi=>wpOp_mono (fun a' w' h'=>zn4 fuel _ a' w' h'.2) (h.2 i hi)⟩
theorem zmo {l:Array Bool} {j t:Nat} (h:l.getD t false=false) (hj:j≠t):(l.setIfInBounds j true).getD t false=false:=by
 simp only[Array.getD_eq_getD_getElem?,Array.getElem?_setIfInBounds_ne hj] at h ⊢;exact h
theorem zpY {i:Nat} {oi:Oper} {v:Value} (hi:ops[i]?=some oi) (hsel:∀(j:Nat) (o:Oper) cs b,ops[j]?=some o→o.op≠ .select cs b)
  (hQ:∀c a w,Q (.panic c) (a.put oi.dst v) w→Q (.panic c) a w) (hwait:∀o,ops[t]?=some o→∃e∈o.after,Region.binds md e=true∧e.on=i):
  ∀(fuel:Nat) (listed:Array Bool) (a:Act) (w:World),
   (∀j oj,ops[j]?=some oj→j≠i→listed.getD j true=false→(∀e∈oj.after,Region.binds md e=true→e.on≠i)→oi.apart ops oj=true)→
   i∈Region.ready md ops listed→YieldsIf P ops S oi v a→listed.getD t false=false→S w→
   zh0 P md ops Q S t fuel (listed.setIfInBounds i true) (a.put oi.dst v) w→zh0 P md ops Q S t (fuel+1) listed a w:=by
 intro fuel
 induction fuel with
 |zero=>
  intro listed a w _ hr hy hT hS H;refine ⟨fun h=>(by rw[h] at hr;cases hr),fun j hj=>?_⟩
  by_cases hji:j=i
  ·subst hji;exact hy.wpOp hi hS ⟨.inr hS,H⟩
  ·have:=ready_mono hj hji
   rw[H.1] at this
   cases this
 |succ fuel ih=>
  intro listed a w hfree hr hy hT hS H;refine ⟨fun h=>(by rw[h] at hr;cases hr),fun j hj=>?_⟩
  by_cases hji:j=i
  ·subst hji;exact hy.wpOp hi hS ⟨.inr hS,H⟩
  ·have h1:=H.2 j (ready_mono hj hji)
   obtain ⟨hjun,oj,hoj,hall⟩:=mem_ready.1 hj;have hnot:∀e∈oj.after,Region.binds md e=true→e.on≠i:=fun e he hb heq=>by
    have h1:=hall e he hb;have h0:=(mem_ready.1 hr).1;rw[heq] at h1
    rcases Nat.lt_or_ge i listed.size with h'|h'
    ·simp[h'] at h0 h1;rw[h0] at h1;cases h1
    ·simp[Array.getElem?_eq_none h'] at h1
   have hjt:j≠t:=fun e=>by
    subst e;obtain ⟨e,he,hb,heq⟩:=hwait oj hoj;exact hnot e he hb heq
   have hit:i≠t:=fun e=>by
    subst e;obtain ⟨e,he,hb,heq⟩:=hwait oi hi;have h3:=(mem_ready.1 hr).2;obtain ⟨o2,ho2,hall2⟩:=h3;rw[hi] at ho2;injection ho2 with ho2;subst ho2;have h4:=hall2 e he hb;rw[heq] at h4;rw[show listed.getD i false=listed.getD i false from rfl] at h4;rw[hT] at h4
    cases h4
   have h2:=wpOp_putIf hoj (hfree j oj hoj hji hjun hnot) (fun cs b=>hsel i oi cs b hi) (fun cs b=>hsel j oj cs b hoj) hQ hy h1;have hfree':∀k ok,ops[k]?=some ok→k≠i→(listed.setIfInBounds j true).getD k true=false→
     (∀e∈ok.after,Region.binds md e=true→e.on≠i)→oi.apart ops ok=true:=fun k ok hk hki hun hno=>by
    refine hfree k ok hk hki ?_ hno
    by_cases hjk:j=k
    ·subst hjk;exact hjun
    ·rw[getD_set_ne true hjk] at hun;exact hun
   have hT2:=zmo hT hjt;refine wpOp_mono (fun a' w' h3=>?_) h2;have hS3:S w':=by
    rcases h3.2.1 with h4|h4
    ·exfalso
     rw[Array.setIfInBounds_comm _ _ (Ne.symm hji)] at h4;rw[zmo hT2 hit] at h4
     cases h4
    ·exact h4
   refine ⟨.inr hS3,ih (listed.setIfInBounds j true) a' w' hfree' (ready_mono hr (Ne.symm hji)) h3.1 hT2 hS3 ?_⟩;rw[Array.setIfInBounds_comm _ _ hji];exact h3.2.2
def zkS (md:Region.Mode) (ops:Array Oper) (t i:Nat):Bool:=match ops[t]? with
 |some o=>o.after.any fun e=>Region.binds md e&&e.on==i
 |none=>true
theorem zdD {i:Nat} {oi:Oper} {v:Value} {fuel:Nat} {listed:Array Bool} {a:Act} {w:World} (hi:ops[i]?=some oi)
  (hs:Region.noSelect ops=true) (hf:Region.free md ops listed i=true) (hr:(Region.ready md ops listed).contains i=true) (hwt:zkS md ops t i=true) (hT:listed.getD t false=false)
  (hQ:∀c a w,Q (.panic c) (a.put oi.dst v) w→Q (.panic c) a w) (hy:YieldsIf P ops S oi v a) (hS:S w)
  (h:zh0 P md ops Q S t fuel (listed.setIfInBounds i true) (a.put oi.dst v) w):zh0 P md ops Q S t (fuel+1) listed a w:=
 zpY hi (Region.noSelect_spec hs) hQ (fun o ho=>by
  unfold zkS at hwt;rw[ho] at hwt;dsimp only at hwt;obtain ⟨j,hj,he⟩:=Array.any_eq_true.1 hwt;rw[Bool.and_eq_true,beq_iff_eq] at he;exact ⟨_,Array.getElem_mem hj,he.1,he.2⟩) fuel listed a w (Region.free_spec hi hf) (by simpa using hr) hy hT hS h
def zJ (P:Program) (md:Region.Mode) (ops:Array Oper) (Q:Exit→Act→World→Prop) (S:World→Prop) (t:Nat) (fuel:Nat) (listed:Array Bool) (a:Act) (w:World) (rs:List Nat):Prop:=
 ∀i∈rs,wpOp P ops Q i (fun a' w'=>((listed.setIfInBounds i true).getD t false=true∨S w')∧zh0 P md ops Q S t fuel (listed.setIfInBounds i true) a' w') a w
theorem zJ.nil {fuel:Nat} {listed:Array Bool} {a:Act} {w:World}:zJ P md ops Q S t fuel listed a w []:=fun _ h=>by cases h
theorem zJ.cons {fuel:Nat} {listed:Array Bool} {a:Act} {w:World} {i:Nat} {o:Oper} {rs:List Nat} (ho:ops[i]?=some o)
  (h:∀K':Act→World→Prop,Shut (∀a w,((listed.setIfInBounds i true).getD t false=true∨S w)→(((listed.setIfInBounds i true).getD t false=true∨S w)→zh0 P md ops Q S t fuel (listed.setIfInBounds i true) a w)→K' a w)→if Region.wanted o (yielded ops a.tmps)=true then Oper.wp P o a w K' Q else K' (a.put o.dst undef) w)
  (hs:zJ P md ops Q S t fuel listed a w rs):zJ P md ops Q S t fuel listed a w (i::rs):=fun j hj=>by
 rcases List.mem_cons.1 hj with rfl|hj
 ·exact wpOp_step ho (fun K' hK=>h K' (fun a w hS hW=>hK a w ⟨hS,hW hS⟩))
 ·exact hs j hj
theorem zbC {rs:List Nat} {fuel:Nat} {listed:Array Bool} {a:Act} {w:World} (hr:Region.ready md ops listed=rs) (hne:rs≠[])
  (h:zJ P md ops Q S t fuel listed a w rs):zh0 P md ops Q S t (fuel+1) listed a w:=
 ⟨fun h0=>absurd (hr▸h0) hne,hr▸h⟩
theorem zy {listed:Array Bool} {a:Act} {w:World} (hr:Region.ready md ops listed=[]) (h:Q .normal a w):
  ∀fuel,zh0 P md ops Q S t fuel listed a w
 |0=>⟨hr,h⟩
 |_+1=>⟨fun _=>h,by rw[hr];simp⟩
theorem zO {id:Nat} {a:Act} {w:World} (t:Nat) (hm:P.follows .mixedOrders=true) (hS:S w.drew)
  (h:S w.drew→zh0 P .any ops Q S t ops.size (Array.replicate ops.size false) a w.drew):(Code.region id ops true).wp P Q a w:=
 wp_region_any hm (zn4 _ _ _ _ (h hS))
theorem yl {p:Prop} (h:p:=by (try simp only[List.getElem_toArray,List.getElem_cons_succ,List.getElem_cons_zero]);go_simp;try (with_reducible rfl)):p:=h
theorem nm {p q:Prop} (h:q) (e:p=q:=by first|(simp only[List.getElem_toArray,List.getElem_cons_succ,List.getElem_cons_zero,Act.put,List.setIfInBounds_toArray,List.set_cons_zero,List.set_cons_succ];done)|(simp only[List.getElem_toArray,List.getElem_cons_succ,List.getElem_cons_zero,Act.put,List.setIfInBounds_toArray,List.set_cons_zero,List.set_cons_succ];exact rfl)|exact rfl):p:=e▸h
theorem za (i:Nat) {oi:Oper} {v:Value} {fuel:Nat} {listed:Array Bool} {a:Act} {w:World} {X:Prop} (hi:ops[i]?=some oi:=by rfl)
  (hs:Region.noSelect ops=true:=by kernel_rfl) (hf:Region.free md ops listed i=true:=by kernel_rfl) (hr:(Region.ready md ops listed).contains i=true:=by kernel_rfl) (hwt:zkS md ops t i=true:=by kernel_rfl) (hT:listed.getD t false=false:=by rfl)
  (hQ:∀c a w,Q (.panic c) (a.put oi.dst v) w→Q (.panic c) a w:=by exact fun _ _ _ h=>h) (hw:Region.wanted oi (yielded ops a.tmps)=true:=by rfl)
  (y:∀w,S w→(execOp a.eval oi).run P w= .ok (.value v) w:=by intro w hSw;(try dsimp only at hSw);(try simp only[List.getElem_toArray,List.getElem_cons_succ,List.getElem_cons_zero]);go_simp;try (with_reducible rfl)) (s:S w) (h:X)
  (hX:zh0 P md ops Q S t fuel (listed.setIfInBounds i true) (a.put oi.dst v) w=X:=by first|(simp only[List.getElem_toArray,List.getElem_cons_succ,List.getElem_cons_zero,Act.put,List.setIfInBounds_toArray,List.set_cons_zero,List.set_cons_succ];done)|(simp only[List.getElem_toArray,List.getElem_cons_succ,List.getElem_cons_zero,Act.put,List.setIfInBounds_toArray,List.set_cons_zero,List.set_cons_succ];exact rfl)|exact rfl):zh0 P md ops Q S t (fuel+1) listed a w:=
 zdD hi hs hf hr hwt hT hQ (.inl ⟨hw,y⟩) s (hX▸h)
theorem zc (i:Nat) {o:Oper} {fuel:Nat} {listed:Array Bool} {a:Act} {w:World} (hr:Region.ready md ops listed=[i]:=by kernel_rfl) (ho:ops[i]?=some o:=by rfl)
  (h:∀K':Act→World→Prop,Shut (∀a w,((listed.setIfInBounds i true).getD t false=true∨S w)→(((listed.setIfInBounds i true).getD t false=true∨S w)→zh0 P md ops Q S t fuel (listed.setIfInBounds i true) a w)→K' a w)→if Region.wanted o (yielded ops a.tmps)=true then Oper.wp P o a w K' Q else K' (a.put o.dst undef) w):zh0 P md ops Q S t (fuel+1) listed a w:=
 zbC hr (by simp) (zJ.cons ho h zJ.nil)
end
end Go.Proofs.YtbnafbdhomdcoaaGreatDoor
