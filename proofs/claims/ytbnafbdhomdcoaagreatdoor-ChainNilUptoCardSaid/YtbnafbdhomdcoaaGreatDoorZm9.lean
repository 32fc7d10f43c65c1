/-
  CjV2, CjV3, CjV4, CjC, ChLawPlain, CkD, CkE, TgSr, TgRn, without what the claim does not reach.
-/
import Derived.Test.YtbnafbdhomdcoaaGreatDoorZm8
import Derived.Test.YtbnafbdhomdcoaaGreatDoorZm2
import Derived.Test.YtbnafbdhomdcoaaGreatDoorZm6
import Derived.Deep.RegionHeld3
import Derived.Deep.QuietTactic
import Derived.BigQuiet
import Derived.Test.YtbnafbdhomdcoaaGreatDoorZChC
import Derived.Test.YtbnafbdhomdcoaaGreatDoorZm7
import Derived.Test.YtbnafbdhomdcoaaGreatDoorZTgHp
import Derived.Test.YtbnafbdhomdcoaaGreatDoorZm5
import Derived.Laws.OwnMore
namespace Go.Proofs.YtbnafbdhomdcoaaGreatDoor
open Go.RowKit Go.Shelf Go.Lib
def zfQ (w:World) (o:Option (List ByteArray)) (e:Ending) (w':World):Prop:=
 ∃(A:Option Addr) (c:Nat) (l:List ByteArray) (x:Int),e= .returned (.tuple #[.slice A l.length c,.int .i64 x])∧w'.ownsRow w.heap.size 9 1 (.slice A l.length c) l.length (l.map .string)∧(match o with|some k=>l=k∧x=0|none=>¬x=0)∧Below w.heap.size w w'
theorem zrl {w w':World} {x:Int} (hx:¬x=0) (hb:Below w.heap.size w w'):zfQ w none (.returned (.tuple #[.slice none 0 0,.int .i64 x])) w':=⟨none,0,[],x,rfl,World.ownsRow_nil _ _ _ _,hx,hb⟩
theorem zuQ {w w':World} {A:Option Addr} {c:Nat} {l:List ByteArray} (ho:w'.ownsRow w.heap.size 9 1 (.slice A l.length c) l.length (l.map .string)) (hb:Below w.heap.size w w'):zfQ w (some l) (.returned (.tuple #[.slice A l.length c,.int .i64 0])) w':=⟨A,c,l,0,rfl,ho,⟨rfl,rfl⟩,hb⟩
theorem zwa {l:List ByteArray} {x:ByteArray} (hx:x∈l):x.size≤(l.map (·.size)).sum:=by
 induction l with
 |nil=>cases hx
 |cons y l ih=>
  rw[List.map_cons,List.sum_cons]
  rcases List.mem_cons.1 hx with rfl|hx
  ·omega
  ·have:=ih hx;omega
set_option maxRecDepth 20000 in
set_option maxHeartbeats 1000000 in
theorem znW (s:ByteArray) (w:World) (hs:s.size≤1048576) (hg:Glob w):
  Calls Tryz.prog 110 #[.string s] w (zfQ w (zdf s)):=by
 have HL:=hid (zsu s w (by omega))
 cases he:zek s with
 |none=>
  have HO:=hid (show zdf s=none by unfold zdf;rw[he]);rw[he] at HL;clear he;rw[HO.out]
  go_enter Tryz.func110,Tryz.ntmps110
  go_wp2_with fail
  refine HL.out.mono ?_;rintro e w1 ⟨A1,c1,rfl,_,hb⟩
  go_wp2
  go_ret2
  exact zrl (by decide) hb
 |some l=>
  obtain ⟨hw1,hw2,hw3⟩:=zet he;clear hw2;have HO:=hid (show zdf s=if l.all zbn=true then some l else none by unfold zdf;rw[he]);have HZ:=hid (fun (x:ByteArray) (hx:x∈l)=>(show x.size≤maxLen by have h:=zwa hx;unfold maxLen;omega));rw[he] at HL;clear he hw1
  go_enter Tryz.func110,Tryz.ntmps110
  go_wp2_with fail
  refine HL.out.mono ?_;rintro e w1 ⟨A1,c1,rfl,hown,hb⟩;have HRW:=hid (show Row w1 A1 (l.map .string) from zak hown);have HOW:=hid hown;have hg1:=hg.beyond hb;have HT:=hid (fun (s:ByteArray) (hs:s.size≤maxLen)=>zd9 s w1 hs hg1);dsimp only[elE];clear hown HL
  go_wp2
  go_loop [18] (fun i=>∃k:Nat,k≤l.length∧i= .int .i64 k∧Hid ((l.drop k).all zbn=l.all zbn)) (fun i=>l.length - (RowKit.intOf i).toNat)
  case atStart=>exact ⟨0,Nat.zero_le _,rfl,hid rfl⟩
  case round=>
   obtain ⟨k,hk,rfl,HF⟩:=hrel
   by_cases hlt:k<l.length
   ·obtain ⟨x,hx⟩:=zD hlt
    obtain ⟨b,off,rfl,hbl,hcell⟩:=HRW.out.str hx;have hf:=znr (P:=zbn) hx;rw[HF.out] at hf;have HF2:=hid hf;have HTx:=hid (HT.out x (HZ.out x (List.mem_of_getElem? hx)));clear hf hx HF
    cases h1:zbn x
    ·rw[h1] at HTx HF2
     go_wp2_with fail
     refine HTx.out.mono ?_;rintro e w2 ⟨rfl,rfl⟩
     go_wp2
     go_ret2
     have h2:l.all zbn=false:=by rw[HF2.out];rfl
     rw[HO.out,h2];exact zrl (by decide) hb
    ·rw[h1] at HTx HF2
     go_wp2_with fail
     refine HTx.out.mono ?_;rintro e w2 ⟨rfl,rfl⟩
     go_wp2
     go_round
     case rel=>exact ⟨k+1,by omega,by go_num,hid (by rw[HF2.out];simp)⟩
     case measure=>simp[RowKit.intOf];omega
   ·obtain rfl:k=l.length:=by omega
    have h2:l.all zbn=true:=by rw[←HF.out,zjV]
    have H2:=hid h2;clear h2 HF
    go_wp2
    go_ret2
    rw[HO.out,H2.out];exact zuQ HOW.out hb
theorem zjI (x:Int) (w:World):
  Calls Tryz.prog 103 #[.int .i32 x] w fun e w'=>e= .returned (.bool (zeb x))∧w=w':=by
 unfold zeb
 cases h1:decide (x<32)
 ·have h2:(x==127)=decide (x=127):=by rw[Bool.eq_iff_iff];simp
  go_enter Tryz.func103,Tryz.ntmps103
  go_wp2
  go_ret
  exact ⟨zd (by first|rfl|simp),rfl⟩
 ·go_enter Tryz.func103,Tryz.ntmps103
  go_wp2
  go_ret
  exact ⟨zd (by first|rfl|simp),rfl⟩
theorem zqx (s:ByteArray) (w:World):
  Calls Tryz.prog 102 #[.string s,.func (.func 103) #[] #[]] w fun e w'=>e= .returned (.int .i64 (Lib.idxFunc zlJ true s))∧Below w.heap.size w w':=by
 refine Tryz.strings_IndexFunc_grows 103 #[] (fun args w=>Tryz.call103 args w) zlJ s w ?_;intro W x _ _;refine (zjI (x:Int) W).mono fun e w' h=>⟨?_,?_⟩
 ·rw[h.1,zpc (n:=x) rfl]
 ·rw[←h.2]
  exact Below.refl _ _
theorem zc8 {w w1:World} {m:zY} {A:Option Addr} {c:Nat} (h:Below (w.heap.size+1) (w.alloc (.cells #[.int .i64 m.kind,.string m.name,.string m.value,.slice A m.list.length c,.int .i64 m.n] 24)) w1):
  (w1.cell? ⟨w.heap.size,0,none⟩=some (.int .i64 m.kind)∧w1.cell? ⟨w.heap.size,1,none⟩=some (.string m.name)∧w1.cell? ⟨w.heap.size,2,none⟩=some (.string m.value)∧w1.cell? ⟨w.heap.size,3,none⟩=some (.slice A m.list.length c)∧w1.cell? ⟨w.heap.size,4,none⟩=some (.int .i64 m.n))∧w.heap.size<w1.heap.size:=
 ⟨⟨(zH h 0).1,(zH h 1).1,(zH h 2).1,(zH h 3).1,(zH h 4).1⟩,zas h⟩
theorem zmW (w:World) (o:Obj):Below (w.heap.size+1) (w.alloc o) (w.alloc o):=Below.refl _ _
theorem zeL {w W w2:World} {o:Obj} (h:Below (w.heap.size+1) (w.alloc o) W) (h2:Below W.heap.size W w2):Below (w.heap.size+1) (w.alloc o) w2:=h.trans (h2.mono (by have:=h.size;simpa using this))
set_option maxRecDepth 20000 in
set_option maxHeartbeats 1000000 in
theorem zkT (m:zY) (A:Option Addr) (c:Nat) (w:World) (hr:Row w A (m.list.map .string)) (hm:zaY m):
  Calls Tryz.prog 68 #[zL m A c] w fun e w'=>e= .returned (.bool (m.list.all zbJ&&(zcb m.name&&decide (0<m.list.length))))∧Below w.heap.size w w':=by
 have hl:m.list.length≤1048576:=(zcD hm.list).2.1;have HR:=hid (fun (W:World) (h:Below w.heap.size w W)=>hr.below h);have HF:=hid (fun w=>zd7 m.name w hm.nameL);clear hr hm;unfold zL
 go_enter Tryz.func68,Tryz.ntmps68
 go_wp2
 go_loopw [8] (fun i wr=>∃k:Nat,k≤m.list.length∧i= .int .i64 k∧Hid ((m.list.drop k).all zbJ=m.list.all zbJ)∧Below (w.heap.size+1) (w.alloc (.cells #[.int .i64 m.kind,.string m.name,.string m.value,.slice A m.list.length c,.int .i64 m.n] 24)) wr) (fun i _=>m.list.length - (RowKit.intOf i).toNat)
 case atStart=>exact ⟨0,Nat.zero_le _,rfl,hid rfl,zmW w _⟩
 case round=>
  obtain ⟨k,hk,rfl,HD,hbx⟩:=hrel;have hbw:=zw hbx
  by_cases hlt:k<m.list.length
  ·obtain ⟨s,hs⟩:=zD hlt
   obtain ⟨b,off,rfl,hb,hcell⟩:=(HR.out wr hbw).str hs;have hf:=znr (P:=zbJ) hs;rw[HD.out] at hf;have HF2:=hid hf;have HI:=hid (fun w=>za2 s 58 w (by omega) (by omega));have HX:=hid (fun w=>zqx s w);have HB:=hid (show zbJ s=(decide (1≤za7 s 58)&&zb3 (fun c=>!zeb c) s) from rfl);have HQ:=hid (zo1 s);clear hf hs HD HR;generalize za7 s 58=f at *;generalize Lib.idxFunc zlJ true s=x at *
   by_cases h1:f<1
   ·have h1d:decide (f<1)=true:=decide_eq_true h1
    have HB2:=hid (show zbJ s=false by rw[HB.out,decide_eq_false (by omega)];rfl)
    go_wp2_with fail
    refine (HI.out _).mono ?_;rintro e w1 ⟨rfl,rfl⟩
    go_wp2
    go_ret
    exact ⟨zd (by rw[HF2.out,HB2.out];rfl),hbw⟩
   ·have h1d:decide (f<1)=false:=decide_eq_false h1
    have h1e:=HQ.out
    by_cases h2:0≤x
    ·have h2d:decide (0≤x)=true:=decide_eq_true h2
     have hA:zb3 (fun c=>!zeb c) s=false:=by
      cases h:zb3 (fun c=>!zeb c) s
      ·rfl
      ·rw[h2d,h] at h1e;cases h1e
     have HB2:=hid (show zbJ s=false by rw[HB.out,hA,Bool.and_false]);clear hA;clear h1e HQ
     go_wp2_with fail
     refine (HI.out _).mono ?_;rintro e w1 ⟨rfl,rfl⟩
     go_wp2_with fail
     refine (HX.out _).mono ?_;rintro e w1 ⟨rfl,hb1⟩;have hb2:=hbw.trans (hb1.mono hbw.size);clear hb1
     go_wp2
     go_ret
     exact ⟨zd (by rw[HF2.out,HB2.out];rfl),hb2⟩
    ·have h2d:decide (0≤x)=false:=decide_eq_false h2
     have hA:zb3 (fun c=>!zeb c) s=true:=by
      cases h:zb3 (fun c=>!zeb c) s
      ·rw[h2d,h] at h1e;cases h1e
      ·rfl
     have HB2:=hid (show zbJ s=true by rw[HB.out,hA,decide_eq_true (by omega)];rfl);clear hA;clear h1e HQ
     go_wp2_with fail
     refine (HI.out _).mono ?_;rintro e w1 ⟨rfl,rfl⟩
     go_wp2_with fail
     refine (HX.out _).mono ?_;rintro e w1 ⟨rfl,hb1⟩;have hb2:=zeL hbx hb1;clear hb1 hbx hbw
     go_wp2
     go_roundw
     case rel=>exact ⟨k+1,by omega,by go_num,hid (by rw[HF2.out,HB2.out];rfl),hb2⟩
     case measure=>simp[RowKit.intOf];omega
  ·obtain rfl:k=m.list.length:=by omega
   obtain ⟨⟨c0,c1,c2,c3,c4⟩,hz⟩:=zc8 hbx;have hd:=HD.out;rw[zjV] at hd;have HD2:=hid hd;clear hd HD hbx HR
   cases h1:zcb m.name
   ·rw[h1] at HF
    go_wp2_with fail
    refine (HF.out _).mono ?_;rintro e w1 ⟨rfl,rfl⟩;have HF0:=hid h1;clear h1
    go_wp2
    go_ret
    exact ⟨zd (by rw[←HD2.out,HF0.out];rfl),hbw⟩
   ·rw[h1] at HF
    go_wp2_with fail
    refine (HF.out _).mono ?_;rintro e w1 ⟨rfl,rfl⟩;have HF0:=hid h1;clear h1
    go_wp2
    go_ret
    exact ⟨zd (by rw[←HD2.out,HF0.out];simp),hbw⟩
set_option maxRecDepth 20000 in
set_option maxHeartbeats 1000000 in
theorem zlj (m:zY) (A:Option Addr) (c:Nat) (w:World) (hr:Row w A (m.list.map .string)) (hm:zaY m) (hg:zdF w):
  Calls Tryz.prog 74 #[zL m A c] w fun e w'=>e= .returned (.bool (m.list.all zcu&&decide (0<m.list.length)))∧Below w.heap.size w w':=by
 have hl:m.list.length≤1048576:=(zcD hm.list).2.1;have HR:=hid (fun (W:World) (h:Below w.heap.size w W)=>hr.below h);have HA:=hid (fun (s:ByteArray) (hs:s∈m.list) (W:World) (h:Below w.heap.size w W)=>T5.Authority_any s W (Nat.le_trans (zhh hm.list hs) (by decide)) (hg.beyond h).five);clear hr hm hg;unfold zL
 go_enter Tryz.func74,Tryz.ntmps74
 go_wp2
 go_loopw [11] (fun i wr=>∃k:Nat,k≤m.list.length∧i= .int .i64 k∧Hid ((m.list.drop k).all zcu=m.list.all zcu)∧Below (w.heap.size+1) (w.alloc (.cells #[.int .i64 m.kind,.string m.name,.string m.value,.slice A m.list.length c,.int .i64 m.n] 24)) wr) (fun i _=>m.list.length - (RowKit.intOf i).toNat)
 case atStart=>exact ⟨0,Nat.zero_le _,rfl,hid rfl,zmW w _⟩
 case round=>
  obtain ⟨k,hk,rfl,HD,hbx⟩:=hrel;have hbw:=zw hbx
  by_cases hlt:k<m.list.length
  ·obtain ⟨s,hs⟩:=zD hlt
   obtain ⟨b,off,rfl,hb,hcell⟩:=(HR.out wr hbw).str hs;have hf:=znr (P:=zcu) hs;rw[HD.out] at hf;have HF2:=hid hf;have HAS:=hid (fun W h=>HA.out s (List.mem_of_getElem? hs) W h);have HB:=hid (show zcu s=decide (T5.authR s=(s,-1,0)) from rfl);clear hf hs HD HR HA;unfold T5.authVal at HAS;generalize T5.authR s=ar at *;obtain ⟨ah,ap,ae⟩:=ar;dsimp only at HAS
   by_cases he:ae=0
   ·subst he
    by_cases hp:ap=-1
    ·subst hp
     by_cases hs:ah=s
     ·subst hs
      have HB2:=hid (show zcu ah=true by rw[HB.out];simp)
      go_wp2_with fail
      refine (HAS.out _ hbw).mono ?_;rintro e w1 ⟨rfl,hb1⟩;have hb2:=zeL hbx hb1;clear hb1 hbx hbw
      go_wp2
      go_roundw
      case rel=>exact ⟨k+1,by omega,by go_num,hid (by rw[HF2.out,HB2.out];rfl),hb2⟩
      case measure=>simp[RowKit.intOf];omega
     ·have hne:(ah.toList==s.toList)=false:=beq_eq_false_iff_ne.2 fun h=>hs (zV (by rw[←Lib.toList_data,←Lib.toList_data];exact h))
      have HB2:=hid (show zcu s=false by rw[HB.out];exact decide_eq_false fun h=>hs (Prod.mk.inj h).1)
      go_wp2_with fail
      refine (HAS.out _ hbw).mono ?_;rintro e w1 ⟨rfl,hb1⟩;have hb2:=hbw.trans (hb1.mono hbw.size);clear hb1 hs
      go_wp2
      go_ret
      exact ⟨zd (by rw[HF2.out,HB2.out];rfl),hb2⟩
    ·have hne:(ap !=-1)=true:=bne_iff_ne.2 hp
     have HB2:=hid (show zcu s=false by rw[HB.out];exact decide_eq_false fun h=>hp (Prod.mk.inj (Prod.mk.inj h).2).1)
     go_wp2_with fail
     refine (HAS.out _ hbw).mono ?_;rintro e w1 ⟨rfl,hb1⟩;have hb2:=hbw.trans (hb1.mono hbw.size);clear hb1 hp
     go_wp2
     go_ret
     exact ⟨zd (by rw[HF2.out,HB2.out];rfl),hb2⟩
   ·have hne:(ae !=0)=true:=bne_iff_ne.2 he
    have HB2:=hid (show zcu s=false by rw[HB.out];exact decide_eq_false fun h=>he (Prod.mk.inj (Prod.mk.inj h).2).2)
    go_wp2_with fail
    refine (HAS.out _ hbw).mono ?_;rintro e w1 ⟨rfl,hb1⟩;have hb2:=hbw.trans (hb1.mono hbw.size);clear hb1 he
    go_wp2
    go_ret
    exact ⟨zd (by rw[HF2.out,HB2.out];rfl),hb2⟩
  ·obtain rfl:k=m.list.length:=by omega
   obtain ⟨⟨c0,c1,c2,c3,c4⟩,hz⟩:=zc8 hbx;have hd:=HD.out;rw[zjV] at hd;have HD2:=hid hd;clear hd HD hbx HR
   go_wp2
   go_ret
   exact ⟨zd (by rw[←HD2.out];simp),hbw⟩
theorem zhj {B:Nat} {w w':World} (h:Below B w w'):Below B w w'.drew:=⟨h.os,h.tape,h.output,h.size,h.block⟩
theorem zeO {B:Nat} {w w':World} (h:Below B w w') (n:Nat):Below B w (w'.drewN n):=⟨h.os,h.tape,h.output,h.size,h.block⟩
theorem zmj {n:Nat} {w0 w w':World} (h:Below w0.heap.size w0 w) (h2:Below n w w') (hn:w.heap.size≤n):Below w0.heap.size w0 w':=h.trans (h2.mono (Nat.le_trans h.size hn))
theorem znQ (n:Nat) (s:ByteArray):(s.size=0∧zai n s=false)∨(¬s.size=0∧zcb s=false∧zai n s=false)∨(¬s.size=0∧zcb s=true∧zb3 (fun c=>!zcW c) s=false∧zai n s=false)∨
  (¬s.size=0∧zcb s=true∧zb3 (fun c=>!zcW c) s=true∧¬s=zcl∧zai n s=true)∨(¬s.size=0∧zcb s=true∧zb3 (fun c=>!zcW c) s=true∧s=zcl∧1<n∧zai n s=false)∨(¬s.size=0∧zcb s=true∧zb3 (fun c=>!zcW c) s=true∧s=zcl∧¬1<n∧zai n s=true):=by
 unfold zai
 by_cases h1:s.size=0
 ·exact .inl ⟨h1,by rw[decide_eq_true h1];rfl⟩
 ·rw[decide_eq_false h1]
  cases h2:zcb s
  ·exact .inr (.inl ⟨h1,rfl,rfl⟩)
  ·cases h3:zb3 (fun c=>!zcW c) s
   ·exact .inr (.inr (.inl ⟨h1,rfl,rfl,rfl⟩))
   ·by_cases h4:s=zcl
    ·by_cases h5:1<n
     ·exact .inr (.inr (.inr (.inr (.inl ⟨h1,rfl,rfl,h4,h5,by rw[decide_eq_true h4,decide_eq_true h5];rfl⟩))))
     ·exact .inr (.inr (.inr (.inr (.inr ⟨h1,rfl,rfl,h4,h5,by rw[decide_eq_true h4,decide_eq_false h5];rfl⟩))))
    ·exact .inr (.inr (.inr (.inl ⟨h1,rfl,rfl,h4,by rw[decide_eq_false h4];rfl⟩)))
set_option maxRecDepth 20000 in
set_option maxHeartbeats 4000000 in
theorem zjM (m:zY) (A:Option Addr) (c:Nat) (w:World) (hr:Row w A (m.list.map .string)) (hm:zaY m) (hg:Glob w):
  Calls Tryz.prog 70 #[zL m A c] w fun e w'=>e= .returned (.bool (m.list.all (zai m.list.length)&&(decide (0<m.list.length)&&(decide (0≤m.n)&&zc3 m.value))))∧Below w.heap.size w w':=by
 have hl:m.list.length≤1048576:=(zcD hm.list).2.1;have HR:=hid (fun (W:World) (h:Below w.heap.size w W)=>hr.below h);have HFD:=hid (fun (s:ByteArray) (hs:s∈m.list) (W:World)=>zd7 s W (by have:=zhh hm.list hs;unfold maxLen;omega));have HCA:=hid (fun (s:ByteArray) (hs:s∈m.list) (W:World)=>zjJ s W (Nat.le_trans (zhh hm.list hs) (by decide)));have HTK:=hid (fun (W:World) (h:Below w.heap.size w W)=>znW m.value W hm.value (hg.beyond h));have HTO:=hid (show zc3 m.value=(match zdf m.value with|none=>false|some l=>decide (zaw l=m.value)) from rfl);have HVZ:=hid hm.value;have HEZ:=hid (fun l (h:zdf m.value=some l)=>(show (l.map (·.size)).sum≤m.value.size∧l.length≤m.value.size by
  unfold zdf at h
  cases he:zek m.value with
  |none=>rw[he] at h;cases h
  |some k=>
   rw[he] at h;dsimp only at h
   split at h
   ·cases h
    obtain ⟨h1,_,h3⟩:=zet he;exact ⟨h1,h3⟩
   ·cases h))
 clear hr hm hg;unfold zL
 go_enter Tryz.func70,Tryz.ntmps70
 go_wp2
 go_loopw [10] (fun i wr=>∃k:Nat,k≤m.list.length∧i= .int .i64 k∧Hid ((m.list.drop k).all (zai m.list.length)=m.list.all (zai m.list.length))∧Below (w.heap.size+1) (w.alloc (.cells #[.int .i64 m.kind,.string m.name,.string m.value,.slice A m.list.length c,.int .i64 m.n] 24)) wr) (fun i _=>m.list.length - (RowKit.intOf i).toNat)
 case atStart=>exact ⟨0,Nat.zero_le _,rfl,hid rfl,zmW w _⟩
 case round=>
  obtain ⟨k,hk,rfl,HD,hbx⟩:=hrel;have hbw:=zw hbx
  by_cases hlt:k<m.list.length
  ·obtain ⟨s,hs⟩:=zD hlt
   obtain ⟨b,off,rfl,hb,hcell⟩:=(HR.out wr hbw).str hs;have hf:=znr (P:=zai m.list.length) hs;rw[HD.out] at hf;have HF2:=hid hf;have HFS:=hid (HFD.out s (List.mem_of_getElem? hs));have HCS:=hid (HCA.out s (List.mem_of_getElem? hs));have hst:=ze5 s;have hw:=znQ m.list.length s;obtain ⟨⟨c0,c1,c2,c3,c4⟩,hz⟩:=zc8 hbx;clear hf hs HD HR HFD HCA HTK HTO HEZ
   rcases hw with ⟨h1,ho⟩|⟨h1,h2,ho⟩|⟨h1,h2,h3,ho⟩|⟨h1,h2,h3,h4,ho⟩|⟨h1,h2,h3,h4,h5,ho⟩|⟨h1,h2,h3,h4,h5,ho⟩
   ·have he:=zaR h1
    have HO:=hid ho;clear h1 ho hst
    go_wp2
    go_ret
    exact ⟨zd (by rw[HF2.out,HO.out];rfl),hbw⟩
   ·have he:=zaa h1
    have HO:=hid ho;rw[h2] at HFS;clear h1 h2 ho hst
    go_wp2_with fail
    refine (HFS.out _).mono ?_;rintro e w1 ⟨rfl,rfl⟩
    go_wp2
    go_ret
    exact ⟨zd (by rw[HF2.out,HO.out];rfl),hbw⟩
   ·have he:=zaa h1
    have HO:=hid ho;rw[h2] at HFS;rw[h3] at HCS;clear h1 h2 h3 ho hst
    go_wp2_with fail
    refine (HFS.out _).mono ?_;rintro e w1 ⟨rfl,rfl⟩
    go_wp2_with fail
    refine (HCS.out _).mono ?_;rintro e w1 ⟨rfl,hb1⟩;have hb2:=hbw.trans (hb1.mono hbw.size);clear hb1
    go_wp2
    go_ret
    exact ⟨zd (by rw[HF2.out,HO.out];rfl),hb2⟩
   ·have he:=zaa h1
    have HO:=hid ho;rw[h2] at HFS;rw[h3] at HCS;rw[decide_eq_false h4] at hst;clear h1 h2 h3 ho h4
    go_wp2_with fail
    refine (HFS.out _).mono ?_;rintro e w1 ⟨rfl,rfl⟩
    go_wp2_with fail
    refine (HCS.out _).mono ?_;rintro e w1 ⟨rfl,hb1⟩;have hb2:=zeL hbx hb1;clear hb1 hbx hbw c0 c1 c2 c3 c4 hz
    go_wp2
    go_roundw
    case rel=>exact ⟨k+1,by omega,by go_num,hid (by rw[HF2.out,HO.out];rfl),hb2⟩
    case measure=>simp[RowKit.intOf];omega
   ·have he:=zaa h1
    have HO:=hid ho;have h1n:decide ((1:Int)<(m.list.length:Int))=true:=decide_eq_true (by omega);rw[h2] at HFS;rw[h3] at HCS;rw[decide_eq_true h4] at hst;clear h1 h2 h3 ho h4
    go_wp2_with fail
    refine (HFS.out _).mono ?_;rintro e w1 ⟨rfl,rfl⟩
    go_wp2_with fail
    refine (HCS.out _).mono ?_;rintro e w1 ⟨rfl,hb1⟩;have hb2:=zeL hbx hb1;obtain ⟨⟨d0,d1,d2,d3,d4⟩,hy⟩:=zc8 hb2;have hb3:=zw hb2;clear hb1 hbx hbw c0 c1 c2 c3 c4 hz hb2
    go_wp2
    go_ret
    exact ⟨zd (by rw[HF2.out,HO.out];rfl),hb3⟩
   ·have he:=zaa h1
    have HO:=hid ho;have h1n:decide ((1:Int)<(m.list.length:Int))=false:=decide_eq_false (by omega);rw[h2] at HFS;rw[h3] at HCS;rw[decide_eq_true h4] at hst;clear h1 h2 h3 ho h4
    go_wp2_with fail
    refine (HFS.out _).mono ?_;rintro e w1 ⟨rfl,rfl⟩
    go_wp2_with fail
    refine (HCS.out _).mono ?_;rintro e w1 ⟨rfl,hb1⟩;have hb2:=zeL hbx hb1;obtain ⟨⟨d0,d1,d2,d3,d4⟩,hy⟩:=zc8 hb2;clear hb1 hbx hbw c0 c1 c2 c3 c4 hz
    go_wp2
    go_roundw
    case rel=>exact ⟨k+1,by omega,by go_num,hid (by rw[HF2.out,HO.out];rfl),hb2⟩
    case measure=>simp[RowKit.intOf];omega
  ·obtain rfl:k=m.list.length:=by omega
   obtain ⟨⟨c0,c1,c2,c3,c4⟩,hz⟩:=zc8 hbx;have hd:=HD.out;rw[zjV] at hd;have HD2:=hid hd;clear hd HD HR HFD HCA
   cases hto:zdf m.value with
   |none=>
    have HTV:=hid (show zc3 m.value=false by rw[HTO.out,hto]);rw[hto] at HTK;unfold zfQ at HTK;dsimp only at HTK;clear hto HTO HEZ
    go_wp2_with fail
    refine (HTK.out _ hbw).mono ?_;rintro e w1 ⟨TA,tc,tl,tx,rfl,_,htx,hb1⟩;have hb2:=zeL hbx hb1;obtain ⟨⟨d0,d1,d2,d3,d4⟩,hy⟩:=zc8 hb2;have hb3:=zw hb2;have htx2:(tx==0)=false:=beq_eq_false_iff_ne.2 htx;clear hb1 hbx hbw c0 c1 c2 c3 c4 hz hb2 htx
    by_cases h1:0<m.list.length
    ·have h1a:decide ((0:Int)<(m.list.length:Int))=true:=decide_eq_true (by omega)
     by_cases h2:0≤m.n
     ·have h2a:decide (0≤m.n)=true:=decide_eq_true h2
      go_wp2_with fail
      go_quiet (fail)
      go_wp2
      go_ret
      exact ⟨zd (by rw[←HD2.out,HTV.out];simp),zeO hb3 _⟩
     ·have h2a:decide (0≤m.n)=false:=decide_eq_false h2
      go_wp2_with fail
      go_quiet (fail)
      go_wp2
      go_ret
      exact ⟨zd (by rw[←HD2.out,HTV.out];simp),zeO hb3 _⟩
    ·have h1a:decide ((0:Int)<(m.list.length:Int))=false:=decide_eq_false (by omega)
     have HL0:=hid h1
     go_wp2_with fail
     go_quiet (fail)
     go_wp2
     go_ret
     exact ⟨zd (by rw[←HD2.out,HTV.out];simp),zeO hb3 _⟩
   |some tl0=>
    have HTV:=hid (show zc3 m.value=decide (zaw tl0=m.value) by rw[HTO.out,hto]);obtain ⟨hz1,hz2⟩:=HEZ.out _ hto;have hvz:=HVZ.out;rw[hto] at HTK;unfold zfQ at HTK;dsimp only at HTK;clear hto HTO HEZ
    go_wp2_with fail
    refine (HTK.out _ hbw).mono ?_;rintro e w1 ⟨TA,tc,tl,tx,rfl,hown,⟨htl,htx⟩,hb1⟩;subst htx;subst htl;have hb2:=zeL hbx hb1;obtain ⟨⟨d0,d1,d2,d3,d4⟩,hy⟩:=zc8 hb2;have hb3:=zw hb2;have HJ:=hid (fun (W:World) (h:Below w1.heap.size w1 W)=>zkM TA tc tl W ((zak hown).below h) (zdq hown) (by omega));clear hb1 hbx hbw c0 c1 c2 c3 c4 hz hown hz1 hz2;generalize zaw tl=js at *
    by_cases h1:0<m.list.length
    ·have h1a:decide ((0:Int)<(m.list.length:Int))=true:=decide_eq_true (by omega)
     have h1b:decide (0<m.list.length)=true:=decide_eq_true h1
     by_cases h2:0≤m.n
     ·have h2a:decide (0≤m.n)=true:=decide_eq_true h2
      have hS:∀W:World,Below w1.heap.size w1 W→(Below w1.heap.size w1 W∧W.cell? ⟨w.heap.size,2,none⟩=some (.string m.value)∧W.cell? ⟨w.heap.size,3,none⟩=some (.slice A m.list.length c)∧W.cell? ⟨w.heap.size,4,none⟩=some (.int .i64 m.n)):=fun W h=>⟨h,(h.cell (p:=⟨w.heap.size,2,none⟩) hy).trans d2,(h.cell (p:=⟨w.heap.size,3,none⟩) hy).trans d3,(h.cell (p:=⟨w.heap.size,4,none⟩) hy).trans d4⟩
      have HS:=hid hS;have HN0:=hid h2a;have HL0:=hid h1b;clear hS HTK;have HFIN:(js.toList==m.value.toList)=decide (js=m.value):=by
       rw[←zi0 js m.value,Lib.toList_data m.value]
      cases hj:decide (js=m.value)
      all_goals
       rw[hj] at HFIN HTV
       go_wp2_with fail
       go_region_held3 (fun w'=>Below w1.heap.size w1 w'∧w'.cell? ⟨w.heap.size,2,none⟩=some (.string m.value)∧w'.cell? ⟨w.heap.size,3,none⟩=some (.slice A m.list.length c)∧w'.cell? ⟨w.heap.size,4,none⟩=some (.int .i64 m.n))
        (first|exact HS.out _ (Below.refl _ _)|exact HS.out _ (zhj (Below.refl _ _))|exact HS.out _ (zmj (zhj (Below.refl _ _)) hbj (by simp))|(go_split_ands;exact HS.out _ (zmj (by assumption) hbj (by simp))))
        (first|(go_at_call 96;((with_reducible refine (HJ.out _ (by first|exact zhj (Below.refl _ _)|(go_split_ands;assumption))).mono ?_);rintro e w' ⟨rfl,hbj⟩)))
       go_wp2
       go_ret
       exact ⟨zd (by rw[←HD2.out,HN0.out,HL0.out,HTV.out];rfl),hb3.trans (Below.mono (by first|exact (zhj (Below.refl _ _)).trans (hbj.mono (by simp))|(go_split_ands;assumption)) hb3.size)⟩
     ·have h2a:decide (0≤m.n)=false:=decide_eq_false h2
      have HN0:=hid h2a
      go_wp2_with fail
      go_quiet (fail)
      go_wp2
      go_ret
      exact ⟨zd (by rw[←HD2.out,HN0.out];simp),zeO hb3 _⟩
    ·have h1a:decide ((0:Int)<(m.list.length:Int))=false:=decide_eq_false (by omega)
     have HL0:=hid (show decide (0<m.list.length)=false from decide_eq_false h1)
     go_wp2_with fail
     go_quiet (fail)
     go_wp2
     go_ret
     exact ⟨zd (by rw[←HD2.out,HL0.out];simp),zeO hb3 _⟩
def zmD:Array Value:=#[.int .i64 3,.func (.func 53) #[] #[],.func (.func 56) #[] #[],
 .int .i64 3,.func (.func 53) #[] #[],.func (.func 57) #[] #[],
 .int .i64 1,.func (.func 58) #[] #[],.func (.func 59) #[] #[],
 .int .i64 4,.func (.func 60) #[] #[],.func (.func 62) #[] #[],
 .int .i64 8,.func (.func 63) #[] #[],.func (.func 64) #[] #[],
 .int .i64 2,.func (.func 65) #[] #[],.func (.func 67) #[] #[],
 .int .i64 5,.func (.func 68) #[] #[],.func (.func 69) #[] #[],
 .int .i64 14,.func (.func 70) #[] #[],.func (.func 71) #[] #[],
 .int .i64 2,.func (.func 72) #[] #[],.func (.func 73) #[] #[],
 .int .i64 4,.func (.func 74) #[] #[],.func (.func 75) #[] #[]]
set_option maxRecDepth 20000 in
theorem ziF (w:World):
  Calls Tryz.prog 35 #[] w fun e w'=>e= .returned (.slice (some ⟨w.heap.size,0,none⟩) 10 10)∧w'=w.alloc (.cells zmD 76):=by
 go_enter Tryz.func35,Tryz.ntmps35
 go_wp2
 go_ret
 exact ⟨rfl,rfl⟩
theorem ziu (u b:Int) (t:Bool) (B:Nat) (w:World) (z:Bool) (hu:(bits .and .i64 u b !=0)=t) (hc:w.cell? ⟨B,0,none⟩=some (.int .i64 u)):
  Calls Tryz.prog 52 #[.int .i64 b,.bool z,.pointer (some ⟨B,0,none⟩)] w fun e w'=>e= .returned (.bool (t||z))∧w=w':=by
 cases t
 ·go_enter Tryz.func52,Tryz.ntmps52
  go_wp2
  go_ret
  exact ⟨by simp,rfl⟩
 ·go_enter Tryz.func52,Tryz.ntmps52
  go_wp2
  go_ret
  exact ⟨rfl,rfl⟩
theorem zq0 (m:zY) (A:Option Addr) (c:Nat) (w:World) (hr:Row w A (m.list.map .string)) (hc:m.list.length≤c) (hm:zaY m) (hg:Glob w):
  Calls Tryz.prog 60 #[zL m A c] w fun e w'=>e= .returned (.bool (zcw [] m.list&&decide (0<m.list.length)))∧Below w.heap.size w w':=by
 have hb0:∀o,Below w.heap.size w (w.alloc o):=fun o=>(Below.refl _ w).alloc (Nat.le_refl _) o
 have HT:=hid (fun o=>zlG A c m.list (w.alloc o) (hr.alloc o) hc (zcD hm.list).2.1 (fun s hs=>zhh hm.list hs) (hg.beyond (hb0 o)));clear hb0;unfold zL
 go_enter Tryz.func60,Tryz.ntmps60
 go_wp2_with fail
 refine (HT.out _).mono ?_;rintro e w1 ⟨rfl,rfl⟩
 go_wp2
 go_ret
 exact ⟨rfl,(Below.refl _ w).alloc (Nat.le_refl _) _⟩
theorem zqu (m:zY) (A:Option Addr) (c:Nat) (w:World) (hm:zaY m) (hg:zdF w):
  Calls Tryz.prog 65 #[zL m A c] w fun e w'=>e= .returned (.bool (zaZ m.value))∧Below w.heap.size w w':=by
 have HT:=hid (fun o=>znh m.value (w.alloc o) hm.value (hg.beyond ((Below.refl _ w).alloc (Nat.le_refl _) o)));unfold zL
 go_enter Tryz.func65,Tryz.ntmps65
 go_wp2_with fail
 refine (HT.out _).mono ?_;rintro e w1 ⟨rfl,b1⟩;have hbw:=zbL b1 rfl;clear b1
 go_wp2
 go_ret
 exact ⟨rfl,hbw⟩
def zih (t1 t2 t3 t4:Bool) (m:zY):Bool:=(t1||decide (m.name.size=0))&&((t2||decide (m.value.size=0))&&((t3||decide (m.list.length=0))&&(t4||decide (m.n=0))))
def zaq (b:Bool):Int:=if b=true then 0 else 190
set_option maxRecDepth 20000 in
set_option maxHeartbeats 4000000 in
theorem zci (m:zY) (A:Option Addr) (c:Nat) (w:World) (j:Nat) (hj:j<10) (hk:m.kind=(j:Int)+1) (u:Int) (rg dg:FuncId) (t1 t2 t3 t4 rb:Bool)
  (h0:zmD[j*3]?=some (.int .i64 u)) (h1:zmD[j*3+1]?=some (.func (.func rg) #[] #[])) (h2:zmD[j*3+2]?=some (.func (.func dg) #[] #[]))
  (u1:(bits .and .i64 u 1!=0)=t1) (u2:(bits .and .i64 u 2!=0)=t2) (u3:(bits .and .i64 u 4!=0)=t3) (u4:(bits .and .i64 u 8!=0)=t4)
  (he:∀args w,(callFunc rg args).run Tryz.prog w= .ok (.enter rg args) w)
  (hR:∀W,Below w.heap.size w W→Calls Tryz.prog rg #[zL m A c] W fun e w'=>e= .returned (.bool rb)∧Below W.heap.size W w'):
  Calls Tryz.prog 34 #[zL m A c] w fun e w'=>e= .returned (.int .i64 (zaq (zih t1 t2 t3 t4 m&&rb)))∧Below w.heap.size w w':=by
 have hmf:∀(fn:Fn) (first cap:Array Value) (w:World),(Instr.makeFunc fn first cap).run Tryz.prog w= .ok (.func fn first cap) w:=fun _ _ _ _=>rfl
 have HW:=hid ziF;have HR:=hid hR;have HC:=hid (And.intro h0 (And.intro h1 h2));have hzn:=zo m.name;have hzv:=zo m.value;have hzl:((m.list.length:Int)==0)=decide (m.list.length=0):=by rw[Bool.eq_iff_iff];simp
 have hzn4:(m.n==0)=decide (m.n=0):=by rw[Bool.eq_iff_iff];simp
 have HBB:=hid (show zih t1 t2 t3 t4 m=((t1||decide (m.name.size=0))&&((t2||decide (m.value.size=0))&&((t3||decide (m.list.length=0))&&(t4||decide (m.n=0))))) from rfl);generalize decide (m.name.size=0)=z1 at *;generalize decide (m.value.size=0)=z2 at *;generalize decide (m.list.length=0)=z3 at *;generalize decide (m.n=0)=z4 at *;have HU1:=hid (fun B w=>ziu u 1 t1 B w z1 u1);have HU2:=hid (fun B w=>ziu u 2 t2 B w z2 u2);have HU3:=hid (fun B w=>ziu u 4 t3 B w z3 u3);have HU4:=hid (fun B w=>ziu u 8 t4 B w z4 u4);generalize (t1||z1)=b1 at *;generalize (t2||z2)=b2 at *;generalize (t3||z3)=b3 at *;generalize (t4||z4)=b4 at *;have hk1:(1:Int)≤m.kind:=by omega
 have hk2:m.kind≤10:=by omega
 have hkw:m.kind - 1=(j:Int):=by omega
 have hji:(j:Int)<10:=by omega
 clear h0 h1 h2 u1 u2 u3 u4 hR hk;unfold zL at *
 go_enter Tryz.func34,Tryz.ntmps34
 go_wp2_with fail
 refine (HW.out _).mono ?_;rintro e w1 ⟨rfl,hw1⟩;have hbx:Below (w.heap.size+1) (w.alloc (.cells #[.int .i64 m.kind,.string m.name,.string m.value,.slice A m.list.length c,.int .i64 m.n] 24)) w1:=by
  rw[hw1];exact (Below.refl _ _).alloc (by simp) _
 obtain ⟨⟨c0,c1,c2,c3,c4⟩,hz⟩:=zc8 hbx;have hT:∀i,w1.cell? ⟨w.heap.size+1,i,none⟩=zmD[i]?:=fun i=>by
  rw[hw1];exact World.cell?_alloc_at _ _ _ _ (by simp)
 have k0:=(hT (j*3)).trans HC.out.1;have k1:=(hT (j*3+1)).trans HC.out.2.1;have k2:=(hT (j*3+2)).trans HC.out.2.2;have hz1:w.heap.size+1<w1.heap.size:=by rw[hw1];simp
 clear hT hw1;have hbw:=hbx.trans ((Below.refl _ w1).alloc (by omega) (.cells #[.int .i64 u,.func (.func rg) #[] #[],.func (.func dg) #[] #[]] 76));have hbw2:=zw hbw;have HRR:=hid (HR.out _ hbw2)
 cases b1
 ·have HX:=hid (show zih t1 t2 t3 t4 m=false by rw[HBB.out];rfl)
  go_wp2_with fail
  refine (HU1.out _ _ (by simp)).mono ?_;rintro e w2 ⟨rfl,rfl⟩
  go_wp2
  go_ret
  exact ⟨zp (by rw[HX.out];rfl),hbw2⟩
 ·cases b2
  ·have HX:=hid (show zih t1 t2 t3 t4 m=false by rw[HBB.out];rfl)
   go_wp2_with fail
   refine (HU1.out _ _ (by simp)).mono ?_;rintro e w2 ⟨rfl,rfl⟩
   go_wp2_with fail
   refine (HU2.out _ _ (by simp)).mono ?_;rintro e w2 ⟨rfl,rfl⟩
   go_wp2
   go_ret
   exact ⟨zp (by rw[HX.out];rfl),hbw2⟩
  ·cases b3
   ·have HX:=hid (show zih t1 t2 t3 t4 m=false by rw[HBB.out];rfl)
    go_wp2_with fail
    refine (HU1.out _ _ (by simp)).mono ?_;rintro e w2 ⟨rfl,rfl⟩
    go_wp2_with fail
    refine (HU2.out _ _ (by simp)).mono ?_;rintro e w2 ⟨rfl,rfl⟩
    go_wp2_with fail
    refine (HU3.out _ _ (by simp)).mono ?_;rintro e w2 ⟨rfl,rfl⟩
    go_wp2
    go_ret
    exact ⟨zp (by rw[HX.out];rfl),hbw2⟩
   ·cases b4
    ·have HX:=hid (show zih t1 t2 t3 t4 m=false by rw[HBB.out];rfl)
     go_wp2_with fail
     refine (HU1.out _ _ (by simp)).mono ?_;rintro e w2 ⟨rfl,rfl⟩
     go_wp2_with fail
     refine (HU2.out _ _ (by simp)).mono ?_;rintro e w2 ⟨rfl,rfl⟩
     go_wp2_with fail
     refine (HU3.out _ _ (by simp)).mono ?_;rintro e w2 ⟨rfl,rfl⟩
     go_wp2_with fail
     refine (HU4.out _ _ (by simp)).mono ?_;rintro e w2 ⟨rfl,rfl⟩
     go_wp2
     go_ret
     exact ⟨zp (by rw[HX.out];rfl),hbw2⟩
    ·have HX:=hid (show zih t1 t2 t3 t4 m=true by rw[HBB.out];rfl)
     cases rb
     all_goals
      go_wp2_with fail
      refine (HU1.out _ _ (by simp)).mono ?_;rintro e w2 ⟨rfl,rfl⟩
      go_wp2_with fail
      refine (HU2.out _ _ (by simp)).mono ?_;rintro e w2 ⟨rfl,rfl⟩
      go_wp2_with fail
      refine (HU3.out _ _ (by simp)).mono ?_;rintro e w2 ⟨rfl,rfl⟩
      go_wp2_with fail
      refine (HU4.out _ _ (by simp)).mono ?_;rintro e w2 ⟨rfl,rfl⟩
      go_wp2_with fail
      refine HRR.out.mono ?_;rintro e w2 ⟨rfl,hb2⟩;have hb3:=hbw2.trans (hb2.mono hbw2.size);clear hb2
      go_wp2
      go_ret
      exact ⟨zp (by rw[HX.out];rfl),hb3⟩
theorem zvN:zao 404=⟨#[78,111,116,32,70,111,117,110,100,10]⟩:=by
 have h:za6 404=⟨#[78,111,116,32,70,111,117,110,100]⟩:=by decide +kernel
 unfold zao zel;rw[h]
 decide +kernel
theorem zqP (a b c d:Value) (w:World):(Instr.field 29 (.agg #[a,b,c,d]) 3).run Tryz.prog w= .ok d w:=by
 simp[Instr.field,go_sem]
 rfl
set_option maxRecDepth 20000 in
set_option maxHeartbeats 4000000 in
theorem zr8 (w:World) (hg:zdF w):
  Calls Tryz.prog 8 #[] w fun e w'=>e= .returned (.bool true)∧Below w.heap.size w w':=by
 have heq:∀w:World,(binOp .eql 59 (.agg #[.string ⟨#[88]⟩,.string ⟨#[49]⟩]) (.agg #[.string ⟨#[88]⟩,.string ⟨#[49]⟩])).run Tryz.prog w= .ok (.bool true) w:=fun _=>by kernel_rfl
 have HP:=hid (fun (w1:World) (hb:Below w.heap.size w w1)=>zdV 404 none 0 [] w1 (Row.nil _ _) (by decide) (by decide) (by decide) (hg.beyond hb));rw[zvN] at HP;have HR:=hid zvT;have hg':=hg.g;have hfd:=zqP
 go_enter Tryz.func8,Tryz.ntmps8
 go_wp2_with fail
 have b0:Below w.heap.size w (w.alloc (.cells #[.int .i64 1,.string ⟨#[88]⟩,.string ⟨#[49]⟩,.slice none 0 0,.int .i64 0] 24)):=(Below.refl _ w).alloc (Nat.le_refl _) _;refine (HR.out _ w.heap.size (hg'.beyond b0) (by simp) (by simp) (by simp) (by simp) (by simp) (by simp)).mono ?_;rintro e w1 ⟨A1,c1,rfl,ow,b1⟩;have hb1:Below w.heap.size w w1:=b0.trans (b1.mono (by simp));obtain ⟨b,off,rfl,hbl,k0,k1⟩:=(zak ow).pair (k:=0) rfl;simp only[Nat.zero_mul,Nat.add_zero] at k0 k1;have hc1:=zdq ow;have hl1:([(⟨#[88]⟩,⟨#[49]⟩)]:List Fl).length=1:=rfl;simp only[hl1] at hc1;clear b0 b1 ow hl1
 go_wp2_with fail
 have hb2:=hb1.alloc hb1.size (.cells #[.int .i64 200,.string ⟨#[]⟩,.slice (some ⟨b,off,none⟩) 1 c1,.string ⟨#[]⟩] 29);refine (HP.out _ hb2).mono ?_;rintro e w2 ⟨A2,c2,rfl,_,b2⟩;have hb3:=hb2.trans (b2.mono hb2.size);clear b2 hb2
 go_wp2
 go_ret
 exact ⟨rfl,hb3⟩
set_option maxRecDepth 20000 in
theorem zhi (A:Option Addr) (c:Nat) (zs:List ByteArray) (x:ByteArray) (w:World) (hr:Row w A (zs.map .string)) (hl:zs.length≤1099511627776):
  Calls Tryz.prog 41 #[.slice A zs.length c,.string x] w fun e w'=>e= .returned (.bool (zb5 zs x))∧w=w':=by
 go_enter Tryz.func41,Tryz.ntmps41
 go_wp2
 go_loop [5] (fun i=>∃k:Nat,k≤zs.length∧i= .int .i64 k∧∀(j:Nat) y,j<k→zs[j]?=some y→y≠x) (fun i=>zs.length - (RowKit.intOf i).toNat)
 case atStart=>exact ⟨0,by omega,rfl,fun j y h _=>by omega⟩
 case round=>
  obtain ⟨k,hk,rfl,hno⟩:=hrel;have HN:=hid hno;clear hno
  by_cases hlt:k<zs.length
  ·obtain ⟨y,hy⟩:=zD hlt
   obtain ⟨b,off,rfl,hb,h0⟩:=hr.str hy;have HY:=hid hy;clear hy
   by_cases he:y=x
   ·have hc:(y.toList==x.toList)=true:=by rw[zaj];exact decide_eq_true he
    have HR:=hid (show zb5 zs x=true from zkp.2 (he▸List.mem_of_getElem? HY.out));clear he
    go_wp2
    go_ret
    exact ⟨zd HR.out.symm,rfl⟩
   ·have hc:(y.toList==x.toList)=false:=by rw[zaj];exact decide_eq_false he
    have HE:=hid he;clear he
    go_wp2
    go_round
    case rel=>exact ⟨k+1,by omega,by go_num,fun j z h hz=>by
     by_cases e:j=k
     ·subst e
      have:=HY.out.symm.trans hz;injection this with this;rw[←this];exact HE.out
     ·exact HN.out j z (by omega) hz⟩
    case measure=>simp[RowKit.intOf];omega
  ·obtain rfl:k=zs.length:=by omega
   have HR:=hid (show zb5 zs x=false by
    cases h:zb5 zs x
    ·rfl
    ·have:=zkp.1 h
     obtain ⟨j,hj,he⟩:=List.getElem_of_mem this;exact absurd he (HN.out j _ hj (List.getElem?_eq_getElem hj)))
   go_wp2
   go_ret
   exact ⟨zd HR.out.symm,rfl⟩
def zhq (t:ByteArray) (c:Int):Bool:=!zb3 (fun b=>!decide (b=c)) t
def znX:ByteArray:=⟨#[32,9,44]⟩
theorem zsI (c:Int):zhq znX c=zcW c:=by
 by_cases h:zcW c=true
 ·rw[h]
  unfold zcW at h;simp only[Bool.or_eq_true,decide_eq_true_eq] at h;unfold zhq
  rcases h with (h|h)|h
  ·rw[zaB (k:=0) (by decide) (by subst h;decide +kernel)];rfl
  ·rw[zaB (k:=1) (by decide) (by subst h;decide +kernel)];rfl
  ·rw[zaB (k:=2) (by decide) (by subst h;decide +kernel)];rfl
 ·have h':zcW c=false:=by simpa using h
  rw[h'];unfold zcW at h';simp only[Bool.or_eq_false_iff,decide_eq_false_iff_not] at h';unfold zhq;have h0:(fun b:Int=>!decide (b=c)) (bt znX 0)=true:=by
   show (!decide ((32:Int)=c))=true;rw[decide_eq_false (fun e=>h'.1.1 e.symm)];rfl
  have h1:(fun b:Int=>!decide (b=c)) (bt znX 1)=true:=by
   show (!decide ((9:Int)=c))=true;rw[decide_eq_false (fun e=>h'.1.2 e.symm)];rfl
  have h2:(fun b:Int=>!decide (b=c)) (bt znX 2)=true:=by
   show (!decide ((44:Int)=c))=true;rw[decide_eq_false (fun e=>h'.2 e.symm)];rfl
  have hz:zbx (fun b:Int=>!decide (b=c)) znX znX.size:=((zbx.zero _ _).succ h0).succ h1 |>.succ h2;rw[zaU hz]
  rfl
set_option maxRecDepth 20000 in
set_option maxHeartbeats 1000000 in
theorem ztt (s t:ByteArray) (w:World) (hs:s.size≤1099511627776) (ht:t.size≤1099511627776):
  Calls Tryz.prog 121 #[.string s,.string t] w fun e w'=>e= .returned (.bool (!zb3 (fun c=>!zhq t c) s))∧∃n,w'=w.drewN n:=by
 go_enter Tryz.func121,Tryz.ntmps121
 go_wp2
 go_loopw [5] (fun i wr=>∃(k q:Nat),k≤s.size∧i= .int .i64 k∧wr=w.drewN q∧zbx (fun c=>!zhq t c) s k) (fun i _=>s.size - (RowKit.intOf i).toNat)
 case atStart=>exact ⟨0,0,by omega,rfl,rfl,zbx.zero _ _⟩
 case round=>
  obtain ⟨k,q,hk,rfl,rfl,hall⟩:=hrel;have HALL:=hid hall;clear hall
  by_cases hlt:k<s.size
  ·have hb:=@zE s k hlt
   have hki:(k:Int)<(s.size:Int):=by omega
   go_wp2
   go_loopw [6] (fun i wr=>∃(j p:Nat),j≤t.size∧i= .int .i64 j∧wr=w.drewN p∧zbx (fun b=>!decide (b=bt s k)) t j) (fun i _=>t.size - (RowKit.intOf i).toNat)
   case atStart=>exact ⟨0,q,by omega,rfl,rfl,zbx.zero _ _⟩
   case round=>
    obtain ⟨j,p,hj,rfl,rfl,hin⟩:=hrel;have HIN:=hid hin;clear hin
    by_cases hjt:j<t.size
    ·have hb2:=@zE t j hjt
     have hji:(j:Int)<(t.size:Int):=by omega
     by_cases hc:bt t j=bt s k
     ·have hcc:(bt s k==bt t j)=true:=by rw[hc];simp
      have HM:=hid (show (!zb3 (fun c=>!zhq t c) s)=true by
       rw[zaB hlt (by
        unfold zhq;rw[zaB hjt (by simp[hc])]
        rfl)]
       rfl)
      clear hc
      go_wp2_with fail
      go_quiet (fail)
      go_wp2
      go_ret
      exact ⟨zd HM.out.symm,_,by rw[World.drewN_drewN]⟩
     ·have hcc:(bt s k==bt t j)=false:=by rw[beq_eq_false_iff_ne];exact fun e=>hc e.symm
      have HC:=hid hc;clear hc
      go_wp2_with fail
      go_quiet (fail)
      go_wp2
      go_roundw
      case rel=>exact ⟨j+1,_,by omega,by go_num,rfl,HIN.out.succ (by simpa using HC.out)⟩
      case measure=>simp[RowKit.intOf];omega
    ·obtain rfl:j=t.size:=by omega
     have HS:=hid (show zbx (fun c=>!zhq t c) s (k+1) from HALL.out.succ (by
      unfold zhq;rw[zaU HIN.out]
      rfl))
     go_wp2
     go_roundw
     case rel=>exact ⟨k+1,p,by omega,by go_num,rfl,HS.out⟩
     case measure=>simp[RowKit.intOf];omega
  ·obtain rfl:k=s.size:=by omega
   have HR:=hid (zaU HALL.out)
   go_wp2
   go_ret
   exact ⟨zd (by rw[HR.out];rfl),q,rfl⟩
set_option maxRecDepth 20000 in
set_option maxHeartbeats 2000000 in
theorem zgE (r:Rq) (FA:Option Addr) (fc:Nat) (TA:Option Addr) (tc:Nat) (name:ByteArray) (w:World) (hr:Row w FA (zj r.fields)) (hf:zcO r) (hn:name.size≤maxLen):
  Calls Tryz.prog 47 #[rqV r FA fc TA tc,.string name] w fun e w'=>e= .returned (zbO (zaD r.fields name))∧Below w.heap.size w w':=by
 have hl:r.fields.length≤4398046511104:=by have:=zib r.fields;have:=hf.fields;omega
 have HA:=hid (fun (w':World) (hb:Below w.heap.size w w')=>zlA FA fc r.fields name w' (hr.below hb) hl (zha hf.fields) hn);have hlen:=Nat.le_trans (zed r.fields name) hl;unfold rqV zaD;clear hl
 cases hV:za9 r.fields name with
 |nil=>
  rw[hV] at HA;clear hV hlen
  go_enter Tryz.func47,Tryz.ntmps47
  go_wp2_with fail
  refine (HA.out _ ((Below.refl _ w).alloc (Nat.le_refl _) _)).mono ?_;rintro e w1 ⟨A1,c1,rfl,_,b1⟩;have hbw:=zbL b1 rfl;clear b1
  go_wp2
  go_ret2
  exact ⟨rfl,hbw⟩
 |cons v vs=>
  rw[hV] at HA hlen;simp only[List.length_cons] at hlen;clear hV
  cases vs with
  |nil=>
   go_enter Tryz.func47,Tryz.ntmps47
   go_wp2_with fail
   refine (HA.out _ ((Below.refl _ w).alloc (Nat.le_refl _) _)).mono ?_;rintro e w1 ⟨A1,c1,rfl,own,b1⟩;obtain ⟨b,off,rfl,_,hc⟩:=(zak own).str (k:=0) (x:=v) rfl;have hbw:=zbL b1 rfl;clear b1 own;rw[Nat.add_zero] at hc
   go_wp2
   go_ret2
   exact ⟨rfl,hbw⟩
  |cons u vs=>
   have hne:((vs.length:Int)+1+1!=1)=true:=by simp;omega
   go_enter Tryz.func47,Tryz.ntmps47
   go_wp2_with fail
   refine (HA.out _ ((Below.refl _ w).alloc (Nat.le_refl _) _)).mono ?_;rintro e w1 ⟨A1,c1,rfl,_,b1⟩;have hbw:=zbL b1 rfl;clear b1;rw[List.length_cons,List.length_cons]
   go_wp2
   go_ret2
   exact ⟨rfl,hbw⟩
theorem zfi {w w1:World} {o:Obj} (h:Below (w.alloc o).heap.size (w.alloc o) w1):Below (w.heap.size+1) (w.alloc o) w1:=by simpa using h
def zgW (s:ByteArray):Nat→Bool
 |0=>true
 |k+1=>zgW s k&&!zeb (bt s k)
def zdx (s:ByteArray):Nat→Int
 |0=>-1
 |k+1=>if bt s k=58∧zdx s k<0 then (k:Int) else zdx s k
theorem zkK (s:ByteArray):∀k,zgW s k=true↔zbx (fun c=>!zeb c) s k
 |0=>⟨fun _=>zbx.zero _ _,fun _=>rfl⟩
 |k+1=>by
  have ih:=zkK s k;show (zgW s k&&!zeb (bt s k))=true↔_;rw[Bool.and_eq_true,ih];exact ⟨fun h=>h.1.succ h.2,fun h=>⟨fun j hj=>h j (by omega),h k (by omega)⟩⟩
theorem zsp (s:ByteArray):zgW s s.size=zb3 (fun c=>!zeb c) s:=by
 cases h:zgW s s.size
 ·cases h2:zb3 (fun c=>!zeb c) s
  ·rfl
  ·have:=(zkK s s.size).2 (zrm h2)
   rw[h] at this
   cases this
 ·rw[zaU ((zkK s s.size).1 h)]
theorem zlo (s:ByteArray):∀k,(zdx s k=-1∧∀j,j<k→bt s j≠58)∨∃j:Nat,j<k∧zdx s k=j∧bt s j=58∧∀i,i<j→bt s i≠58
 |0=>.inl ⟨rfl,fun j h=>by omega⟩
 |k+1=>by
  rcases zlo s k with ⟨h1,h2⟩|⟨j,h1,h2,h3,h4⟩
  ·by_cases h:bt s k=58
   ·refine .inr ⟨k,by omega,?_,h,h2⟩
    show (if bt s k=58∧zdx s k<0 then (k:Int) else zdx s k)=k;rw[if_pos ⟨h,by omega⟩]
   ·refine .inl ⟨?_,fun j hj=>?_⟩
    ·show (if bt s k=58∧zdx s k<0 then (k:Int) else zdx s k)=-1
     rw[if_neg (fun g=>h g.1),h1]
    ·by_cases e:j=k
     ·subst e;exact h
     ·exact h2 j (by omega)
  ·refine .inr ⟨j,by omega,?_,h3,h4⟩
   show (if bt s k=58∧zdx s k<0 then (k:Int) else zdx s k)=j;rw[if_neg (fun g=>by omega),h2]
theorem zqm (s:ByteArray):zdx s s.size=za7 s 58:=by
 rcases zlo s s.size with ⟨h1,h2⟩|⟨j,h1,h2,h3,h4⟩
 ·rw[h1,zhy (fun i _ hi=>by have:=h2 i (by omega);simpa using this)]
 ·rw[h2,zj9 (fun i _ hi=>by have:=h4 i (by omega);simpa using this) h1 h3]
theorem ztA (s:ByteArray):zbJ s=(zgW s s.size&&decide (0<zdx s s.size)):=by
 unfold zbJ;rw[zsp,zqm,Bool.and_comm]
 congr 1
theorem zuC {s:ByteArray} {k:Nat} (h:¬(bt s k=58∧zdx s k<0)):zdx s (k+1)=zdx s k:=if_neg h
theorem zqE {s:ByteArray} {k:Nat} (h1:bt s k=58) (h2:zdx s k<0):zdx s (k+1)=k:=if_pos ⟨h1,h2⟩
theorem zdi {m:zY} (hm:zaY m):m.list.length≤1048576∧∀s∈m.list,s.size≤1048576:=by
 have h:=hm.list;have key:∀l:List ByteArray,l.length≤(l.map fun s=>s.size+1).sum∧∀s∈l,s.size≤(l.map fun s=>s.size+1).sum:=by
  intro l
  induction l with
  |nil=>exact ⟨Nat.le_refl _,fun s hs=>by cases hs⟩
  |cons x l ih=>
   rw[List.map_cons,List.sum_cons,List.length_cons];refine ⟨by omega,fun s hs=>?_⟩
   rcases List.mem_cons.1 hs with rfl|hs
   ·omega
   ·have:=ih.2 s hs;omega
 have:=key m.list;exact ⟨by omega,fun s hs=>by have:=this.2 s hs;omega⟩
def zbX (P:ByteArray→Bool) (l:List ByteArray):Bool:=l.all P&&decide (0<l.length)
theorem zgN {P:ByteArray→Bool} {l:List ByteArray} (h:l.length=0):zbX P l=false:=by unfold zbX;rw[h];simp
theorem zc6 {P:ByteArray→Bool} {l:List ByteArray} {k:Nat} {s:ByteArray} (hs:l[k]?=some s) (hp:P s=false):zbX P l=false:=by
 unfold zbX;have:l.all P=false:=by
  rw[List.all_eq_false];exact ⟨s,List.mem_of_getElem? hs,by rw[hp];decide⟩
 rw[this];rfl
theorem zis {P:ByteArray→Bool} {l:List ByteArray} {k:Nat} {s:ByteArray} (hs:l[k]?=some s) (hp:P s=true) (h:(l.take k).all P=true):(l.take (k+1)).all P=true:=by
 rw[zb6 hs,List.all_append,h,List.all_cons,hp];rfl
theorem zkL {P:ByteArray→Bool} {l:List ByteArray} (h0:¬l.length=0) (h:(l.take l.length).all P=true):zbX P l=true:=by
 rw[List.take_length] at h;unfold zbX;rw[h,decide_eq_true (by omega)];rfl
set_option maxRecDepth 20000 in
set_option maxHeartbeats 4000000 in
theorem zqt (m:zY) (A:Option Addr) (c:Nat) (w:World) (hk:m.kind=4) (hr:Row w A (m.list.map .string)) (hc:m.list.length≤c) (hm:zaY m):
  Calls Tryz.prog 82 #[zL m A c] w fun e w'=>e= .returned (.bool (zcw [] m.list&&decide (0<m.list.length)))∧Below w.heap.size w w':=by
 obtain ⟨hlen,hsz⟩:=zdi hm;have HSZ:=hid hsz;clear hsz hm;unfold zL;rw[hk];clear hk
 by_cases h0:m.list.length=0
 ·have HR:=hid (show (zcw [] m.list&&decide (0<m.list.length))=false from by rw[decide_eq_false (show ¬0<m.list.length by omega),Bool.and_false])
  have hli:(m.list.length:Int)=0:=by omega
  clear h0
  go_enter Tryz.func82,Tryz.ntmps82
  go_wp2
  go_ret
  exact ⟨zd HR.out.symm,(Below.refl _ w).alloc (Nat.le_refl _) _⟩
 ·have hne:((m.list.length:Int)==0)=false:=beq_eq_false_iff_ne.2 (by omega)
  have hcl:(m.list.length:Int)≤c:=by omega
  have HR:=hid hr;have HB:=hid (show Below w.heap.size w (w.alloc (.cells #[.int .i64 4,.string m.name,.string m.value,.slice A m.list.length c,.int .i64 m.n] 65)) from (Below.refl _ w).alloc (Nat.le_refl _) _);clear hr;have H0:=hid h0;clear h0;generalize m.list=l at *
  go_enter Tryz.func82,Tryz.ntmps82
  go_wp2
  go_loop [3] (fun i=>∃k:Nat,k≤l.length∧i= .int .i64 k∧Hid (zcw (l.take k) (l.drop k)=zcw [] l)) (fun i=>l.length - (RowKit.intOf i).toNat)
  case atStart=>exact ⟨0,by omega,rfl,hid rfl⟩
  case round=>
   obtain ⟨k,hk,rfl,HA⟩:=hrel
   by_cases hlt:k<l.length
   ·obtain ⟨s,hs⟩:=zD hlt
    obtain ⟨b,off,rfl,hb,hcell⟩:=HR.out.str hs;have hsz:s.size≤1048576:=HSZ.out s (List.mem_of_getElem? hs);have hki:(k:Int)<(l.length:Int):=by omega
    have HX:=hid hs;clear hs;have HT:=hid (fun w=>zeV s w (by unfold maxLen;omega));have HC:=hid (fun W (h:Row W (some ⟨b,off,none⟩) ((l.take k).map .string))=>(show Calls Tryz.prog 41 #[.slice (some ⟨b,off,none⟩) k c,.string s] W fun e w'=>e= .returned (.bool (zb5 (l.take k) s))∧W=w' by
     have h:=zhi (some ⟨b,off,none⟩) c (l.take k) s W h (by rw[zh4 hk];omega);rw[zh4 hk] at h;exact h))
    have HRW:=hid (HR.out.upto k);have hkc:k≤c:=by omega
    have HF:=hid (zoj HX.out)
    cases h1:zbn s
    ·have HP:=hid (show zcw [] l=false by rw[←HA.out,HF.out,h1];rfl)
     rw[h1] at HT
     go_wp2_with fail
     refine (HT.out _).mono ?_;rintro e w1 ⟨rfl,rfl⟩
     go_wp2
     go_ret
     exact ⟨zd (by rw[HP.out];rfl),HB.out⟩
    ·rw[h1] at HT
     go_wp2_with fail
     refine (HT.out _).mono ?_;rintro e w1 ⟨rfl,rfl⟩
     cases h2:zb5 (l.take k) s
     ·have HP:=hid (show zcw (l.take (k+1)) (l.drop (k+1))=zcw [] l by rw[←HA.out,HF.out,h1,h2];rfl)
      rw[h2] at HC
      go_wp2_with fail
      refine (HC.out _ (HRW.out.alloc _)).mono ?_;rintro e w1 ⟨rfl,rfl⟩
      go_wp2
      go_round
      case rel=>exact ⟨k+1,by omega,by go_num,HP⟩
      case measure=>simp[RowKit.intOf];omega
     ·have HP:=hid (show zcw [] l=false by rw[←HA.out,HF.out,h1,h2];rfl)
      rw[h2] at HC
      go_wp2_with fail
      refine (HC.out _ (HRW.out.alloc _)).mono ?_;rintro e w1 ⟨rfl,rfl⟩
      go_wp2
      go_ret
      exact ⟨zd (by rw[HP.out];rfl),HB.out⟩
   ·obtain rfl:k=l.length:=by omega
    have HD:=hid (show (zcw [] l&&decide (0<l.length))=true by rw[←HA.out,zml,decide_eq_true (Nat.pos_of_ne_zero H0.out)];rfl)
    go_wp2
    go_ret
    exact ⟨zd HD.out.symm,HB.out⟩
set_option maxRecDepth 20000 in
set_option maxHeartbeats 4000000 in
theorem zp5 (m:zY) (A:Option Addr) (c:Nat) (w:World) (hk:m.kind=8) (hr:Row w A (m.list.map .string)) (hc:m.list.length≤c) (hm:zaY m):
  Calls Tryz.prog 82 #[zL m A c] w fun e w'=>e= .returned (.bool (zbX (zai m.list.length) m.list))∧Below w.heap.size w w':=by
 obtain ⟨hlen,hsz⟩:=zdi hm;have HSZ:=hid hsz;clear hsz hm;unfold zL;rw[hk];clear hk
 by_cases h0:m.list.length=0
 ·have HR:=hid (show (zbX (zai m.list.length) m.list)=false from zgN h0)
  have hli:(m.list.length:Int)=0:=by omega
  clear h0
  go_enter Tryz.func82,Tryz.ntmps82
  go_wp2
  go_ret
  exact ⟨zd HR.out.symm,(Below.refl _ w).alloc (Nat.le_refl _) _⟩
 ·have hne:((m.list.length:Int)==0)=false:=beq_eq_false_iff_ne.2 (by omega)
  have hcl:(m.list.length:Int)≤c:=by omega
  have HR:=hid hr;have HB:=hid (show Below w.heap.size w (w.alloc (.cells #[.int .i64 8,.string m.name,.string m.value,.slice A m.list.length c,.int .i64 m.n] 65)) from (Below.refl _ w).alloc (Nat.le_refl _) _);clear hr;have H0:=hid h0;clear h0;generalize m.list=l at *
  go_enter Tryz.func82,Tryz.ntmps82
  go_wp2
  go_loopw [3] (fun i wr=>∃k:Nat,k≤l.length∧i= .int .i64 k∧Hid ((l.take k).all (zai l.length)=true)∧∃q,wr=(w.alloc (.cells #[.int .i64 8,.string m.name,.string m.value,.slice A l.length c,.int .i64 m.n] 65)).drewN q) (fun i _=>l.length - (RowKit.intOf i).toNat)
  case atStart=>exact ⟨0,by omega,rfl,hid rfl,0,rfl⟩
  case round=>
   obtain ⟨k,hk,rfl,HA,q,rfl⟩:=hrel
   by_cases hlt:k<l.length
   ·obtain ⟨s,hs⟩:=zD hlt
    obtain ⟨b,off,rfl,hb,hcell⟩:=HR.out.str hs;have hsz:s.size≤1048576:=HSZ.out s (List.mem_of_getElem? hs);have hki:(k:Int)<(l.length:Int):=by omega
    have HX:=hid hs;clear hs;have hee:=zo s;have hst:=ze5 s
    by_cases hz:s.size=0
    ·have he:=zaR hz
     have HP:=hid (show zai l.length s=false by unfold zai;rw[decide_eq_true hz];rfl);clear hz hee hst
     go_wp2
     go_ret
     exact ⟨zd (zc6 HX.out HP.out).symm,zbb HB.out _⟩
    ·have he:=zaa hz
     have HZ:=hid (decide_eq_false hz);have HF:=hid (fun w=>zhQ s w (by unfold maxLen;omega));have HH:=hid (fun w=>(show Calls Tryz.prog 121 #[.string s,.string ⟨#[32,9,44]⟩] w fun e w'=>e= .returned (.bool (!zb3 (fun c=>!zcW c) s))∧∃n,w'=w.drewN n by
      have h:=ztt s znX w (by omega) (by decide);have e:(fun c=>!zhq znX c)=(fun c=>!zcW c):=by funext c;rw[zsI]
      rw[e] at h;exact h))
     clear hz hee
     cases h1:zcb s
     ·have HP:=hid (show zai l.length s=false by unfold zai;rw[h1];simp)
      rw[h1] at HF;clear h1 hst
      go_wp2_with fail
      refine (HF.out _).mono ?_;rintro e w1 ⟨rfl,rfl⟩
      go_wp2
      go_ret
      exact ⟨zd (zc6 HX.out HP.out).symm,zbb HB.out _⟩
     ·rw[h1] at HF
      cases h2:zb3 (fun c=>!zcW c) s
      ·have HP:=hid (show zai l.length s=false by unfold zai;rw[h2];simp)
       rw[h2] at HH;clear h1 h2 hst
       go_wp2_with fail
       refine (HF.out _).mono ?_;rintro e w1 ⟨rfl,rfl⟩
       go_wp2_with fail
       refine (HH.out _).mono ?_;rintro e w1 ⟨rfl,n1,rfl⟩
       go_wp2
       go_ret
       exact ⟨zd (zc6 HX.out HP.out).symm,zbb HB.out _⟩
      ·rw[h2] at HH
       cases h3:decide (s=zcl)
       ·have HP:=hid (show zai l.length s=true by unfold zai;rw[HZ.out,h1,h2,h3];rfl)
        rw[h3] at hst;clear h1 h2 h3
        go_wp2_with fail
        refine (HF.out _).mono ?_;rintro e w1 ⟨rfl,rfl⟩
        go_wp2_with fail
        refine (HH.out _).mono ?_;rintro e w1 ⟨rfl,n1,rfl⟩
        go_wp2
        go_roundw
        case rel=>exact ⟨k+1,by omega,by go_num,hid (zis HX.out HP.out HA.out),_,rfl⟩
        case measure=>simp[RowKit.intOf];omega
       ·rw[h3] at hst
        by_cases h4:l.length=1
        ·have HP:=hid (show zai l.length s=true by unfold zai;rw[HZ.out,h1,h2,h3,decide_eq_false (show ¬1<l.length by omega)];rfl)
         have h4b:((l.length:Int)==1)=true:=beq_iff_eq.2 (by omega);have H4:=hid h4;clear h1 h2 h3 h4
         go_wp2_with fail
         refine (HF.out _).mono ?_;rintro e w1 ⟨rfl,rfl⟩
         go_wp2_with fail
         refine (HH.out _).mono ?_;rintro e w1 ⟨rfl,n1,rfl⟩
         go_wp2
         go_roundw
         case rel=>exact ⟨k+1,by omega,by go_num,hid (zis HX.out HP.out HA.out),_,rfl⟩
         case measure=>simp[RowKit.intOf];omega
        ·have HP:=hid (show zai l.length s=false by unfold zai;rw[h3,decide_eq_true (show 1<l.length by omega)];simp)
         have h4b:((l.length:Int)==1)=false:=beq_eq_false_iff_ne.2 (by omega);have H4:=hid h4;clear h1 h2 h3 h4
         go_wp2_with fail
         refine (HF.out _).mono ?_;rintro e w1 ⟨rfl,rfl⟩
         go_wp2_with fail
         refine (HH.out _).mono ?_;rintro e w1 ⟨rfl,n1,rfl⟩
         go_wp2
         go_ret
         exact ⟨zd (zc6 HX.out HP.out).symm,zbb HB.out _⟩
   ·obtain rfl:k=l.length:=by omega
    have HD:=hid (zkL H0.out HA.out)
    go_wp2
    go_ret
    exact ⟨zd HD.out.symm,zbb HB.out _⟩
set_option maxRecDepth 20000 in
set_option maxHeartbeats 4000000 in
theorem zpm (m:zY) (A:Option Addr) (c:Nat) (w:World) (hk:m.kind=10) (hr:Row w A (m.list.map .string)) (hc:m.list.length≤c) (hm:zaY m):
  Calls Tryz.prog 82 #[zL m A c] w fun e w'=>e= .returned (.bool (zbX zcu m.list))∧Below w.heap.size w w':=by
 obtain ⟨hlen,hsz⟩:=zdi hm;have HSZ:=hid hsz;clear hsz hm;unfold zL;rw[hk];clear hk
 by_cases h0:m.list.length=0
 ·have HR:=hid (show (zbX zcu m.list)=false from zgN h0)
  have hli:(m.list.length:Int)=0:=by omega
  clear h0
  go_enter Tryz.func82,Tryz.ntmps82
  go_wp2
  go_ret
  exact ⟨zd HR.out.symm,(Below.refl _ w).alloc (Nat.le_refl _) _⟩
 ·have hne:((m.list.length:Int)==0)=false:=beq_eq_false_iff_ne.2 (by omega)
  have hcl:(m.list.length:Int)≤c:=by omega
  have HR:=hid hr;have HB:=hid (show Below w.heap.size w (w.alloc (.cells #[.int .i64 10,.string m.name,.string m.value,.slice A m.list.length c,.int .i64 m.n] 65)) from (Below.refl _ w).alloc (Nat.le_refl _) _);clear hr;have H0:=hid h0;clear h0;generalize m.list=l at *
  go_enter Tryz.func82,Tryz.ntmps82
  go_wp2
  go_loopw [3] (fun i wr=>∃k:Nat,k≤l.length∧i= .int .i64 k∧Hid ((l.take k).all zcu=true)∧Below (w.heap.size+1) (w.alloc (.cells #[.int .i64 10,.string m.name,.string m.value,.slice A l.length c,.int .i64 m.n] 65)) wr) (fun i _=>l.length - (RowKit.intOf i).toNat)
  case atStart=>exact ⟨0,by omega,rfl,hid rfl,zfi (Below.refl _ _)⟩
  case round=>
   obtain ⟨k,hk,rfl,HA,hbx⟩:=hrel
   by_cases hlt:k<l.length
   ·obtain ⟨s,hs⟩:=zD hlt
    obtain ⟨b,off,rfl,hb,hcell⟩:=HR.out.str hs;have hsz:s.size≤1048576:=HSZ.out s (List.mem_of_getElem? hs);have hki:(k:Int)<(l.length:Int):=by omega
    have HX:=hid hs;clear hs;have HH:=hid (fun W=>T5.HostPort_any s W (by omega));have HV:=hid (show zcu s=decide (T5.authR s=(s,-1,0)) from rfl);unfold T5.authVal at HH;generalize T5.authR s=r at *;obtain ⟨h,p,e0⟩:=r;dsimp only at HH;obtain ⟨g0,_⟩:=zH hbx 0;obtain ⟨g3,_⟩:=zH hbx 3;have hcw:=(hbx.cell (p:=⟨b,off+k,none⟩) (by show b<w.heap.size+1;omega)).trans ((World.cell?_alloc_lt _ _ _ hb).trans hcell);simp only[List.getElem?_toArray] at g0 g3;have HBX:=hid hbx;clear hbx hcell
    by_cases he:e0=0
    ·subst he
     by_cases hp:p=-1
     ·subst hp
      cases hq:(h.toList==s.toList)
      ·have HP:=hid (show zcu s=false by
        rw[HV.out,decide_eq_false];intro e;have:h=s:=congrArg Prod.fst e;rw[this] at hq;simp at hq)
       go_wp2_with fail
       refine (HH.out _).mono ?_;rintro e w1 ⟨rfl,hb1⟩
       go_wp2
       go_ret
       exact ⟨zd (zc6 HX.out HP.out).symm,zw (HBX.out.trans (hb1.mono (by have h:=HBX.out.size;simpa using h)))⟩
      ·have HP:=hid (show zcu s=true by
        rw[HV.out,decide_eq_true];rw[zV (show h.data.toList=s.data.toList by rw[←Lib.toList_data,←Lib.toList_data];exact beq_iff_eq.1 hq)])
       go_wp2_with fail
       refine (HH.out _).mono ?_;rintro e w1 ⟨rfl,hb1⟩;have HB2:=hid (HBX.out.trans (hb1.mono (by have h:=HBX.out.size;simpa using h)));clear hb1
       go_wp2
       go_roundw
       case rel=>exact ⟨k+1,by omega,by go_num,hid (zis HX.out HP.out HA.out),HB2.out⟩
       case measure=>simp[RowKit.intOf];omega
     ·have hpb:(p==-1)=false:=beq_eq_false_iff_ne.2 hp
      have HP:=hid (show zcu s=false by
       rw[HV.out,decide_eq_false];intro e;exact hp (congrArg (fun x=>x.2.1) e))
      clear hp
      go_wp2_with fail
      refine (HH.out _).mono ?_;rintro e w1 ⟨rfl,hb1⟩
      go_wp2
      go_ret
      exact ⟨zd (zc6 HX.out HP.out).symm,zw (HBX.out.trans (hb1.mono (by have h:=HBX.out.size;simpa using h)))⟩
    ·have heb:(e0==0)=false:=beq_eq_false_iff_ne.2 he
     have HP:=hid (show zcu s=false by
      rw[HV.out,decide_eq_false];intro e;exact he (congrArg (fun x=>x.2.2) e))
     clear he
     go_wp2_with fail
     refine (HH.out _).mono ?_;rintro e w1 ⟨rfl,hb1⟩
     go_wp2
     go_ret
     exact ⟨zd (zc6 HX.out HP.out).symm,zw (HBX.out.trans (hb1.mono (by have h:=HBX.out.size;simpa using h)))⟩
   ·obtain rfl:k=l.length:=by omega
    have HD:=hid (zkL H0.out HA.out);obtain ⟨g0,_⟩:=zH hbx 0;obtain ⟨g3,_⟩:=zH hbx 3;simp only[List.getElem?_toArray] at g0 g3;have HBX:=hid hbx;clear hbx
    go_wp2
    go_ret
    exact ⟨zd HD.out.symm,zw HBX.out⟩
set_option maxRecDepth 20000 in
set_option maxHeartbeats 4000000 in
theorem zqQ (m:zY) (A:Option Addr) (c:Nat) (w:World) (hk:m.kind=7) (hr:Row w A (m.list.map .string)) (hc:m.list.length≤c) (hm:zaY m):
  Calls Tryz.prog 82 #[zL m A c] w fun e w'=>e= .returned (.bool (zbX zbJ m.list))∧Below w.heap.size w w':=by
 obtain ⟨hlen,hsz⟩:=zdi hm;have HSZ:=hid hsz;clear hsz hm;unfold zL;rw[hk];clear hk
 by_cases h0:m.list.length=0
 ·have HR:=hid (show (zbX zbJ m.list)=false from zgN h0)
  have hli:(m.list.length:Int)=0:=by omega
  clear h0
  go_enter Tryz.func82,Tryz.ntmps82
  go_wp2
  go_ret
  exact ⟨zd HR.out.symm,(Below.refl _ w).alloc (Nat.le_refl _) _⟩
 ·have hne:((m.list.length:Int)==0)=false:=beq_eq_false_iff_ne.2 (by omega)
  have hcl:(m.list.length:Int)≤c:=by omega
  have HR:=hid hr;have HB:=hid (show Below w.heap.size w (w.alloc (.cells #[.int .i64 7,.string m.name,.string m.value,.slice A m.list.length c,.int .i64 m.n] 65)) from (Below.refl _ w).alloc (Nat.le_refl _) _);clear hr;have H0:=hid h0;clear h0;generalize m.list=l at *
  go_enter Tryz.func82,Tryz.ntmps82
  go_wp2
  go_loop [3] (fun i=>∃k:Nat,k≤l.length∧i= .int .i64 k∧Hid ((l.take k).all zbJ=true)) (fun i=>l.length - (RowKit.intOf i).toNat)
  case atStart=>exact ⟨0,by omega,rfl,hid rfl⟩
  case round=>
   obtain ⟨k,hk,rfl,HA⟩:=hrel
   by_cases hlt:k<l.length
   ·obtain ⟨s,hs⟩:=zD hlt
    obtain ⟨b,off,rfl,hb,hcell⟩:=HR.out.str hs;have hsz:s.size≤1048576:=HSZ.out s (List.mem_of_getElem? hs);have hki:(k:Int)<(l.length:Int):=by omega
    have HX:=hid hs;clear hs;have HBS:=hid (ztA s)
    go_wp2
    go_loop [5,6,7] (fun o cv j=>∃i:Nat,i≤s.size∧j= .int .i64 i∧o= .bool (zgW s i)∧cv= .int .i64 (zdx s i)) (fun _ _ j=>s.size - (RowKit.intOf j).toNat)
    case atStart=>exact ⟨0,by omega,rfl,rfl,rfl⟩
    case round=>
     obtain ⟨i,hi,rfl,rfl,rfl⟩:=hrel
     by_cases hit:i<s.size
     ·have hbs:=@zE s i hit
      have hii:(i:Int)<(s.size:Int):=by omega
      have HO:=hid (show zgW s (i+1)=(zgW s i&&!zeb (bt s i)) from rfl);have HC1:=hid (fun h1 h2=>zqE (s:=s) (k:=i) h1 h2);have HC2:=hid (fun h=>zuC (s:=s) (k:=i) h);have HKT:=hid (show zeb (bt s i)=(decide (bt s i<32)||decide (bt s i=127)) from rfl);generalize zdx s i=cz at *;generalize zgW s i=ob at *;have hcs:(bt s i=58∧cz<0)∨(bt s i=58∧¬cz<0)∨¬bt s i=58:=by omega
      rcases hcs with ⟨g1,g2⟩|⟨g1,g2⟩|g1
      ·have h58:=beq_iff_eq.2 g1
       have h32:32≤bt s i:=by omega
       have h127:(bt s i !=127)=true:=bne_iff_ne.2 (by omega);have HOK:=hid (show zgW s (i+1)=ob by rw[HO.out,HKT.out,decide_eq_false (show ¬bt s i<32 by omega),decide_eq_false (show ¬bt s i=127 by omega)];simp);have HCC:=hid (HC1.out g1 g2);clear g1
       cases ob
       all_goals
        go_wp2
        go_round
        case rel=>exact ⟨i+1,by omega,by go_num,by rw[HOK.out],by rw[HCC.out]⟩
        case measure=>simp[RowKit.intOf];omega
      ·have h58:=beq_iff_eq.2 g1
       have h32:32≤bt s i:=by omega
       have h127:(bt s i !=127)=true:=bne_iff_ne.2 (by omega);have HOK:=hid (show zgW s (i+1)=ob by rw[HO.out,HKT.out,decide_eq_false (show ¬bt s i<32 by omega),decide_eq_false (show ¬bt s i=127 by omega)];simp);have HCC:=hid (HC2.out (fun h=>g2 h.2));clear g1
       cases ob
       all_goals
        go_wp2
        go_round
        case rel=>exact ⟨i+1,by omega,by go_num,by rw[HOK.out],by rw[HCC.out]⟩
        case measure=>simp[RowKit.intOf];omega
      ·have h58:(bt s i==58)=false:=beq_eq_false_iff_ne.2 g1
       have HCC:=hid (HC2.out (fun h=>g1 h.1));clear g1
       cases ob
       ·have HOK:=hid (show zgW s (i+1)=false by rw[HO.out];rfl)
        go_wp2
        go_round
        case rel=>exact ⟨i+1,by omega,by go_num,by rw[HOK.out],by rw[HCC.out]⟩
        case measure=>simp[RowKit.intOf];omega
       ·have hcs:bt s i<32∨bt s i=127∨(32≤bt s i∧¬bt s i=127):=by omega
        rcases hcs with g|g|⟨g,g3⟩
        ·have HOK:=hid (show zgW s (i+1)=false by rw[HO.out,HKT.out,decide_eq_true g];rfl)
         go_wp2
         go_round
         case rel=>exact ⟨i+1,by omega,by go_num,by rw[HOK.out],by rw[HCC.out]⟩
         case measure=>simp[RowKit.intOf];omega
        ·have g32:32≤bt s i:=by omega
         have h127:(bt s i !=127)=false:=by rw[g];rfl
         have HOK:=hid (show zgW s (i+1)=false by rw[HO.out,HKT.out,decide_eq_true g];simp);clear g
         go_wp2
         go_round
         case rel=>exact ⟨i+1,by omega,by go_num,by rw[HOK.out],by rw[HCC.out]⟩
         case measure=>simp[RowKit.intOf];omega
        ·have h127:(bt s i !=127)=true:=bne_iff_ne.2 g3
         have HOK:=hid (show zgW s (i+1)=true by rw[HO.out,HKT.out,decide_eq_false g3,decide_eq_false (show ¬bt s i<32 by omega)];rfl);clear g3
         go_wp2
         go_round
         case rel=>exact ⟨i+1,by omega,by go_num,by rw[HOK.out],by rw[HCC.out]⟩
         case measure=>simp[RowKit.intOf];omega
     ·obtain rfl:i=s.size:=by omega
      generalize zdx s s.size=cz at *;generalize zgW s s.size=ob at *
      cases ob
      ·have HP:=hid (show zbJ s=false by rw[HBS.out];rfl)
       go_wp2
       go_ret
       exact ⟨zd (zc6 HX.out HP.out).symm,HB.out⟩
      ·by_cases hz:0<cz
       ·have HP:=hid (show zbJ s=true by rw[HBS.out,decide_eq_true hz];rfl)
        go_wp2
        go_round
        case rel=>exact ⟨k+1,by omega,by go_num,hid (zis HX.out HP.out HA.out)⟩
        case measure=>simp[RowKit.intOf];omega
       ·have HP:=hid (show zbJ s=false by rw[HBS.out,decide_eq_false hz];rfl)
        have hz':cz≤0:=by omega
        go_wp2
        go_ret
        exact ⟨zd (zc6 HX.out HP.out).symm,HB.out⟩
   ·obtain rfl:k=l.length:=by omega
    have HD:=hid (zkL H0.out HA.out)
    go_wp2
    go_ret
    exact ⟨zd HD.out.symm,HB.out⟩
end Go.Proofs.YtbnafbdhomdcoaaGreatDoor
namespace Go.Proofs.YtbnafbdhomdcoaaGreatDoor.T5
open Go.RowKit Go.Shelf Go.Lib
set_option maxRecDepth 20000 in
set_option maxHeartbeats 4000000 in
theorem zpN (s:ByteArray) (w:World) (hs:s.size≤1099511627776):
  Calls Tryz.prog 124 #[.string s] w fun e w'=>e= .returned (.string (zaF s))∧Below w.heap.size w w':=by
 obtain ⟨i0,hi0,hz0,hz1,hz2⟩:=info_parts zcI;have HPL:=hid (show zaF s=⟨(plF s 0 []).toArray⟩ from rfl)
 go_enter Tryz.func124,Tryz.ntmps124
 go_wp2
 go_loopw [3,4] (fun v i wr=>∃(k:Nat) (acc:List UInt8),k≤s.size∧i= .int .i64 k∧zZ wr w.heap.size v acc∧acc.length≤k∧plF s k acc=plF s 0 []∧Below w.heap.size w wr) (fun _ i _=>s.size - (RowKit.intOf i).toNat)
 case atStart=>exact ⟨0,[],by omega,rfl,zja w,by simp,rfl,(Below.refl _ w).alloc (Nat.le_refl _) _⟩
 case round=>
  obtain ⟨k,acc,hk,rfl,ho,hal,hdec,hbw⟩:=hrel;have HD:=hid hdec;clear hdec
  by_cases hlt:k<s.size
  ·have hb:=@zE s k hlt
   have HT:=hid (zgK s k wr hs hk)
   cases ht:tri s k
   ·rw[ht] at HT
    have HS:=hid ((zpX (acc:=acc) hlt ht).symm.trans HD.out);clear ht;have ho1:=ho;unfold zZ at ho1
    go_wp2_with fail
    refine HT.out.mono ?_;rintro e w1 ⟨rfl,rfl⟩
    go_wp2_with (at_builtin;refine wpList_append_own _ rfl _ _ 80 rfl w.heap.size 5 i0 (.int .u8 0) 1 1 Tryz.underlying80 hi0 hz0 hz1 hz2 rfl (by decide) _ _ _ rfl (ho1.alloc _) ⟨wr.heap.size,0,none⟩ 1 1 [zat (zf6 s k)] rfl rfl (cell_one_new _ _ _) ?d1 ?d2 ?d3 ?d4 ?d5)
    case d1=>exact zbq [_]
    case d2=>unfold maxLen;omega
    case d3=>omega
    case d4=>simp;have:=hbw.size;omega
    case d5=>
     intro v' w2 hown2 hg2 _;have hb2:Below w.heap.size w w2:=(hbw.alloc hbw.size _).grown hg2 (by simp;have:=hbw.size;omega) (zI ho1);have ho2:zZ w2 w.heap.size v' (acc++[zf6 s k]):=by
      unfold zZ;rw[List.length_append,List.map_append];exact hown2
     clear hown2 hg2 ho ho1
     go_wp2
     go_roundw
     case rel=>exact ⟨k+1,_,by omega,by go_num,ho2,by simp;omega,HS.out,hb2⟩
     case measure=>simp[RowKit.intOf];omega
   ·rw[ht] at HT
    have HS:=hid ((zrx (acc:=acc) ht).symm.trans HD.out);have HV:=hid (zrf ht);have HY:=hid (zuy s k wr hs ht);have h3:=(zbB.1 ht).1;rw[←HV.out] at HY;have HC:=hid (fun w=>zhB ((zdm s k).toNat:Int) w);have HPUT:=hid (fun (w':World) (v:Value) (h1:zZ w' w.heap.size v acc) (h2:w.heap.size≤w'.heap.size)=>zv8 w.heap.size v acc (zdm s k) (zdc ((zdm s k).toNat:Int)) w' h1 h2 (by omega));have HE:=hid (show (if zdc ((zdm s k).toNat:Int)=true then [zdm s k] else pct (zdm s k))=zgy (zdm s k) from rfl);have hel:=(zim (zdm s k)).2;clear ht;generalize zdc ((zdm s k).toNat:Int)=p at *
    go_wp2_with fail
    refine HT.out.mono ?_;rintro e w1 ⟨rfl,rfl⟩
    go_wp2_with fail
    refine HY.out.mono ?_;rintro e w1 ⟨rfl,rfl⟩
    go_wp2_with fail
    refine (HC.out _).mono ?_;rintro e w1 ⟨rfl,rfl⟩
    go_wp2_with fail
    refine (HPUT.out _ _ ho hbw.size).mono ?_;rintro e w2 ⟨v',rfl,ho2,hb2⟩;rw[HE.out] at ho2;have hb3:Below w.heap.size w w2:=hbw.trans hb2;clear ho hb2
    go_wp2
    go_roundw
    case rel=>exact ⟨k+3,_,by omega,by go_num,ho2,by rw[List.length_append];omega,HS.out,hb3⟩
    case measure=>simp[RowKit.intOf];omega
  ·obtain rfl:k=s.size:=by omega
   have HB:=hid ((zfb (s:=s) (acc:=acc) (Nat.le_refl _)).symm.trans HD.out);have hcv:=ho.conv
   go_wp2
   go_ret
   exact ⟨zbz (by rw[HPL.out,HB.out]),hbw⟩
theorem zrS {l:List ByteArray} {k:Nat} {x:ByteArray} (h:l[k]?=some x):zaz [] (l.take (k+1))=zbm (zaz [] (l.take k)) x:=by rw[zb6 h,zgc]
theorem zsi {l:List ByteArray} {k:Nat} {x:ByteArray} (h:l[k]?=some x):zcG false (l.take (k+1))=zcN x:=by rw[zb6 h,zft]
theorem zkD {l:List ByteArray} {k:Nat} {x:ByteArray} (h:l[k]?=some x):zbh (l.take (k+1))=zbh (l.take k)++(47::x.data.toList):=by rw[zb6 h];simp[zbh]
theorem znN (l:List ByteArray) (k:Nat):zcX (l.take k)+(l.take k).length≤zcX l+l.length:=by
 have e:=List.take_append_drop k l;have h1:zcX l=zcX (l.take k)+zcX (l.drop k):=by rw[←ze4,e]
 have h2:l.length=(l.take k).length+(l.drop k).length:=by rw[←List.length_append,e]
 omega
set_option maxRecDepth 100000 in
set_option maxHeartbeats 8000000 in
theorem rNormal_any (s:ByteArray) (w:World) (hs:s.size≤4194304):
  Calls Tryz.prog 83 #[.string s] w fun e w'=>e= .returned (normVal s)∧Below w.heap.size w w':=by
 have HP:=hid (fun w=>znS s w (by omega));obtain ⟨i0,hi0,hz0,hz1,hz2⟩:=info_parts zcx;obtain ⟨j0,hj0,hy0,hy1,hy2⟩:=info_parts zcI;unfold normVal
 cases hp:isPathB s
 ·rw[normR_no hp]
  rw[hp] at HP;clear hp
  go_enter Tryz.func83,Tryz.ntmps83
  go_wp2_with fail
  refine (HP.out _).mono ?_;rintro e w1 ⟨rfl,rfl⟩
  go_wp2
  go_ret2
  exact ⟨rfl,Below.refl _ _⟩
 ·have hh:=zjC (path_heads hp)
  have hps:=zju s;have h1:1≤(zaF s).size:=by
   unfold heads at hh;simp at hh
   omega
  rw[zmP hp];rw[hp] at HP;clear hp hh;have HR:=hid (fun w=>zpN s w (by omega));have hz:((zaF s).extract 1 (zaF s).size).size≤4194304:=by rw[ByteArray.size_extract];omega
  have HS:=hid (fun w=>zhK ((zaF s).extract 1 (zaF s).size) 47 w hz);have hln:=zeF 47 _ ((zaF s).extract 1 (zaF s).size) (Nat.le_refl _);have hne:=ziM ((zaF s).extract 1 (zaF s).size) 47;have HPO:=hid (show zad (zaF s)=(zaF s).extract 1 (zaF s).size from rfl);rw[HPO.out];clear HPO;have hln2:zcX (zG ((zaF s).extract 1 (zaF s).size) 47)+(zG ((zaF s).extract 1 (zaF s).size) 47).length≤4194305:=by omega
  clear hz hln;have hk1:=zn1 hne;have hk2:=zlX (zG ((zaF s).extract 1 (zaF s).size) 47);have HRES:=hid (show zi6 (zcS (zG ((zaF s).extract 1 (zaF s).size) 47))=⟨(zbh (zcS (zG ((zaF s).extract 1 (zaF s).size) 47))).toArray⟩ by unfold zi6;rw[if_neg hk1]);rw[HRES.out];have HNE:=hid hk1;clear HRES hk1 hne;obtain ⟨t,ht⟩:∃t,t=zaF s:=⟨_,rfl⟩;rw[←ht] at HR HS hln2 hk2 h1 hps HNE ⊢;clear ht;obtain ⟨l,hl⟩:∃l,l=zG (t.extract 1 t.size) 47:=⟨_,rfl⟩;rw[←hl] at HS hln2 hk2 HNE ⊢;clear hl
  go_enter Tryz.func83,Tryz.ntmps83
  go_wp2_with fail
  refine (HP.out _).mono ?_;rintro e w0 ⟨rfl,rfl⟩
  go_wp2_with fail
  refine (HR.out _).mono ?_;rintro e w0 ⟨rfl,b0⟩
  go_wp2_with fail
  refine (HS.out _).mono ?_;rintro e w1 ⟨A,c,rfl,hown,hb1⟩;have hrow:=zak hown;have B1:=b0.trans (hb1.mono b0.size);clear hown b0 hb1
  go_wp2
  go_loopw [5,6,7] (fun v d i wr=>∃k:Nat,k≤l.length∧i= .int .i64 k∧d= .bool (zcG false (l.take k))∧wr.ownsRow w1.heap.size 9 1 v (zaz [] (l.take k)).length ((zaz [] (l.take k)).map .string)∧Below w1.heap.size w1 wr) (fun _ _ i _=>l.length - (RowKit.intOf i).toNat)
  case atStart=>exact ⟨0,by omega,rfl,rfl,World.ownsRow_lit w1 #[] 0 (Nat.le_refl _) (by unfold maxLen;omega) rfl,(Below.refl _ w1).alloc (Nat.le_refl _) _⟩
  case round=>
   obtain ⟨k,hk,rfl,rfl,ho,hbw⟩:=hrel
   by_cases hlt:k<l.length
   ·obtain ⟨y,hy⟩:=zD hlt
    obtain ⟨b,off,rfl,hb,h0⟩:=(hrow.below hbw).str hy;have HK:=hid (zrS hy);have HL:=hid (zsi hy);have hkl:(zaz [] (l.take k)).length≤4194306:=by
     have h1:=(zeZ (l.take k) []).2;rw[List.length_take] at h1;simp only[List.length_nil] at h1
     omega
    clear hy;generalize zaz [] (l.take k)=kl at *;generalize zcG false (l.take k)=ld at *;have t1:=zo5 y;have t2:=zmA y
    by_cases hy2:y=zmm
    ·have hy1:¬y=zoW:=by rw[hy2];decide
     rw[decide_eq_false hy1] at t1;rw[decide_eq_true hy2] at t2;have HD2:=hid (show zcN y=true by unfold zcN;rw[decide_eq_true hy2];simp);have HS2:=hid (show zbm kl y=kl.dropLast by unfold zbm;rw[if_pos hy2]);clear hy1 hy2
     rcases List.eq_nil_or_concat kl with hk0|⟨kl',z,hk0⟩
     ·subst hk0
      obtain ⟨A',c',rfl⟩:=zC ho
      go_wp2
      go_roundw
      case rel=>exact ⟨k+1,by omega,by go_num,by rw[HL.out,HD2.out],by rw[HK.out,HS2.out];exact ho,hbw⟩
      case measure=>simp[RowKit.intOf];omega
     ·rw[List.concat_eq_append] at hk0
      subst hk0;have hle:(kl'++[z]).length=kl'.length+1:=by simp
      rw[hle] at ho hkl;rw[List.map_append] at ho;have HS3:=hid (show (kl'++[z]).dropLast=kl' by simp);obtain ⟨g,cap,hv,_,_⟩:=ho.form (by omega);subst hv;have hcap:=zdq ho;have hp:=ownsRow_pop (by rw[List.length_map,Nat.mul_one]) ho;clear ho hle
      go_wp2
      go_roundw
      case rel=>exact ⟨k+1,by omega,by go_num,by rw[HL.out,HD2.out],by rw[HK.out,HS2.out,HS3.out];exact hp,hbw⟩
      case measure=>simp[RowKit.intOf];omega
    ·rw[decide_eq_false hy2] at t2
     by_cases hy1:y=zoW
     ·rw[decide_eq_true hy1] at t1
      have HD2:=hid (show zcN y=true by unfold zcN;rw[decide_eq_true hy1];simp);have HS2:=hid (show zbm kl y=kl by unfold zbm;rw[if_neg hy2,if_pos hy1]);clear hy1 hy2
      go_wp2
      go_roundw
      case rel=>exact ⟨k+1,by omega,by go_num,by rw[HL.out,HD2.out],by rw[HK.out,HS2.out];exact ho,hbw⟩
      case measure=>simp[RowKit.intOf];omega
     ·rw[decide_eq_false hy1] at t1
      have HD2:=hid (show zcN y=false by unfold zcN;rw[decide_eq_false hy1,decide_eq_false hy2];rfl);have HS2:=hid (show zbm kl y=kl++[y] by unfold zbm;rw[if_neg hy2,if_neg hy1]);clear hy1 hy2
      go_wp2_with (at_builtin;refine wpList_append_own _ rfl _ _ 22 rfl w1.heap.size 9 i0 (.string ⟨#[]⟩) 1 16 Tryz.underlying22 hi0 hz0 hz1 hz2 rfl (by decide) _ _ _ rfl (ho.alloc _) ⟨wr.heap.size,0,none⟩ 1 1 [.string y] rfl rfl (cell_one_new _ _ _) ?c1 ?c2 ?c3 ?c4 ?c5)
      case c1=>exact za5 [_]
      case c2=>unfold maxLen;omega
      case c3=>omega
      case c4=>simp;have:=hbw.size;omega
      case c5=>
       intro v' w2 hown2 hg2 _;have hb2:Below w1.heap.size w1 w2:=(hbw.alloc hbw.size _).grown hg2 (by simp;have:=hbw.size;omega) (zI ho);have ho2:w2.ownsRow w1.heap.size 9 1 v' (kl++[y]).length ((kl++[y]).map .string):=by
        rw[List.length_append,List.map_append];exact hown2
       clear hown2 hg2 ho
       go_wp2
       go_roundw
       case rel=>exact ⟨k+1,by omega,by go_num,by rw[HL.out,HD2.out],by rw[HK.out,HS2.out];exact ho2,hb2⟩
       case measure=>simp[RowKit.intOf];omega
   ·obtain rfl:k=l.length:=by omega
    rw[List.take_length] at *;have hbv:Below w1.heap.size w1 wr:=hbw
    cases hld:zcG false l
    ·have hkr:zaz [] l=zcS l:=by unfold zcS;rw[if_neg (by rw[hld];simp)]
     rw[hkr] at ho;clear hkr;generalize hkp:zcS l=kept at *;have HKR:=hid hkp;clear hkp;have hpos:=List.length_pos_iff.2 HNE.out;obtain ⟨g,cap,hv,hgb,_⟩:=ho.form hpos;subst hv;clear HNE hpos;obtain ⟨xo,rfl⟩:∃xo:World,xo=wr:=⟨_,rfl⟩
     go_wp2
     go_loopw [8,9] (fun v i wr=>∃k:Nat,k≤kept.length∧i= .int .i64 k∧zZ wr w1.heap.size v (zbh (kept.take k))∧Below w1.heap.size w1 wr∧wr.ownsRow w1.heap.size 9 1 (.slice (some ⟨g,0,none⟩) kept.length cap) kept.length (kept.map .string)) (fun _ i _=>kept.length - (RowKit.intOf i).toNat)
     case atStart=>exact ⟨0,by omega,rfl,zmQ (zja xo) hbv.size,hbv.alloc hbv.size _,ho.alloc _⟩
     case round=>
      obtain ⟨k,hk,rfl,ho1,hbw1,hkept⟩:=hrel;have hsum:=znN kept k;have hsl:=zf1 (kept.take k)
      by_cases hlt:k<kept.length
      ·obtain ⟨x,hx⟩:=zD hlt
       have hxz:x.size≤4194305:=by
        have:=zk8 (List.mem_of_getElem? hx)
        omega
       have hap:=zdE ho1 hkept (by decide);have hgl:=zjZ hkept g rfl;have hc:wr.cell? ⟨g,k,none⟩=some (.string x):=by
        rw[hkept.cellAt k (by omega),List.getElem?_map,hx]
        rfl
       have hne:some (⟨g,k,none⟩:Addr).block≠u8.ownBlock:=fun e=>hap g e.symm rfl
       have HT:=hid (zkD hx);clear hx;generalize zbh (kept.take k)=acc at *;unfold zZ at ho1
       go_wp2_with fail
       go_region_held3 (fun w'=>w'.cell? ⟨g,k,none⟩=some (.string x)) (first|assumption|go_keep|(rw[zeT hg2 _ (by simp;omega) hne];assumption)|(rw[zeT hg3 _ hgl2 hne2];assumption)) (first|(refine zaO _ rfl (.tmp 71) (.tmp 72) 80 rfl w1.heap.size 5 j0 (.int .u8 0) 1 1 Tryz.underlying80 hj0 hy0 hy1 hy2 rfl (by decide) _ _ _ (by rfl) (ho1.drew.alloc _) _ (some ⟨wr.heap.size,0,none⟩) 1 1 [zat 47] (by rfl) (zv ((za1 _ _ _ rfl).drew) rfl (by decide)) (zbq [47]) (by unfold maxLen;omega) (by omega) (by have:=hbw1.size;simp;omega) ?_;intro v' w2 hown2 hg2 _;have hk2':=zhb ((World.ownsRow.drew hkept).alloc _) hg2 hap;have hne2:some g≠v'.ownBlock:=fun e=>(zdE hown2 hk2' (by decide)) g e.symm rfl;have hgl2:=zjZ hk2' g rfl)|(refine zdL rfl (.tmp 73) (.tmp 77) 80 9 rfl w1.heap.size 5 j0 Tryz.underlying80 Tryz.underlying9 hj0 hy0 hy1 hy2 _ _ _ (by rfl) hown2 x (by rfl) (by unfold maxLen;omega) (by omega) (by have:=hg2.size;have:=hbw1.size;simp at *;omega) ?_;intro v3 w3 hown3 hg3))
       all_goals
        have e1:(acc++47::x.data.toList).length=acc.length+1+x.size:=by rw[List.length_append,List.length_cons,size_eq];omega
        have e2:(acc++47::x.data.toList).map zat=acc.map zat++[zat 47]++strCells x:=by simp[zjF]
        have ho3:zZ w3 w1.heap.size v3 (zbh (kept.take (k+1))):=by
         unfold zZ;rw[HT.out,e1,e2];exact hown3
        have hb2:Below w1.heap.size w1 w2:=(zar (hbw1.alloc hbw1.size _)).grown hg2 (by have:=hbw1.size;simp;omega) (zI ho1);have hb3:Below w1.heap.size w1 w3:=hb2.grown hg3 hb2.size (zI hown2);have hkept3:=zhb hk2' hg3 (zdE hown2 hk2' (by decide));clear e1 e2 hown3 hg3 hk2' hown2 hg2 hne2 ho1 hne hap hkept hb2 hc
        go_wp2
        go_roundw
        case rel=>exact ⟨k+1,by omega,by go_num,ho3,hb3,hkept3⟩
        case measure=>simp[RowKit.intOf];omega
      ·obtain rfl:k=kept.length:=by omega
       rw[List.take_length] at ho1;have hcv:=ho1.conv
       go_wp2
       go_ret2
       exact ⟨by rw[HKR.out];rfl,B1.trans (hbw1.mono B1.size)⟩
    ·have hkr:zcS l=zaz [] l++[⟨#[]⟩]:=by unfold zcS;rw[if_pos hld]
     have HKQ:=hid hkr;clear hkr;have hkl:(zaz [] l).length≤4194306:=by
      have h1:=(zeZ l []).2;simp only[List.length_nil] at h1
      omega
     generalize zaz [] l=kl at *;generalize hkp:zcS l=kept at *;have HKR:=hid hkp;clear hkp
     go_wp2_with (at_builtin;refine wpList_append_own _ rfl _ _ 22 rfl w1.heap.size 9 i0 (.string ⟨#[]⟩) 1 16 Tryz.underlying22 hi0 hz0 hz1 hz2 rfl (by decide) _ _ _ rfl (ho.alloc _) ⟨wr.heap.size,0,none⟩ 1 1 [.string ⟨#[]⟩] rfl rfl (cell_one_new _ _ _) ?e1 ?e2 ?e3 ?e4 ?e5)
     case e1=>exact za5 [_]
     case e2=>unfold maxLen;omega
     case e3=>omega
     case e4=>simp;have:=hbw.size;omega
     case e5=>
      intro v' w2 hown2 hg2 _;have hb2v:Below w1.heap.size w1 w2:=(hbw.alloc hbw.size _).grown hg2 (by simp;have:=hbw.size;omega) (zI ho);have ho2:w2.ownsRow w1.heap.size 9 1 v' kept.length (kept.map .string):=by
       rw[HKQ.out,List.length_append,List.map_append];exact hown2
      clear hown2 hg2 ho hbv;have hpos:=List.length_pos_iff.2 HNE.out;obtain ⟨g,cap,hv,hgb,_⟩:=ho2.form hpos;subst hv;clear HNE hpos;obtain ⟨xo,rfl⟩:∃xo:World,xo=w2:=⟨_,rfl⟩
      go_wp2
      go_loopw [8,9] (fun v i wr=>∃k:Nat,k≤kept.length∧i= .int .i64 k∧zZ wr w1.heap.size v (zbh (kept.take k))∧Below w1.heap.size w1 wr∧wr.ownsRow w1.heap.size 9 1 (.slice (some ⟨g,0,none⟩) kept.length cap) kept.length (kept.map .string)) (fun _ i _=>kept.length - (RowKit.intOf i).toNat)
      case atStart=>exact ⟨0,by omega,rfl,zmQ (zja xo) hb2v.size,hb2v.alloc hb2v.size _,ho2.alloc _⟩
      case round=>
       obtain ⟨k,hk,rfl,ho1,hbw1,hkept⟩:=hrel;have hsum:=znN kept k;have hsl:=zf1 (kept.take k)
       by_cases hlt:k<kept.length
       ·obtain ⟨x,hx⟩:=zD hlt
        have hxz:x.size≤4194305:=by
         have:=zk8 (List.mem_of_getElem? hx)
         omega
        have hap:=zdE ho1 hkept (by decide);have hgl:=zjZ hkept g rfl;have hc:wr.cell? ⟨g,k,none⟩=some (.string x):=by
         rw[hkept.cellAt k (by omega),List.getElem?_map,hx]
         rfl
        have hne:some (⟨g,k,none⟩:Addr).block≠u8.ownBlock:=fun e=>hap g e.symm rfl
        have HT:=hid (zkD hx);clear hx;generalize zbh (kept.take k)=acc at *;unfold zZ at ho1
        go_wp2_with fail
        go_region_held3 (fun w'=>w'.cell? ⟨g,k,none⟩=some (.string x)) (first|assumption|go_keep|(rw[zeT hg2 _ (by simp;omega) hne];assumption)|(rw[zeT hg3 _ hgl2 hne2];assumption)) (first|(refine zaO _ rfl (.tmp 71) (.tmp 72) 80 rfl w1.heap.size 5 j0 (.int .u8 0) 1 1 Tryz.underlying80 hj0 hy0 hy1 hy2 rfl (by decide) _ _ _ (by rfl) (ho1.drew.alloc _) _ (some ⟨wr.heap.size,0,none⟩) 1 1 [zat 47] (by rfl) (zv ((za1 _ _ _ rfl).drew) rfl (by decide)) (zbq [47]) (by unfold maxLen;omega) (by omega) (by have:=hbw1.size;simp;omega) ?_;intro v' w2 hown2 hg2 _;have hk2':=zhb ((World.ownsRow.drew hkept).alloc _) hg2 hap;have hne2:some g≠v'.ownBlock:=fun e=>(zdE hown2 hk2' (by decide)) g e.symm rfl;have hgl2:=zjZ hk2' g rfl)|(refine zdL rfl (.tmp 73) (.tmp 77) 80 9 rfl w1.heap.size 5 j0 Tryz.underlying80 Tryz.underlying9 hj0 hy0 hy1 hy2 _ _ _ (by rfl) hown2 x (by rfl) (by unfold maxLen;omega) (by omega) (by have:=hg2.size;have:=hbw1.size;simp at *;omega) ?_;intro v3 w3 hown3 hg3))
        all_goals
         have e1:(acc++47::x.data.toList).length=acc.length+1+x.size:=by rw[List.length_append,List.length_cons,size_eq];omega
         have e2:(acc++47::x.data.toList).map zat=acc.map zat++[zat 47]++strCells x:=by simp[zjF]
         have ho3:zZ w3 w1.heap.size v3 (zbh (kept.take (k+1))):=by
          unfold zZ;rw[HT.out,e1,e2];exact hown3
         have hb2:Below w1.heap.size w1 w2:=(zar (hbw1.alloc hbw1.size _)).grown hg2 (by have:=hbw1.size;simp;omega) (zI ho1);have hb3:Below w1.heap.size w1 w3:=hb2.grown hg3 hb2.size (zI hown2);have hkept3:=zhb hk2' hg3 (zdE hown2 hk2' (by decide));clear e1 e2 hown3 hg3 hk2' hown2 hg2 hne2 ho1 hne hap hkept hb2 hc
         go_wp2
         go_roundw
         case rel=>exact ⟨k+1,by omega,by go_num,ho3,hb3,hkept3⟩
         case measure=>simp[RowKit.intOf];omega
       ·obtain rfl:k=kept.length:=by omega
        rw[List.take_length] at ho1;have hcv:=ho1.conv
        go_wp2
        go_ret2
        exact ⟨by rw[HKR.out];rfl,B1.trans (hbw1.mono B1.size)⟩
end Go.Proofs.YtbnafbdhomdcoaaGreatDoor.T5
