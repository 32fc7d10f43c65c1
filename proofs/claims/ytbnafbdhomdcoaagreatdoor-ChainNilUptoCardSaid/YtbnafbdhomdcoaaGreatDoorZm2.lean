/-
  Roct, Canon, CanonW, Kept, Print, Qu, ListW, Strs, without what the claim does not reach.
-/
import Derived.Test.YtbnafbdhomdcoaaGreatDoorZm1
import Derived.Test.YtbnafbdhomdcoaaGreatDoorZm0
import Derived.WalkMore
import Derived.Deep.LoopGhost
import Derived.Lib.Join
namespace Go.Proofs.YtbnafbdhomdcoaaGreatDoor
open Go.RowKit Go.Shelf Go.Lib
theorem zgd (c:Int) (w:World):
  Calls Tryz.prog 172 #[.int .u8 c] w fun e w'=>e= .returned (.bool (zct c))∧w=w':=by
 have hs:c=32∨c=9∨((c==32)=false∧(c==9)=false):=by simp only[beq_eq_false_iff_ne,ne_eq];omega
 rcases hs with rfl|rfl|⟨h1,h2⟩
 all_goals
  go_enter Tryz.func172,Tryz.ntmps172
  go_wp2
  go_ret
  first|exact ⟨rfl,rfl⟩|exact ⟨zd (zo0 h1 h2).symm,rfl⟩
theorem zoa (c:Int) (w:World):
  Calls Tryz.prog 119 #[.int .u8 c] w fun e w'=>e= .returned (.bool (za4 c))∧w=w':=by
 have hs:c=9∨(c<32∧(c==9)=false)∨c=127∨(32≤c∧(c==9)=false∧(c !=127)=true):=by simp only[beq_eq_false_iff_ne,bne_iff_ne,ne_eq];omega
 rcases hs with rfl|⟨h1,h2⟩|rfl|⟨h1,h2,h3⟩
 all_goals
  go_enter Tryz.func119,Tryz.ntmps119
  go_wp2
  go_ret
  first|exact ⟨rfl,rfl⟩|exact ⟨zd (zhO h1 h2).symm,rfl⟩|exact ⟨zd (zgu h1 h3).symm,rfl⟩
set_option maxRecDepth 20000 in
theorem zdw (s:ByteArray) (w:World) (hs:s.size≤maxLen):
  Calls Tryz.prog 168 #[.string s] w fun e w'=>e= .returned (.string (zaP s))∧Below w.heap.size w w':=by
 unfold maxLen at hs;have hcv:=zdW w s;have hbw:=Lib.bytesWorld_size w 5 s;have hba:=zbM.of_conv w 5 s;have hbl:=zeW w 5 s;generalize Lib.bytesWorld w 5 s=w1 at hcv hbw hba hbl;generalize grownCap w s.size 0 5=cap at hcv;have HW:=hid hbw;clear hbw
 go_enter Tryz.func168,Tryz.ntmps168
 go_wp2
 go_loopw [4] (fun i wr=>∃k:Nat,k≤s.size∧i= .int .i64 k∧zbM wr w.heap.size (zdP zdO s.data.toList k)∧Below w.heap.size w wr∧w.heap.size<wr.heap.size) (fun i _=>s.size - (RowKit.intOf i).toNat)
 case atStart=>exact ⟨0,by omega,rfl,by rw[zeP];exact hba,hbl,by have:=HW.out;omega⟩
 case round=>
  obtain ⟨k,hk,rfl,hb,hbl',hlt'⟩:=hrel
  by_cases hlt:k<s.size
  ·have hkl:k<s.data.toList.length:=by rw[size_eq];exact hlt
   have hc:=hb.cell k (by rw[zU];exact hkl);have hf:=hb.free k (by rw[zU];exact hkl);rw[zeA zdO _ _ hkl] at hc;change wr.cell? _=some (.int .u8 (bt s k)) at hc
   by_cases hu:65≤bt s k∧bt s k≤90
   ·obtain ⟨hu1,hu2⟩:=hu
    have h1:=zdQ s k
    go_wp2
    go_roundw
    case rel=>exact ⟨k+1,by omega,by go_num,by rw[zeN zdO _ _ hkl];exact hb.set (by rw[zU];exact hkl) _ _ (by unfold bt;rw[ziB ⟨hu1,hu2⟩]),hbl'.setCell (Nat.le_refl _) _,by simpa using hlt'⟩
    case measure=>simp[RowKit.intOf];omega
   ·have hsame:=zeS zdO _ _ hkl (zgO hu)
    have HS:=hid hsame;clear hsame;have hu':bt s k<65∨90<bt s k:=by omega
    clear hu
    rcases hu' with hu|hu
    all_goals
     go_wp2
     go_roundw
     case rel=>exact ⟨k+1,by omega,by go_num,by rw[HS.out];exact hb,hbl',hlt'⟩
     case measure=>simp[RowKit.intOf];omega
  ·obtain rfl:k=s.size:=by omega
   have hcv:=hb.conv Tryz.underlying80 Tryz.underlying5 Tryz.underlying9 cap;rw[zU,size_eq,←size_eq s,zfC,size_eq] at hcv
   go_wp2
   go_ret
   exact ⟨rfl,hbl'⟩
theorem zld (a b:ByteArray) (w:World) (ha:a.size≤maxLen) (hb:b.size≤maxLen):
  Calls Tryz.prog 115 #[.string a,.string b] w fun e w'=>e= .returned (.bool (zbu a b))∧Below w.heap.size w w':=by
 go_enter Tryz.func115,Tryz.ntmps115
 go_wp2_with fail
 refine (zdw a _ ha).mono ?_;rintro e w1 ⟨rfl,hb1⟩
 go_wp2_with fail
 refine (zdw b _ hb).mono ?_;rintro e w2 ⟨rfl,hb2⟩
 go_wp2
 go_ret
 exact ⟨zd (by rw[zbu,←zaj]),hb1.trans (hb2.mono hb1.size)⟩
theorem zn0 {s t u:ByteArray} (h1:zd8 t=zd8 s) (h2:zd8 t=t) (h3:zd3 u=zd3 t) (h4:u.size=0∨zct (bt u (u.size - 1))=false):u=zes s:=by
 rw[←zsY,←h1,h2,←h3,zp3 u h4]
set_option maxRecDepth 20000 in
set_option maxHeartbeats 1000000 in
theorem zsH (s:ByteArray) (w:World) (hs:s.size≤maxLen):
  Calls Tryz.prog 120 #[.string s] w fun e w'=>e= .returned (.string (zes s))∧w=w':=by
 unfold maxLen at hs
 go_enter Tryz.func120,Tryz.ntmps120
 go_wp2
 go_loop [0] (fun v=>∃t:ByteArray,v= .string t∧t.size≤s.size∧zd8 t=zd8 s) (fun v=>match v with| .string t=>t.size|_=>0)
 case atStart=>exact ⟨s,rfl,by omega,rfl⟩
 case round=>
  obtain ⟨t,rfl,hts,ht⟩:=hrel;have HT:=hid ht;clear ht
  by_cases hmore:0<t.size∧zct (bt t 0)=true
  ·obtain ⟨h0,hbl⟩:=hmore
   have hb:=@zE t 0 h0;have hsz:=zk t (a:=1) (b:=t.size) (by omega) (by omega);have hsz':(t.extract 1 t.size).size<t.size:=by omega
   have HS:=hid (zhS t h0 hbl);clear hsz
   go_wp2_with (go_at_call 172;refine (zgd _ _).mono ?_;rintro e w' ⟨rfl,rfl⟩)
   go_round
   case rel=>exact ⟨_,rfl,by omega,by rw[HS.out,HT.out]⟩
   case measure=>exact hsz'
  ·have H2:=hid (zhP t (by
    by_cases h0:0<t.size
    ·cases h:zct (bt t 0)
     ·exact .inr rfl
     ·exact absurd ⟨h0,h⟩ hmore
    ·exact .inl (by omega)))
   have hcase:t.size=0∨(0<t.size∧zct (bt t 0)=false):=by
    by_cases h0:0<t.size
    ·refine .inr ⟨h0,?_⟩
     cases h:zct (bt t 0)
     ·rfl
     ·exact absurd ⟨h0,h⟩ hmore
    ·exact .inl (by omega)
   clear hmore;have fin:∀u:ByteArray,zd3 u=zd3 t→(u.size=0∨zct (bt u (u.size - 1))=false)→u=zes s:=fun u h3 h4=>zn0 HT.out H2.out h3 h4
   have FIN:=hid fin;clear fin HT H2
   rcases hcase with hz|⟨h0,hbl⟩
   ·have hz':¬0<t.size:=by omega
    have HZ:=hid hz;clear hz
    go_wp2
    go_loop [0] (fun v=>v= .string t) (fun _=>0)
    case atStart=>exact rfl
    case round=>
     subst hrel
     go_wp2
     go_ret
     exact ⟨zbz (FIN.out t rfl (.inl HZ.out)),rfl⟩
   ·have hb:=@zE t 0 h0
    go_wp2_with (go_at_call 172;refine (zgd _ _).mono ?_;rintro e w' ⟨rfl,rfl⟩)
    clear hb hbl h0
    go_loop [0] (fun v=>∃u:ByteArray,v= .string u∧u.size≤t.size∧zd3 u=zd3 t) (fun v=>match v with| .string t=>t.size|_=>0)
    case atStart=>exact ⟨t,rfl,by omega,rfl⟩
    case round=>
     obtain ⟨u,rfl,hut,hu⟩:=hrel;have HU:=hid hu;clear hu
     by_cases h0:0<u.size
     ·have hb:=@zE u (u.size - 1) (by omega)
      have hi:((u.size:Int) - 1).toNat=u.size - 1:=by omega
      cases hbl:zct (bt u (u.size - 1))
      ·go_wp2_with (go_at_call 172;refine (zgd _ _).mono ?_;rintro e w' ⟨rfl,rfl⟩)
       go_ret
       exact ⟨zbz (FIN.out u HU.out (.inr hbl)),rfl⟩
      ·have hsz:=zk u (a:=0) (b:=u.size - 1) (by omega) (by omega)
       have hsz':(u.extract 0 (u.size - 1)).size<u.size:=by omega
       have HS:=hid (zk2 u h0 hbl);clear hsz
       go_wp2_with (go_at_call 172;refine (zgd _ _).mono ?_;rintro e w' ⟨rfl,rfl⟩)
       go_round
       case rel=>exact ⟨_,rfl,by omega,by rw[HS.out,HU.out]⟩
       case measure=>exact hsz'
     ·go_wp2
      go_ret
      exact ⟨zbz (FIN.out u HU.out (.inl (by omega))),rfl⟩
theorem zjh (s:ByteArray) (w:World) (hs:s.size≤maxLen):
  Calls Tryz.prog 55 #[.string s] w fun e w'=>e= .returned (.bool (zbf s))∧Below w.heap.size w w':=by
 rcases Nat.lt_or_ge 8192 s.size with h|h
 ·have HN:=hid (show zbf s=false by rw[zbf,decide_eq_false (by omega)];rfl)
  have hd:decide ((s.size:Int)≤8192)=false:=by simp;omega
  go_enter Tryz.func55,Tryz.ntmps55
  go_wp2
  go_ret
  exact ⟨zd HN.out.symm,Below.refl _ _⟩
 ·have hd:decide ((s.size:Int)≤8192)=true:=by simp;omega
  have hF:=zd7 s w hs
  cases hf:zcb s
  ·have HN:=hid (show zbf s=false by rw[zbf,hf];simp)
   rw[hf] at hF;clear hf
   go_enter Tryz.func55,Tryz.ntmps55
   go_wp2_with (go_at_call 91;refine hF.mono ?_;rintro e w' ⟨rfl,rfl⟩)
   go_ret
   exact ⟨zd HN.out.symm,Below.refl _ _⟩
  ·have HN:=hid (show zbf s=(zes s).toList.beq s.toList by rw[zbf,hf,decide_eq_true h];simp only[Bool.true_and];exact (zaj _ _).symm)
   rw[hf] at hF;clear hf
   go_enter Tryz.func55,Tryz.ntmps55
   go_wp2_with (first|(go_at_call 91;refine hF.mono ?_;rintro e w' ⟨rfl,rfl⟩)|(go_at_call 92;refine (zkz s _ hs).mono ?_;rintro e w1 ⟨rfl,hb⟩))
   go_ret
   exact ⟨zd HN.out.symm,by assumption⟩
set_option maxRecDepth 20000 in
theorem zgg (s:ByteArray) (w:World) (hs:s.size≤maxLen):
  Calls Tryz.prog 81 #[.string s] w fun e w'=>e= .returned (.bool (zbf s))∧w=w':=by
 have HS:=hid hs;unfold maxLen at hs
 go_enter Tryz.func81,Tryz.ntmps81
 go_wp2
 go_loop [3] (fun i=>∃k:Nat,k≤s.size∧i= .int .i64 k∧zbx za4 s k) (fun i=>s.size - (RowKit.intOf i).toNat)
 case atStart=>exact ⟨0,by omega,rfl,zbx.zero _ _⟩
 case round=>
  obtain ⟨k,hk,rfl,hall⟩:=hrel
  by_cases hlt:k<s.size
  ·have hb:=@zE s k hlt
   go_wp2_with (go_at_call 119;refine (zoa _ _).mono ?_;rintro e w' ⟨rfl,rfl⟩)
   ·have h:(!za4 (bt s k))=true:=by assumption
    go_ret
    exact ⟨zd (by rw[zbf,zcb,zaB hlt (by simpa using h)];simp),rfl⟩
   ·have h:(!za4 (bt s k))=false:=by assumption
    go_round
    case rel=>exact ⟨k+1,by omega,by go_num,hall.succ (by simpa using h)⟩
    case measure=>simp[RowKit.intOf];omega
  ·obtain rfl:k=s.size:=by omega
   have hf:zcb s=true:=zaU hall
   rcases Nat.lt_or_ge 8192 s.size with h|h
   ·have HN:=hid (show zbf s=false by rw[zbf,decide_eq_false (by omega)];rfl)
    have hd:decide ((s.size:Int)≤8192)=false:=by simp;omega
    clear hf hall
    go_wp2
    go_ret
    exact ⟨zd HN.out.symm,rfl⟩
   ·have HN:=hid (show zbf s=(zes s).toList.beq s.toList by rw[zbf,hf,decide_eq_true h];simp only[Bool.true_and];exact (zaj _ _).symm)
    have hd:decide ((s.size:Int)≤8192)=true:=by simp;omega
    clear hf hall
    go_wp2_with (go_at_call 120;refine (zsH s _ HS.out).mono ?_;rintro e w1 ⟨rfl,rfl⟩)
    go_ret
    exact ⟨zd HN.out.symm,rfl⟩
theorem zjf {l:List Fl} {k:Nat} {p:Fl} (P:Fl→Bool) (h:l[k]?=some p):(l.take (k+1)).filter P=if P p=true then (l.take k).filter P++[p] else (l.take k).filter P:=by
 rw[zb6 h,List.filter_append]
 cases e:P p<;>simp[e]
set_option maxRecDepth 20000 in
set_option maxHeartbeats 1000000 in
theorem ztF (A:Option Addr) (c:Nat) (l:List Fl) (F:FuncId) (cap:Value) (P:Fl→Bool) (w:World) (hr:Row w A (zj l)) (hl:l.length≤4398046511104)
  (hcf:∀args w,(callFunc F args).run Tryz.prog w= .ok (.enter F args) w)
  (hF:∀W,Below w.heap.size w W→∀x y,(x,y)∈l→Calls Tryz.prog F #[.agg #[.string x,.string y],cap] W fun e W'=>e= .returned (.bool (P (x,y)))∧Below W.heap.size W W'):
  Calls Tryz.prog 138 #[.slice A l.length c,.func (.func F) #[] #[cap]] w (zgf 59 w (l.filter P)):=by
 obtain ⟨i0,hi0,hz0,hz1,hz2⟩:=info_parts zez;have HF:=hid hF;clear hF
 go_enter Tryz.func138,Tryz.ntmps138
 go_wp2
 go_loopw [5,10] (fun v i wr=>∃k:Nat,k≤l.length∧i= .int .i64 k∧wr.ownsRow w.heap.size 59 2 v ((l.take k).filter P).length (zj ((l.take k).filter P))∧Below w.heap.size w wr) (fun _ i _=>l.length - (RowKit.intOf i).toNat)
 case atStart=>exact ⟨0,by omega,rfl,World.ownsRow_nil _ _ _ _,Below.refl _ _⟩
 case round=>
  obtain ⟨k,hk,rfl,hown,hbw⟩:=hrel
  by_cases hlt:k<l.length
  ·obtain ⟨⟨x,y⟩,hxy⟩:=zD hlt
   obtain ⟨b,off,rfl,hb,h0,h1⟩:=(hr.below hbw).pair hxy;have HC:=hid (HF.out (wr.alloc (.cells #[.string x,.string y] 59)) (hbw.alloc hbw.size _) x y (List.mem_of_getElem? hxy));have HS:=hid (zjf P hxy);have hlen:((l.take k).filter P).length≤k:=Nat.le_trans (List.length_filter_le _ _) (List.length_take_le _ _);clear hxy
   go_wp2_with fail
   refine HC.out.mono ?_;rintro e w1 ⟨rfl,hb1⟩;have hb1':Below (wr.heap.size+1) (wr.alloc (.cells #[.string x,.string y] 59)) w1:=by simpa using hb1
   obtain ⟨⟨hc0,hc1⟩,_,hsz⟩:=zvq hb1';have hbw1:Below w.heap.size w w1:=hbw.trans ((zw hb1').mono hbw.size);have hown1:=zW (hown.alloc _) hb1;clear hb1 hb1' h0 h1 hown HC
   cases hp:P (x,y)
   ·go_wp2
    go_roundw
    case rel=>exact ⟨k+1,by omega,by go_num,by rw[HS.out,if_neg (by rw[hp];simp)];exact hown1,hbw1⟩
    case measure=>simp[RowKit.intOf];omega
   ·go_wp2_with (at_builtin;refine wpList_append_own _ rfl _ _ 25 rfl w.heap.size 59 i0 (.agg #[.string ⟨#[]⟩,.string ⟨#[]⟩]) 2 32 Tryz.underlying25 hi0 hz0 hz1 hz2 rfl (by decide) _ _ _ rfl (hown1.alloc _) ⟨w1.heap.size,0,none⟩ 1 1 [.string x,.string y] rfl rfl ?c0 ?c1 ?c2 ?c3 ?c4 ?c5)
    case c0=>exact zk6 _ x y _ rfl
    case c1=>exact zA [(x,y)]
    case c2=>unfold maxLen;omega
    case c3=>omega
    case c4=>simp;have:=hbw1.size;omega
    case c5=>
     intro v' w2 hown2 hg2 _
     go_wp2
     go_roundw
     case rel=>exact ⟨k+1,by omega,by go_num,by rw[HS.out,if_pos hp,zX,List.length_append];exact hown2,(hbw1.alloc hbw1.size _).grown hg2 (by simp;have:=hbw1.size;omega) (zI hown1)⟩
     case measure=>simp[RowKit.intOf];omega
  ·obtain rfl:k=l.length:=by omega
   rw[List.take_length] at hown;obtain ⟨A',c',rfl⟩:=zC hown
   go_wp2
   go_ret
   exact ⟨A',c',rfl,hown,hbw⟩
def zF (l:List Fl) (name:ByteArray):List Fl:=l.filter fun p=>!zbu p.1 name
set_option maxRecDepth 20000 in
theorem zoz (x y name:ByteArray) (nb:Nat) (w:World) (hx:x.size≤maxLen) (hn:name.size≤maxLen) (hc:w.cell? ⟨nb,0,none⟩=some (.string name)) (hlt:nb<w.heap.size):
  Calls Tryz.prog 139 #[.agg #[.string x,.string y],.pointer (some ⟨nb,0,none⟩)] w fun e w'=>e= .returned (.bool (!zbu x name))∧Below w.heap.size w w':=by
 go_enter Tryz.func139,Tryz.ntmps139
 go_wp2_with fail
 refine (zfz x name _ hx hn).mono ?_;rintro e w1 ⟨rfl,hb⟩;have hbw:=zw (by simpa using hb)
 go_wp2
 go_ret
 exact ⟨rfl,hbw⟩
set_option maxRecDepth 20000 in
theorem zqO (A:Option Addr) (c:Nat) (l:List Fl) (name:ByteArray) (w:World) (hr:Row w A (zj l)) (hl:l.length≤4398046511104) (hw:zd6 l) (hn:name.size≤maxLen):
  Calls Tryz.prog 94 #[.slice A l.length c,.string name] w (zgf 59 w (zF l name)):=by
 have hmf:∀(fn:Fn) (first cap:Array Value) (w:World),(Instr.makeFunc fn first cap).run Tryz.prog w= .ok (.func fn first cap) w:=fun _ _ _ _=>rfl
 have hK:=ztF A c l 139 (.pointer (some ⟨w.heap.size,0,none⟩)) (fun p=>!zbu p.1 name) (w.alloc (.cells #[.string name] 9)) (hr.alloc _) hl (fun args w=>Tryz.call139 args w) (fun W hW x y hxy=>zoz x y name w.heap.size W ((hw _ hxy).1) hn (by
  rw[hW.cell (p:=⟨w.heap.size,0,none⟩) (by simp)];simp) (by have:=hW.size;simp at this;omega))
 have HK:=hid hK;clear hK
 go_enter Tryz.func94,Tryz.ntmps94
 go_wp2_with fail
 refine HK.out.mono ?_;rintro e w1 ⟨A1,c1,rfl,hown,hb⟩;have hbw:=zw (by simpa using hb)
 go_wp2
 go_ret
 exact ⟨A1,c1,rfl,hown.mono (by simp),hbw⟩
set_option maxRecDepth 20000 in
theorem zrD (A:Option Addr) (c:Nat) (l:List Fl) (w:World) (hr:Row w A (zj l)) (hl:l.length≤4398046511104):
  Calls Tryz.prog 137 #[.slice A l.length c] w (zgf 59 w l):=by
 obtain ⟨i0,hi0,hz0,hz1,hz2⟩:=info_parts zez;have heq:=fun w=>Lib.run_eql_slice_nil (P:=Tryz.prog) w 25 59 A l.length c 0 0 Tryz.underlying25
 cases A with
 |none=>
  have hnil:l=[]:=by
   cases l with
   |nil=>rfl
   |cons p l=>
    obtain ⟨b,off,h,_⟩:=hr (by rw[zK];simp)
    cases h
  subst hnil;simp only[List.length_nil] at heq
  go_enter Tryz.func137,Tryz.ntmps137
  go_wp2
  go_ret
  exact ⟨none,0,rfl,World.ownsRow_nil _ _ _ _,Below.refl _ _⟩
 |some a=>
  go_enter Tryz.func137,Tryz.ntmps137
  go_wp2_with (at_builtin;refine zq _ rfl (.tmp 5) (.tmp 6) 25 rfl w.heap.size 59 i0 (.agg #[.string ⟨#[]⟩,.string ⟨#[]⟩]) 2 32 Tryz.underlying25 hi0 hz0 hz1 hz2 rfl (by decide) _ 0 [] rfl (zuH w) _ (some a) l.length c (zj l) rfl (zv (hr.alloc _) (zK l) (by decide)) ?c1 ?c2 ?c3 ?c4 ?c5)
  case c1=>exact zA l
  case c2=>unfold maxLen;omega
  case c3=>omega
  case c4=>simp
  case c5=>
   intro v' w' hown hg hat;have hb:Below w.heap.size w w':=((Below.refl _ w).alloc (Nat.le_refl _) _).grown hg (by simp) (fun k hk=>by simp[Value.ownBlock] at hk;omega);have hown':w'.ownsRow w.heap.size 59 2 v' l.length (zj l):=by simpa using hown
   clear hg hat hown;obtain ⟨A',c',rfl⟩:=zC hown'
   go_wp2
   go_ret
   exact ⟨A',c',rfl,hown',hb⟩
section
variable {x y:ByteArray}
end
theorem zdk {T e:TypeId} {B b:Nat} {bs:List Value} {w w':World} (h:Lib.IsBuilderF T e B b bs w) (hb:Below w.heap.size w w'):Lib.IsBuilderF T e B b bs w':=by
 have one:∀p,Lib.BuilderAtF T e B b p bs w→Lib.BuilderAtF T e B b p bs w':=fun p hp=>by
  have hlt:=hp.lt;obtain ⟨hB,v,hv,hown,hne⟩:=hp;exact ⟨hB,v,(hb.block b hlt).trans hv,hown.kept (row:=none) ⟨hb.os,hb.tape,hb.output,hb.size,fun k hk _=>hb.block k hk⟩ (by cases hv:v.ownBlock<;>simp),hne⟩
 exact h.elim (fun x=>.inl (one _ x)) (fun x=>.inr (one _ x))
def zh9 (w:World) (n:Nat) (e:Ending) (w':World):Prop:=∃v:ByteArray,e= .returned (.tuple #[.string v,.int .i64 n,.int .i64 (if n=0 then 13 else 0)])∧Below w.heap.size w w'
theorem ziV {w w':World} {n:Nat} {v:ByteArray} {k x:Int} (hk:k=(n:Int)) (hx:x=if n=0 then 13 else 0) (hb:Below w.heap.size w w'):zh9 w n (.returned (.tuple #[.string v,.int .i64 k,.int .i64 x])) w':=by
 subst hk hx;exact ⟨v,rfl,hb⟩
theorem zcZ {w w':World} {s:ByteArray} (h:zde s=0) (hb:Below w.heap.size w w'):zh9 w (zde s) (.returned (.tuple #[.string ⟨#[]⟩,.int .i64 0,.int .i64 13])) w':=by
 rw[h];exact ziV rfl rfl hb
theorem zb7 (l:List UInt8) (c:UInt8):Lib.byteCells l++[.int .u8 (c.toNat:Int)]=Lib.byteCells (l++[c]):=by
 rw[Lib.byteCells_append]
 rfl
theorem zru (s:ByteArray) (k:Nat):∃c:UInt8,bt s k=(c.toNat:Int):=⟨_,rfl⟩
set_option maxRecDepth 20000 in
set_option maxHeartbeats 2000000 in
theorem zn8 (s:ByteArray) (w:World) (hs:s.size≤1099511627776) (h0:0<s.size) (hq0:bt s 0=34):
  Calls Tryz.prog 200 #[.string s] w (zh9 w (zde s)):=by
 have he:s.toList.isEmpty=false:=by rw[zo];exact decide_eq_false (by omega)
 have hb0:=@zE s 0 h0;have hc0:(bt s 0!=34)=false:=by rw[hq0];rfl
 clear hq0
 go_enter Tryz.func200,Tryz.ntmps200
 go_wp2
 go_loopw [6] (fun v wr=>∃(k:Nat) (acc:List UInt8),1≤k∧k≤s.size+1∧v= .int .i64 k∧zeU s k∧Lib.IsBuilderF 145 5 w.heap.size w.heap.size (Lib.byteCells acc) wr∧Below w.heap.size w wr∧w.heap.size<wr.heap.size∧acc.length≤k) (fun v _=>s.size - (RowKit.intOf v).toNat)
 case atStart=>exact ⟨1,[],by omega,by omega,rfl,zeU.start s,Lib.IsBuilderF.of (Lib.fresh_isBuilder 145 5 w),(Below.refl _ w).alloc (Nat.le_refl _) _,by simp,by simp⟩
 case round=>
  obtain ⟨k,acc,hk1,hk,rfl,hq,hI,hbw,hsz,hacc⟩:=hrel
  by_cases hlt:k<s.size
  ·have hb:=@zE s k hlt
   by_cases h34:bt s k=34
   ·have hc:=beq_iff_eq.2 h34
    have HE:=hid (hq.quote hlt h34);clear h34 hq
    go_wp2_with fail
    refine (Tryz.Builder_String_any_k w.heap.size w.heap.size acc _ hI (by omega)).mono ?_;rintro e w1 ⟨rfl,_,b1,_⟩
    go_wp2
    go_ret3
    exact ziV (by rw[HE.out];omega) (by rw[HE.out,if_neg (by omega)]) (hbw.trans b1)
   ·have hc:(bt s k==34)=false:=beq_eq_false_iff_ne.2 h34
    by_cases h92:bt s k=92
    ·have hc2:=beq_iff_eq.2 h92
     by_cases hend:k+1=s.size
     ·have HE:=hid (hq.esc_end hend h92)
      have hc3:((k:Int)+1==(s.size:Int))=true:=beq_iff_eq.2 (by omega);clear h34 h92 hq hend
      go_wp2
      go_ret3
      exact zcZ HE.out hbw
     ·have hlt2:k+1<s.size:=by omega
      have hc3:((k:Int)+1==(s.size:Int))=false:=beq_eq_false_iff_ne.2 (by omega);have hb2:=@zE s (k+1) hlt2;have hi:((k:Int)+1).toNat=k+1:=by omega
      have hlt3:(k:Int)+1<(s.size:Int):=by omega
      cases hin:za4 (bt s (k+1))
      ·have HE:=hid (hq.esc_bad hlt2 h92 hin)
       clear h34 h92 hq hend
       go_wp2_with fail
       refine (zcH _ _).mono ?_;rw[hin];rintro e w' ⟨rfl,rfl⟩
       go_wp2
       go_ret3
       exact zcZ HE.out hbw
      ·have HE:=hid (hq.esc_on hlt2 h92 hin)
       clear h34 h92 hq hend
       go_wp2_with fail
       refine (zcH _ _).mono ?_;rw[hin];rintro e w' ⟨rfl,rfl⟩
       go_wp2_with fail
       obtain ⟨c,hcc⟩:=zru s (k+1);refine (zcd w.heap.size w.heap.size _ _ _ hI (by rw[Lib.byteCells_length];omega) (by omega)).mono ?_;rintro e w2 ⟨rfl,h2,hb2',_⟩;rw[hcc,zb7] at h2;have hI2:Lib.IsBuilderF 145 5 w.heap.size w.heap.size (Lib.byteCells (acc++[c])) w2:=.inr h2;have hbw2:Below w.heap.size w w2:=hbw.trans hb2';have hsz2:w.heap.size<w2.heap.size:=Nat.lt_of_lt_of_le hsz hb2'.size;clear h2 hb2' hI hcc
       go_wp2
       go_roundw
       case rel=>exact ⟨k+2,_,by omega,by omega,by go_num,HE.out,hI2,hbw2,hsz2,by simp;omega⟩
       case measure=>simp[RowKit.intOf];omega
    ·have hc2:(bt s k==92)=false:=beq_eq_false_iff_ne.2 h92
     cases hin:za4 (bt s k)
     ·have HE:=hid (hq.bad hlt h34 h92 hin)
      clear h34 h92 hq
      go_wp2_with fail
      refine (zcH _ _).mono ?_;rw[hin];rintro e w' ⟨rfl,rfl⟩
      go_wp2
      go_ret3
      exact zcZ HE.out hbw
     ·have HE:=hid (hq.on hlt h34 h92 hin)
      clear h34 h92 hq
      go_wp2_with fail
      refine (zcH _ _).mono ?_;rw[hin];rintro e w' ⟨rfl,rfl⟩
      go_wp2_with fail
      obtain ⟨c,hcc⟩:=zru s k;refine (zcd w.heap.size w.heap.size _ _ _ hI (by rw[Lib.byteCells_length];omega) (by omega)).mono ?_;rintro e w2 ⟨rfl,h2,hb2',_⟩;rw[hcc,zb7] at h2;have hI2:Lib.IsBuilderF 145 5 w.heap.size w.heap.size (Lib.byteCells (acc++[c])) w2:=.inr h2;have hbw2:Below w.heap.size w w2:=hbw.trans hb2';have hsz2:w.heap.size<w2.heap.size:=Nat.lt_of_lt_of_le hsz hb2'.size;clear h2 hb2' hI hcc
      go_wp2
      go_roundw
      case rel=>exact ⟨k+1,_,by omega,by omega,by go_num,HE.out,hI2,hbw2,hsz2,by simp;omega⟩
      case measure=>simp[RowKit.intOf];omega
  ·have HE:=hid (hq.end_ (by omega))
   clear hq
   go_wp2
   go_ret3
   exact zcZ HE.out hbw
def zhJ (w:World) (r:List ByteArray×Int) (e:Ending) (w':World):Prop:=
 ∃A c,e= .returned (.tuple #[.slice A r.1.length c,.int .i64 r.2])∧w'.ownsRow w.heap.size 9 1 (.slice A r.1.length c) r.1.length (r.1.map .string)∧Below w.heap.size w w'
theorem zoX {w w':World} {A:Option Addr} {c:Nat} {x:List ByteArray} {n:Int} {r:List ByteArray×Int} (h:r=(x,n)) (ho:w'.ownsRow w.heap.size 9 1 (.slice A x.length c) x.length (x.map .string)) (hb:Below w.heap.size w w'):
  zhJ w r (.returned (.tuple #[.slice A x.length c,.int .i64 n])) w':=by
 subst h;exact ⟨A,c,rfl,ho,hb⟩
theorem zno {w w':World} {n:Int} {r:List ByteArray×Int} (h:r=([],n)) (hb:Below w.heap.size w w'):zhJ w r (.returned (.tuple #[.slice none 0 0,.int .i64 n])) w':=by
 subst h;exact ⟨none,0,rfl,World.ownsRow_nil _ _ _ _,hb⟩
def elE (o:Option (List ByteArray)):List ByteArray×Int:=match o with
 |none=>([],14)
 |some x=>(x,0)
theorem zo4 {L:List ByteArray} {k:Nat} {x:ByteArray} (h:L[k]?=some x):zbP (L.take (k+1))=if (zes x).size=0 then zbP (L.take k) else zbP (L.take k)++[zes x]:=by
 rw[zb6 h,zfm,zht]
 split<;>simp
theorem zkE (L:List ByteArray):(zbP L).length≤L.length:=by
 unfold zbP;refine Nat.le_trans (List.length_filter_le _ _) ?_;rw[List.length_map];exact Nat.le_refl _
theorem zaa {x:ByteArray} (h:¬x.size=0):x.toList.isEmpty=false:=by rw[zo];exact decide_eq_false h
theorem zaR {x:ByteArray} (h:x.size=0):x.toList.isEmpty=true:=by rw[zo];exact decide_eq_true h
set_option maxRecDepth 20000 in
set_option maxHeartbeats 2000000 in
theorem zsu (s:ByteArray) (w:World) (hs:s.size≤1099511627776):
  Calls Tryz.prog 162 #[.string s] w (zhJ w (elE (zek s))):=by
 obtain ⟨i0,hi0,hz0,hz1,hz2⟩:=info_parts zcx
 go_enter Tryz.func162,Tryz.ntmps162
 go_wp2
 go_step3
 go_wp2
 go_step3
 go_wp2
 go_loopw [4,5,6] (fun v f t wr=>∃(a i:Nat) (acc:List ByteArray),a≤i∧i≤s.size∧f= .int .i64 a∧t= .int .i64 i∧wr.ownsRow w.heap.size 9 1 v acc.length (acc.map .string)∧Below w.heap.size w wr∧zfj s a i acc∧acc.length≤i∧(∀x∈acc,x.size≤s.size)) (fun _ _ t _=>s.size - (RowKit.intOf t).toNat)
 case atStart=>exact ⟨0,0,[],by omega,by omega,rfl,rfl,World.ownsRow_nil _ _ _ _,Below.refl _ _,zfj.start s,by simp,fun x hx=>by cases hx⟩
 case round=>
  obtain ⟨a,i,acc,ha,hi,rfl,rfl,hown,hbw,hE,hal,hax⟩:=hrel;have HAX:=hid hax;clear hax
  by_cases hlt:i<s.size
  ·have hb:=@zE s i hlt
   have hne:((i:Int)==(s.size:Int))=false:=beq_eq_false_iff_ne.2 (by omega)
   by_cases h34:bt s i=34
   ·have hc:=beq_iff_eq.2 h34
    have hz:=zk s (a:=i) (b:=s.size) (by omega) (Nat.le_refl _);have hb0:bt (s.extract i s.size) 0=bt s i:=zbe s (j:=0) (by omega);have HU:=hid (fun w=>zn8 (s.extract i s.size) w (by omega) (by omega) (by rw[hb0];exact h34));have hql:=(zoo (s.extract i s.size)).1;have HN:=hid (hE.quo_none ha hlt h34);have HO:=hid (hE.quo_on ha hlt h34);rw[hz] at hql;generalize zde (s.extract i s.size)=n at HU hql HN HO;clear h34 hE hz hb0
    rcases Nat.eq_zero_or_pos n with hn|hn
    ·have HX:=hid (HN.out hn)
     clear HN HO
     go_wp2_with fail
     refine (HU.out _).mono ?_;rw[hn];rintro e w1 ⟨v,rfl,hb1⟩;clear hn
     go_wp2
     rw[Exit.noGoto_ret];go_ret2;exact zno (by rw[HX.out];rfl) (hbw.trans (hb1.mono hbw.size))
    ·have HX:=hid (HO.out hn)
     clear HN HO
     go_wp2_with fail
     refine (HU.out _).mono ?_;rintro e w1 ⟨v,rfl,hb1⟩;rw[if_neg (by omega)]
     go_wp2
     go_roundw
     case rel=>exact ⟨a,i+n,acc,by omega,by omega,rfl,by go_num,zW hown hb1,hbw.trans (hb1.mono hbw.size),HX.out,by omega,HAX.out⟩
     case measure=>simp[RowKit.intOf];omega
   ·have hc:(bt s i==34)=false:=beq_eq_false_iff_ne.2 h34
    by_cases h44:bt s i=44
    ·have hc2:=beq_iff_eq.2 h44
     have HX:=hid (hE.comma ha hlt h44);have hpz:=zk s (a:=a) (b:=i) ha (by omega);have hps:(s.extract a i).size≤s.size:=by omega
     clear h34 h44 hE hpz
     go_wp2_with (at_builtin;refine wpList_append_own _ rfl _ _ 22 rfl w.heap.size 9 i0 (.string ⟨#[]⟩) 1 16 Tryz.underlying22 hi0 hz0 hz1 hz2 rfl (by decide) _ _ _ rfl (hown.alloc _) ⟨wr.heap.size,0,none⟩ 1 1 [.string (s.extract a i)] rfl rfl (cell_one_new _ _ _) ?c1 ?c2 ?c3 ?c4 ?c5)
     case c1=>exact za5 [s.extract a i]
     case c2=>unfold maxLen;omega
     case c3=>omega
     case c4=>simp;have:=hbw.size;omega
     case c5=>
      intro v' w2 hown2 hg2 _
      go_wp2
      go_roundw
      case rel=>exact ⟨i+1,i+1,acc++[s.extract a i],by omega,by omega,by go_num,by go_num,by rw[List.map_append,List.length_append];exact hown2,(hbw.alloc hbw.size _).grown hg2 (by simp;have:=hbw.size;omega) (zI hown),HX.out,by simp;omega,fun x hx=>by
       rcases List.mem_append.1 hx with hx|hx
       ·exact HAX.out x hx
       ·simp at hx;subst hx;exact hps⟩
      case measure=>simp[RowKit.intOf];omega
    ·have hc2:(bt s i==44)=false:=beq_eq_false_iff_ne.2 h44
     have HX:=hid (hE.on ha hlt h34 h44);clear h34 h44 hE
     go_wp2
     go_roundw
     case rel=>exact ⟨a,i+1,acc,by omega,by omega,rfl,by go_num,hown,hbw,HX.out,by omega,HAX.out⟩
     case measure=>simp[RowKit.intOf];omega
  ·obtain rfl:i=s.size:=by omega
   have HX:=hid (hE.end_ rfl);have hpz:=zk s (a:=a) (b:=s.size) ha (Nat.le_refl _);have hps:(s.extract a s.size).size≤s.size:=by omega
   have HL:=hid (show ∀x∈acc++[s.extract a s.size],x.size≤s.size from fun x hx=>by
    rcases List.mem_append.1 hx with hx|hx
    ·exact HAX.out x hx
    ·simp at hx;subst hx;exact hps)
   clear hE hpz
   go_wp2_with (at_builtin;refine wpList_append_own _ rfl _ _ 22 rfl w.heap.size 9 i0 (.string ⟨#[]⟩) 1 16 Tryz.underlying22 hi0 hz0 hz1 hz2 rfl (by decide) _ _ _ rfl (hown.alloc _) ⟨wr.heap.size,0,none⟩ 1 1 [.string (s.extract a s.size)] rfl rfl (cell_one_new _ _ _) ?d1 ?d2 ?d3 ?d4 ?d5)
   case d1=>exact za5 [s.extract a s.size]
   case d2=>unfold maxLen;omega
   case d3=>omega
   case d4=>simp;have:=hbw.size;omega
   case d5=>
    intro v' w2 hown2 hg2 _;have hb2:Below w.heap.size w w2:=(hbw.alloc hbw.size _).grown hg2 (by simp;have:=hbw.size;omega) (zI hown);have e1:acc.map Value.string++[Value.string (s.extract a s.size)]=(acc++[s.extract a s.size]).map Value.string:=by simp
    rw[e1] at hown2;have hlen:(acc++[s.extract a s.size]).length=acc.length+1:=by simp
    obtain ⟨A2,c2,rfl⟩:=zC hown2;have hrow:=zak hown2;have hcap:=zdq hown2;clear hown hg2 hbw hown2 e1;generalize acc++[s.extract a s.size]=L at *;rw[←hlen] at hcap ⊢;clear hps ha;have hLl:L.length≤s.size+1:=by omega
    clear hlen hal
    go_wp2
    go_loopw [10,60] (fun v i wr=>∃k:Nat,k≤L.length∧i= .int .i64 k∧wr.ownsRow w2.heap.size 9 1 v (zbP (L.take k)).length ((zbP (L.take k)).map .string)∧Below w2.heap.size w2 wr) (fun _ i _=>L.length - (RowKit.intOf i).toNat)
    case atStart=>exact ⟨0,by omega,rfl,World.ownsRow_nil _ _ _ _,Below.refl _ _⟩
    case round=>
     obtain ⟨k,hk,rfl,hown,hbw⟩:=hrel
     by_cases hlt:k<L.length
     ·obtain ⟨x,hx⟩:=zD hlt
      obtain ⟨b,off,rfl,hb,h0⟩:=(hrow.below hbw).str hx;have hxs:=HL.out x (List.mem_of_getElem? hx);have hlk:=Nat.le_trans (zkE (L.take k)) (List.length_take_le _ _);have HT:=hid (fun w=>zkz x w (by unfold maxLen;omega));have HC:=hid (zo4 hx);clear hx;generalize zes x=y at HT HC
      go_wp2_with fail
      refine (HT.out _).mono ?_;rintro e w3 ⟨rfl,hb3⟩;have hown3:=zW hown hb3;have hbw3:=hbw.trans (hb3.mono hbw.size);clear hown hb3
      by_cases hy:y.size=0
      ·have he:=zaR hy
       have HC2:=hid (HC.out.trans (if_pos hy));clear hy HC
       go_wp2
       go_roundw
       case rel=>exact ⟨k+1,by omega,by go_num,by rw[HC2.out];exact hown3,hbw3⟩
       case measure=>simp[RowKit.intOf];omega
      ·have he:=zaa hy
       have HC2:=hid (HC.out.trans (if_neg hy));clear hy HC
       go_wp2_with (at_builtin;refine wpList_append_own _ rfl _ _ 22 rfl w2.heap.size 9 i0 (.string ⟨#[]⟩) 1 16 Tryz.underlying22 hi0 hz0 hz1 hz2 rfl (by decide) _ _ _ rfl (hown3.alloc _) ⟨w3.heap.size,0,none⟩ 1 1 [.string y] rfl rfl (cell_one_new _ _ _) ?e1 ?e2 ?e3 ?e4 ?e5)
       case e1=>exact za5 [y]
       case e2=>unfold maxLen;omega
       case e3=>omega
       case e4=>simp;have:=hbw3.size;omega
       case e5=>
        intro v' w4 hown4 hg4 _
        go_wp2
        go_roundw
        case rel=>exact ⟨k+1,by omega,by go_num,by rw[HC2.out,List.map_append,List.length_append];exact hown4,(hbw3.alloc hbw3.size _).grown hg4 (by simp;have:=hbw3.size;omega) (zI hown3)⟩
        case measure=>simp[RowKit.intOf];omega
     ·obtain rfl:k=L.length:=by omega
      rw[List.take_length] at hown;obtain ⟨A',c',rfl⟩:=zC hown
      go_wp2
      rw[Exit.noGoto_ret];go_ret2;exact zoX (by rw[HX.out];rfl) (hown.mono hb2.size) (hb2.trans (hbw.mono hb2.size))
theorem zoc (acc:List ByteArray) (x:ByteArray):zbP (acc++[x])=if (zes x).size=0 then zbP acc else zbP acc++[zes x]:=by
 rw[zfm,zht]
 split<;>simp
set_option maxRecDepth 20000 in
set_option maxHeartbeats 1000000 in
theorem zlA (A:Option Addr) (c:Nat) (l:List Fl) (name:ByteArray) (w:World) (hr:Row w A (zj l)) (hl:l.length≤4398046511104) (hw:zd6 l) (hn:name.size≤maxLen):
  Calls Tryz.prog 77 #[.slice A l.length c,.string name] w (zfF w (za9 l name)):=by
 obtain ⟨i0,hi0,hz0,hz1,hz2⟩:=info_parts zcx
 go_enter Tryz.func77,Tryz.ntmps77
 go_wp2
 go_loopw [5,10] (fun v i wr=>∃k:Nat,k≤l.length∧i= .int .i64 k∧wr.ownsRow w.heap.size 9 1 v (za9 (l.take k) name).length ((za9 (l.take k) name).map .string)∧Below w.heap.size w wr) (fun _ i _=>l.length - (RowKit.intOf i).toNat)
 case atStart=>exact ⟨0,by omega,rfl,World.ownsRow_nil _ _ _ _,Below.refl _ _⟩
 case round=>
  obtain ⟨k,hk,rfl,hown,hbw⟩:=hrel
  by_cases hlt:k<l.length
  ·obtain ⟨⟨x,y⟩,hxy⟩:=zD hlt
   obtain ⟨b,off,rfl,hb,h0,h1⟩:=(hr.below hbw).pair hxy;have hwx:=(hw.at_ hxy).1;have HX:=hid hxy;clear hxy;have hlen:=zed (l.take k) name;have hlk:(za9 (l.take k) name).length≤k:=Nat.le_trans hlen (List.length_take_le _ _);clear hlen
   go_wp2_with fail
   refine (zld x name _ hwx hn).mono ?_;rintro e w1 ⟨rfl,hb1⟩;have hb1':Below (wr.heap.size+1) (wr.alloc (.cells #[.string x,.string y] 69)) w1:=by simpa using hb1
   obtain ⟨⟨hc0,hc1⟩,_,hsz⟩:=zvq hb1';have hbw1:Below w.heap.size w w1:=hbw.trans ((zw hb1').mono hbw.size);have hown1:=zW (hown.alloc _) hb1;clear hb1 hb1' h0 h1 hown
   cases hal:zbu x name
   ·have HS:=hid (zhk (name:=name) HX.out)
    go_wp2
    go_roundw
    case rel=>exact ⟨k+1,by omega,by go_num,by rw[HS.out,if_neg (by rw[hal];simp)];exact hown1,hbw1⟩
    case measure=>simp[RowKit.intOf];omega
   ·have HS:=hid (zhk (name:=name) HX.out)
    go_wp2_with (at_builtin;refine wpList_append_own _ rfl _ _ 22 rfl w.heap.size 9 i0 (.string ⟨#[]⟩) 1 16 Tryz.underlying22 hi0 hz0 hz1 hz2 rfl (by decide) _ _ _ rfl (hown1.alloc _) ⟨w1.heap.size,0,none⟩ 1 1 [.string y] rfl rfl (cell_one_new _ _ _) ?c1 ?c2 ?c3 ?c4 ?c5)
    case c1=>exact za5 [y]
    case c2=>unfold maxLen;omega
    case c3=>omega
    case c4=>simp;have:=hbw1.size;omega
    case c5=>
     intro v' w2 hown2 hg2 _
     go_wp2
     go_roundw
     case rel=>exact ⟨k+1,by omega,by go_num,by rw[HS.out,if_pos hal,List.map_append,List.length_append];exact hown2,(hbw1.alloc hbw1.size _).grown hg2 (by simp;have:=hbw1.size;omega) (zI hown1)⟩
     case measure=>simp[RowKit.intOf];omega
  ·obtain rfl:k=l.length:=by omega
   rw[List.take_length] at hown;obtain ⟨A',c',rfl⟩:=zC hown
   go_wp2
   go_ret
   exact ⟨A',c',rfl,hown,hbw⟩
theorem ziv (l:List Fl) (name:ByteArray):((za9 l name).map (·.size)).sum+(za9 l name).length*3≤zbT l:=by
 induction l with
 |nil=>exact Nat.le_refl _
 |cons p l ih=>
  have e:zbT (p::l)=p.1.size+p.2.size+3+zbT l:=by simp[zbT]
  have h:za9 (p::l) name=if zbu p.1 name=true then p.2::za9 l name else za9 l name:=by
   unfold za9
   cases hp:zbu p.1 name<;>simp[hp]
  rw[h,e]
  split
  ·simp only[List.map_cons,List.sum_cons,List.length_cons];omega
  ·omega
theorem zib (l:List Fl):l.length*3≤zbT l:=by
 induction l with
 |nil=>exact Nat.le_refl _
 |cons p l ih=>
  have e:zbT (p::l)=p.1.size+p.2.size+3+zbT l:=by simp[zbT]
  rw[e,List.length_cons];omega
theorem zha {l:List Fl} (h:zbT l≤1048576):zd6 l:=by
 induction l with
 |nil=>intro p hp;cases hp
 |cons p l ih=>
  have e:zbT (p::l)=p.1.size+p.2.size+3+zbT l:=by simp[zbT]
  intro q hq
  rcases List.mem_cons.1 hq with rfl|hq
  ·constructor<;>unfold maxLen<;>omega
  ·exact ih (by omega) q hq
theorem znI (zs:List ByteArray) (x:ByteArray):Lib.containsS zs x=zb5 zs x:=by
 rw[Bool.eq_iff_iff,Lib.containsS_iff,zkp]
theorem zum {zs:List ByteArray} {j:Nat} (h:j<zs.length):(zs.map Value.string)[j]?=some (.string (zs.getD j ByteArray.empty)):=by
 rw[List.getElem?_map,List.getD_eq_getElem?_getD,List.getElem?_eq_getElem h]
 rfl
theorem zcC (A:Option Addr) (c:Nat) (zs:List ByteArray) (x:ByteArray) (w:World) (hr:Row w A (zs.map .string)) (hl:zs.length≤1099511627776):
  Calls Tryz.prog 95 #[.slice A zs.length c,.string x] w fun e w'=>e= .returned (.bool (zb5 zs x))∧w=w':=by
 rcases Nat.eq_zero_or_pos zs.length with h0|h0
 ·obtain rfl:zs=[]:=List.eq_nil_of_length_eq_zero h0
  exact (Tryz.slices_Contains_string_empty A c x w).mono fun e w' ⟨h1,h2⟩=>⟨h1,h2.symm⟩
 ·obtain ⟨b,off,rfl,hb,hc⟩:=hr (by rw[List.length_map];exact h0)
  refine (Tryz.slices_Contains_string b off zs.length c zs x w (Nat.le_refl _) (by omega) (fun j hj=>hc j _ (zum hj))).mono fun e w' ⟨h1,h2⟩=>⟨?_,h2.symm⟩
  rw[h1,List.take_length,znI]
def zaw (vs:List ByteArray):ByteArray:=⟨(Lib.join (vs.map (·.data.toList)) [44,32]).toArray⟩
theorem ziQ (vs:List ByteArray):(Lib.join (vs.map (·.data.toList)) [44,32]).length≤(vs.map (·.size)).sum+vs.length*2:=by
 cases vs with
 |nil=>exact Nat.le_refl _
 |cons x r=>
  rw[List.map_cons,Lib.join_length];have:∀l:List ByteArray,Lib.lens (l.map (·.data.toList))=(l.map (·.size)).sum:=by
   intro l
   induction l with
   |nil=>rfl
   |cons y l ih=>simp[Lib.lens,←ih]
  rw[←List.map_cons (f:=fun x:ByteArray=>x.data.toList),this];simp
  omega
theorem zqj (vs:List ByteArray):zaw (vs.take 0)=⟨#[]⟩:=rfl
theorem zjt {vs:List ByteArray} {v:ByteArray} (h:vs[0]?=some v):zaw (vs.take (0+1))=v:=by
 cases vs with
 |nil=>simp at h
 |cons x r=>
  simp at h;subst h;unfold zaw;simp[Lib.join_one]
theorem zkk {vs:List ByteArray} {k:Nat} {v:ByteArray} (hk:0<k) (h:vs[k]?=some v):zaw (vs.take (k+1))=zaw (vs.take k)++⟨#[44,32]⟩++v:=by
 cases vs with
 |nil=>simp at h
 |cons x r=>
  obtain ⟨j,rfl⟩:∃j,k=j+1:=⟨k - 1,by omega⟩;have h':(r.map (·.data.toList))[j]?=some v.data.toList:=by rw[List.getElem?_map];simp at h;rw[h];rfl
  apply zV
  unfold zaw;simp only[List.take_succ_cons,List.map_cons,Lib.join_cons,List.map_take,Lib.joinTail_take_succ _ _ _ _ h'];simp
theorem zjm (vs:List ByteArray) (k:Nat):(zaw (vs.take k)).size≤(vs.map (·.size)).sum+vs.length*2:=by
 have h:=ziQ (vs.take k);have h2:∀l:List ByteArray,((l.take k).map (·.size)).sum≤(l.map (·.size)).sum:=by
  intro l
  induction l generalizing k with
  |nil=>simp
  |cons x l ih=>
   cases k with
   |zero=>simp
   |succ k=>simp only[List.take_succ_cons,List.map_cons,List.sum_cons];have:=ih k (ziQ _);omega
 have h3:=h2 vs;have h4:(vs.take k).length≤vs.length:=by rw[List.length_take];omega
 have h5:(zaw (vs.take k)).size=(Lib.join ((vs.take k).map (·.data.toList)) [44,32]).length:=by rw[←size_eq];rfl
 omega
set_option maxRecDepth 20000 in
theorem zkM (A:Option Addr) (c:Nat) (zs:List ByteArray) (w:World) (hr:Row w A (zs.map .string)) (hc:zs.length≤c) (hl:(zs.map (·.size)).sum+zs.length*3≤1099511627776):
  Calls Tryz.prog 96 #[.slice A zs.length c] w fun e w'=>e= .returned (.string (zaw zs))∧Below w.heap.size w w':=by
 rcases Nat.eq_zero_or_pos zs.length with h0|h0
 ·obtain rfl:zs=[]:=List.eq_nil_of_length_eq_zero h0
  have hJ:=hid (Tryz.strings_Join_none A c ⟨#[44,32]⟩ w)
  go_enter Tryz.func96,Tryz.ntmps96
  go_wp2_with fail
  refine hJ.out.mono ?_;rintro e w1 ⟨rfl,rfl⟩
  go_wp2
  go_ret
  exact ⟨rfl,Below.refl _ _⟩
 ·obtain ⟨b,off,rfl,hb,hcell⟩:=hr (by rw[List.length_map];exact h0)
  have hlen:=ziQ zs;have hJ:=hid (Tryz.strings_Join b off c zs ⟨#[44,32]⟩ w (fun j x hx=>hcell j _ (by rw[List.getElem?_map,hx];rfl)) hb (by omega) hc (by show (Lib.join _ [44,32]).length≤_;omega))
  go_enter Tryz.func96,Tryz.ntmps96
  go_wp2_with fail
  refine hJ.out.mono ?_;rintro e w1 ⟨rfl,hb1⟩
  go_wp2
  go_ret
  exact ⟨rfl,hb1⟩
set_option maxRecDepth 20000 in
theorem zpK (A:Option Addr) (c:Nat) (l:List Fl) (name:ByteArray) (w:World) (hr:Row w A (zj l)) (hk:zbT l≤1048576) (hn:name.size≤maxLen):
  Calls Tryz.prog 112 #[.slice A l.length c,.string name] w fun e w'=>e= .returned (.tuple #[.string (zaw (za9 l name)),.bool (decide (0<(za9 l name).length))])∧Below w.heap.size w w':=by
 have hbl:=zib l;have hba:=ziv l name;have HA:=hid (zm3 A c l name w hr (by omega) (zha hk) hn);generalize za9 l name=vs at *
 go_enter Tryz.func112,Tryz.ntmps112
 go_wp2_with fail
 refine HA.out.mono ?_;rintro e w1 ⟨A1,c1,rfl,hown,hb⟩;have hcap:=zdq hown;have hrow:=zak hown;clear hown
 go_wp2_with fail
 refine (zkM A1 c1 vs w1 hrow hcap (by omega)).mono ?_;rintro e w2 ⟨rfl,hb2⟩
 rcases Nat.eq_zero_or_pos vs.length with h0|h0
 ·have hd:decide ((0:Int)<(vs.length:Int))=false:=decide_eq_false (by omega)
  have HD:=hid (show decide (0<vs.length)=false from decide_eq_false (by omega));clear h0
  go_wp2
  go_ret2
  exact ⟨by first|rfl|(rw[HD.out];rfl),hb.trans (hb2.mono hb.size)⟩
 ·have hd:decide ((0:Int)<(vs.length:Int))=true:=decide_eq_true (by omega)
  have HD:=hid (show decide (0<vs.length)=true from decide_eq_true (by omega))
  go_wp2
  go_ret2
  exact ⟨by first|rfl|(rw[HD.out];rfl),hb.trans (hb2.mono hb.size)⟩
set_option maxRecDepth 20000 in
set_option maxHeartbeats 1000000 in
theorem zoS (A:Option Addr) (c:Nat) (l:List Fl) (name:ByteArray) (w:World) (hr:Row w A (zj l)) (hk:zbT l≤1048576) (hn:name.size≤maxLen):
  Calls Tryz.prog 49 #[.slice A l.length c,.string name] w fun e w'=>e= .returned (.tuple #[.string (zaw (za9 l name)),.bool (decide (0<(za9 l name).length))])∧Below w.heap.size w w':=by
 have hbl:=zib l;have hba:=ziv l name;have HA:=hid (zlA A c l name w hr (by omega) (zha hk) hn);generalize za9 l name=vs at *
 go_enter Tryz.func49,Tryz.ntmps49
 go_wp2_with fail
 refine HA.out.mono ?_;rintro e w1 ⟨A1,c1,rfl,hown,hb⟩;have hrow:=zak hown;clear hown
 go_wp2
 go_loop [7,15] (fun v i=>∃k:Nat,k≤vs.length∧i= .int .i64 k∧v= .string (zaw (vs.take k))) (fun _ i=>vs.length - (RowKit.intOf i).toNat)
 case atStart=>exact ⟨0,by omega,rfl,rfl⟩
 case round=>
  obtain ⟨k,hkk,rfl,rfl⟩:=hrel
  by_cases hlt:k<vs.length
  ·obtain ⟨x,hx⟩:=zD hlt
   obtain ⟨b,off,rfl,hb,h0⟩:=hrow.str hx
   rcases Nat.eq_zero_or_pos k with h1|h1
   ·subst h1
    have HJ:=hid (zjt hx);have HZ:=hid (zqj vs);rw[Nat.add_zero] at h0;have hz:(zaw []).size≤0:=by decide
    have hxs:x.size≤(vs.map (·.size)).sum:=ze9 (List.mem_of_getElem? hx);have HJ0:=hid (show zaw []++x=zaw (vs.take 1) from HJ.out▸zV rfl);clear hx
    go_wp2
    go_round
    case rel=>exact ⟨1,by omega,by go_num,by rw[←HJ0.out]⟩
    case measure=>simp[RowKit.intOf];omega
   ·have HJ:=hid (zkk h1 hx)
    have hsz:=zjm vs k;have hxs:x.size≤(vs.map (·.size)).sum:=ze9 (List.mem_of_getElem? hx);clear hx
    go_wp2
    go_round
    case rel=>exact ⟨k+1,by omega,by go_num,by rw[HJ.out]⟩
    case measure=>simp[RowKit.intOf];omega
  ·obtain rfl:k=vs.length:=by omega
   have HT:=hid (List.take_length (l:=vs))
   rcases Nat.eq_zero_or_pos vs.length with h0|h0
   ·have hd:decide ((0:Int)<(vs.length:Int))=false:=decide_eq_false (by omega)
    have HD:=hid (show decide (0<vs.length)=false from decide_eq_false (by omega));clear h0
    go_wp2
    go_ret2
    exact ⟨by first|rfl|(rw[HD.out];rfl)|(rw[HD.out,HT.out];rfl),hb⟩
   ·have hd:decide ((0:Int)<(vs.length:Int))=true:=decide_eq_true (by omega)
    have HD:=hid (show decide (0<vs.length)=true from decide_eq_true (by omega))
    go_wp2
    go_ret2
    exact ⟨by first|rfl|(rw[HD.out];rfl)|(rw[HD.out,HT.out];rfl),hb⟩
end Go.Proofs.YtbnafbdhomdcoaaGreatDoor
