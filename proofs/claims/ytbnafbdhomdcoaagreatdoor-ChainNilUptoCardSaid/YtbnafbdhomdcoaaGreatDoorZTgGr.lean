/-
 TgGr, without what this claim does not reach.
-/
import Derived.Test.YtbnafbdhomdcoaaGreatDoorZTgQd
namespace Go.Proofs.YtbnafbdhomdcoaaGreatDoor.T5
open Go.RowKit Go.Shelf Go.Lib
theorem znn (l:List UInt8):l.all (zgk 16)=true→0≤zch 16 l∧zch 16 l<16 ^ l.length:=by
 refine zo6 (P:=fun l=>l.all (zgk 16)=true→0≤zch 16 l∧zch 16 l<16 ^ l.length) (fun _=>⟨Int.le_refl _,by decide⟩) (fun l c ih h=>?_) l;rw[List.all_append] at h;simp only[List.all_cons,List.all_nil,Bool.and_true,Bool.and_eq_true] at h;obtain ⟨h1,h2⟩:=ih h.1;obtain ⟨h3,h4⟩:=zdU.1 h.2;rw[zi8,List.length_append,List.length_cons,List.length_nil,Nat.zero_add,Int.pow_succ]
 omega
theorem zvk (g:ByteArray):zb3 zbZ g=g.data.toList.all (zgk 16):=by
 unfold zb3
 congr 1
 funext b
 rw[Bool.eq_iff_iff,zdU];exact zj2
theorem zns (g:ByteArray):zaS g=(decide ((zbY g 65535 16).2=0)&&decide (g.size≤4)):=by
 unfold zaS;rw[zvk];rw[Bool.eq_iff_iff];simp only[Bool.and_eq_true,decide_eq_true_eq]
 constructor
 ·rintro ⟨h0,h4,ha⟩
  refine ⟨?_,h4⟩;obtain ⟨b1,b2⟩:=znn _ ha;have hp:(16:Int) ^ g.data.toList.length≤65536:=by
   rw[size_eq];have key:∀n:Nat,n≤4→(16:Int) ^ n≤65536:=by
    intro n hn;have:n=0∨n=1∨n=2∨n=3∨n=4:=by omega
    rcases this with rfl|rfl|rfl|rfl|rfl<;>decide
   exact key _ h4
  unfold zbY;rw[if_neg,if_neg (by omega)];rintro (h|h)
  ·omega
  ·rw[ha] at h;cases h
 ·rintro ⟨h,h4⟩
  unfold zbY at h
  split at h
  ·cases h
  ·rename_i h1
   refine ⟨?_,h4,?_⟩
   ·rcases Nat.eq_zero_or_pos g.size with h2|h2
    ·exact absurd (.inl h2) h1
    ·exact h2
   ·cases e:g.data.toList.all (zgk 16)
    ·exact absurd (.inr e) h1
    ·rfl
def ze8 (last:Bool) (l:List ByteArray) (k:Nat) (n:Int):Prop:=(zba l k∧n=k)∨(k=l.length∧n=zbl last l)
theorem ze8.start (last:Bool) (l:List ByteArray):ze8 last l 0 0:=.inl ⟨zba.zero l,rfl⟩
section
variable {last:Bool} {l:List ByteArray} {k:Nat} {n:Int} {g:ByteArray}
theorem ze8.at_ (h:ze8 last l k n) (hk:k<l.length):zba l k∧n=k:=by
 rcases h with h|⟨h,_⟩
 ·exact h
 ·omega
theorem ze8.end_ (h:ze8 last l l.length n):n=zbl last l:=by
 rcases h with ⟨h1,h2⟩|⟨_,h⟩
 ·rw[h2,h1.all]
 ·exact h
theorem ze8.on (h:zba l k) (hk:l[k]?=some g) (hg:zaS g=true):ze8 last l (k+1) ((k:Int)+1):=.inl ⟨h.succ hk hg,by omega⟩
theorem ze8.last_ (h:zba l k) (hk:l[k]?=some g) (hl:k+1=l.length) (hg:zaS g=false) (hq:quad g=true):ze8 true l (k+1) ((k:Int)+2):=.inr ⟨hl,(zba.quad h hk hl hg hq).symm⟩
end
theorem zit {s:ByteArray} {last:Bool} (h:s.size=0):zam s last=0:=by unfold zam;rw[if_pos h]
theorem zji {s:ByteArray} {last:Bool} (h:¬s.size=0):zam s last=zbl last (zG s 58):=by unfold zam;rw[if_neg h]
set_option maxRecDepth 20000 in
set_option maxHeartbeats 4000000 in
theorem zgx (s:ByteArray) (last:Bool) (w:World) (hs:s.size≤4194304):
  Calls Tryz.prog 181 #[.string s,.bool last] w fun e w'=>e= .returned (.int .i64 (zam s last))∧Below w.heap.size w w':=by
 by_cases hz:s.size=0
 ·have he:s.toList.isEmpty=true:=by rw[zo];exact decide_eq_true hz
  have HR:=hid (zit (last:=last) hz);clear hz
  go_enter Tryz.func181,Tryz.ntmps181
  go_wp2
  go_ret
  exact ⟨zp HR.out.symm,Below.refl _ _⟩
 ·have he:s.toList.isEmpty=false:=by rw[zo];exact decide_eq_false hz
  have HR:=hid (zji (last:=last) hz);have HS:=hid (fun w=>zhK s 58 w hs);have hsz:=hid (fun x (hx:x∈zG s 58)=>ze1 hx);have hln:=zdv s 58;generalize zG s 58=l at *;clear hz
  go_enter Tryz.func181,Tryz.ntmps181
  go_wp2_with fail
  refine (HS.out _).mono ?_;rintro e w1 ⟨A,c,rfl,hown,hb1⟩;have hrow:=zak hown;clear hown
  go_wp2
  go_loopw [6,7] (fun v i wr=>∃(k:Nat) (n:Int),k≤l.length∧i= .int .i64 k∧v= .int .i64 n∧0≤n∧n≤4194310∧ze8 last l k n∧Below w1.heap.size w1 wr) (fun _ i _=>l.length - (RowKit.intOf i).toNat)
  case atStart=>exact ⟨0,0,by omega,rfl,rfl,by omega,by omega,ze8.start last l,Below.refl _ _⟩
  case round=>
   obtain ⟨k,n,hk,rfl,rfl,hn0,hn1,hrel,hbr⟩:=hrel
   by_cases hlt:k<l.length
   ·obtain ⟨hG,rfl⟩:=hrel.at_ hlt
    obtain ⟨g,hx⟩:=zD hlt;obtain ⟨b,off,rfl,hb,h0⟩:=(hrow.below hbr).str hx;have hgs:=Nat.le_trans (hsz.out g (List.mem_of_getElem? hx)) hs;have HX:=hid (fun w=>zmu g 65535 w (by omega) (by omega) (by omega));have hnum:=zns g;have hq:=hid (fun w=>zsj g w hgs);generalize zbY g 65535 16=r at *;obtain ⟨v,er⟩:=r;dsimp only at HX hnum
    cases hh:zaS g
    ·rw[hh] at hnum
     have hcase:(¬er=0)∨(er=0∧¬g.size≤4):=by
      by_cases h1:er=0
      ·right
       refine ⟨h1,fun h2=>?_⟩;rw[decide_eq_true h1,decide_eq_true h2] at hnum
       cases hnum
      ·exact .inl h1
     clear hnum
     by_cases hql:last=true∧k+1=l.length∧quad g=true
     ·obtain ⟨rfl,hl,hqt⟩:=hql
      have HN:=hid (ze8.last_ hG hx hl hh hqt);rw[hqt] at hq;have hil:((k:Int)==(l.length:Int) - 1)=true:=beq_iff_eq.2 (by omega);clear hG hx hh hqt hrel
      rcases hcase with h1|⟨h1,h2⟩
      all_goals
       first
       |have hee:(er==0)=false:=by simpa using h1
        clear h1
        go_wp2_with fail
        refine (HX.out _).mono ?_;rintro e w2 ⟨rfl,rfl⟩
        go_wp2_with fail
        refine (hq.out _).mono ?_;rintro e w3 ⟨rfl,b3⟩
        go_wp2
        go_roundw
        case rel=>exact ⟨k+1,_,by omega,by go_num,rfl,by omega,by omega,HN.out,hbr.trans (b3.mono hbr.size)⟩
        case measure=>simp[RowKit.intOf];omega
       |have hee:(er==0)=true:=by simpa using h1
        clear h1
        go_wp2_with fail
        refine (HX.out _).mono ?_;rintro e w2 ⟨rfl,rfl⟩
        go_wp2_with fail
        refine (hq.out _).mono ?_;rintro e w3 ⟨rfl,b3⟩
        go_wp2
        go_roundw
        case rel=>exact ⟨k+1,_,by omega,by go_num,rfl,by omega,by omega,HN.out,hbr.trans (b3.mono hbr.size)⟩
        case measure=>simp[RowKit.intOf];omega
     ·have HB:=hid (HR.out.trans (hG.bad hx hh (by
       cases hl:last
       ·exact .inl rfl
       ·by_cases h1:k+1<l.length
        ·exact .inr (.inl h1)
        ·right;right
         cases hqq:quad g
         ·rfl
         ·exact absurd ⟨hl,by omega,hqq⟩ hql)))
      have hc3:last=false∨(last=true∧k+1<l.length)∨(last=true∧k+1=l.length∧quad g=false):=by
       cases hl:last
       ·exact .inl rfl
       ·by_cases h1:k+1<l.length
        ·exact .inr (.inl ⟨rfl,h1⟩)
        ·right;right
         refine ⟨rfl,by omega,?_⟩
         cases hqq:quad g
         ·rfl
         ·exact absurd ⟨hl,by omega,hqq⟩ hql
      clear hql hG hx hh hrel
      rcases hc3 with rfl|⟨rfl,hl⟩|⟨rfl,hl,hqf⟩
      ·clear hq
       rcases hcase with h1|⟨h1,h2⟩
       all_goals
        first
        |have hee:(er==0)=false:=by simpa using h1
         clear h1
         go_wp2_with fail
         refine (HX.out _).mono ?_;rintro e w2 ⟨rfl,rfl⟩
         go_wp2
         go_ret
         exact ⟨zp HB.out.symm,hb1.trans (hbr.mono hb1.size)⟩
        |have hee:(er==0)=true:=by simpa using h1
         clear h1
         go_wp2_with fail
         refine (HX.out _).mono ?_;rintro e w2 ⟨rfl,rfl⟩
         go_wp2
         go_ret
         exact ⟨zp HB.out.symm,hb1.trans (hbr.mono hb1.size)⟩
      ·have hil:((k:Int)==(l.length:Int) - 1)=false:=beq_eq_false_iff_ne.2 (by omega)
       clear hq
       rcases hcase with h1|⟨h1,h2⟩
       all_goals
        first
        |have hee:(er==0)=false:=by simpa using h1
         clear h1
         go_wp2_with fail
         refine (HX.out _).mono ?_;rintro e w2 ⟨rfl,rfl⟩
         go_wp2
         go_ret
         exact ⟨zp HB.out.symm,hb1.trans (hbr.mono hb1.size)⟩
        |have hee:(er==0)=true:=by simpa using h1
         clear h1
         go_wp2_with fail
         refine (HX.out _).mono ?_;rintro e w2 ⟨rfl,rfl⟩
         go_wp2
         go_ret
         exact ⟨zp HB.out.symm,hb1.trans (hbr.mono hb1.size)⟩
      ·have hil:((k:Int)==(l.length:Int) - 1)=true:=beq_iff_eq.2 (by omega)
       rw[hqf] at hq;clear hqf
       rcases hcase with h1|⟨h1,h2⟩
       all_goals
        first
        |have hee:(er==0)=false:=by simpa using h1
         clear h1
         go_wp2_with fail
         refine (HX.out _).mono ?_;rintro e w2 ⟨rfl,rfl⟩
         go_wp2_with fail
         refine (hq.out _).mono ?_;rintro e w3 ⟨rfl,b3⟩
         go_wp2
         go_ret
         exact ⟨zp HB.out.symm,hb1.trans ((hbr.trans (b3.mono hbr.size)).mono hb1.size)⟩
        |have hee:(er==0)=true:=by simpa using h1
         clear h1
         go_wp2_with fail
         refine (HX.out _).mono ?_;rintro e w2 ⟨rfl,rfl⟩
         go_wp2_with fail
         refine (hq.out _).mono ?_;rintro e w3 ⟨rfl,b3⟩
         go_wp2
         go_ret
         exact ⟨zp HB.out.symm,hb1.trans ((hbr.trans (b3.mono hbr.size)).mono hb1.size)⟩
    ·rw[hh] at hnum
     simp only[Bool.true_eq,Bool.and_eq_true,decide_eq_true_eq] at hnum;obtain ⟨he0,hz4⟩:=hnum;have hee:(er==0)=true:=by simpa using he0
     have HN:=hid (ze8.on (last:=last) hG hx hh);clear hG hx hh he0 hrel hq
     go_wp2_with fail
     refine (HX.out _).mono ?_;rintro e w2 ⟨rfl,rfl⟩
     go_wp2
     go_roundw
     case rel=>exact ⟨k+1,_,by omega,by go_num,rfl,by omega,by omega,HN.out,hbr⟩
     case measure=>simp[RowKit.intOf];omega
   ·obtain rfl:k=l.length:=by omega
    have HB:=hid (HR.out.trans hrel.end_.symm);clear hrel
    go_wp2
    go_ret
    exact ⟨zp HB.out.symm,hb1.trans (hbr.mono hb1.size)⟩
end Go.Proofs.YtbnafbdhomdcoaaGreatDoor.T5
