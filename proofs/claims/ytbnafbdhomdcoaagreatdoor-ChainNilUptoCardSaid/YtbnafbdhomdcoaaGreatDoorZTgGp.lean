/-
 TgGp, without what this claim does not reach.
-/
import Derived.Test.YtbnafbdhomdcoaaGreatDoorZTgGr
namespace Go.Proofs.YtbnafbdhomdcoaaGreatDoor.T5
open Go.RowKit Go.Shelf Go.Lib
def zg9 (w:World) (s:ByteArray) (last:Bool) (e:Ending) (w':World):Prop:=∃n:Int,e= .returned (.tuple #[.int .i64 n,.bool (decide (0≤zam s last))])∧(0≤zam s last→n=zam s last)∧Below w.heap.size w w'
theorem zoA {w w':World} {s:ByteArray} {last b:Bool} {n:Int} (hb:decide (0≤zam s last)=b) (hn:0≤zam s last→n=zam s last) (h:Below w.heap.size w w'):zg9 w s last (.returned (.tuple #[.int .i64 n,.bool b])) w':=⟨n,by rw[hb],hn,h⟩
theorem zcc {w w':World} {s:ByteArray} {last:Bool} {n:Int} (hr:zam s last=-1) (h:Below w.heap.size w w'):zg9 w s last (.returned (.tuple #[.int .i64 n,.bool false])) w':=zoA (decide_eq_false (by omega)) (fun h=>by omega) h
theorem zfv {w w':World} {s:ByteArray} {last:Bool} {n:Int} (hr:zam s last=n) (h0:0≤n) (h:Below w.heap.size w w'):zg9 w s last (.returned (.tuple #[.int .i64 n,.bool true])) w':=zoA (decide_eq_true (by omega)) (fun _=>hr.symm) h
theorem zk0 {g:ByteArray} (h:g.size=0∨4<g.size):zaS g=false:=by
 unfold zaS
 rcases h with h|h
 ·rw[decide_eq_false (show ¬0<g.size by omega)];rfl
 ·rw[decide_eq_false (show ¬g.size≤4 by omega)];simp
theorem zrV {g:ByteArray} {j:Nat} (hj:j<g.size) (h:zaE (bt g j)<0):zaS g=false:=by
 unfold zaS;rw[zaB hj (by unfold zbZ;simp;omega)];simp
theorem zue {g:ByteArray} (h0:0<g.size) (h4:g.size≤4) (h:zbx zbZ g g.size):zaS g=true:=by
 unfold zaS;rw[decide_eq_true h0,decide_eq_true h4,zaU h]
 rfl
set_option maxRecDepth 20000 in
set_option maxHeartbeats 4000000 in
theorem zhY (s:ByteArray) (last:Bool) (w:World) (hs:s.size≤4194304) (hg:Glob w):
  Calls Tryz.prog 223 #[.string s,.bool last] w (zg9 w s last):=by
 by_cases hz:s.size=0
 ·have he:s.toList.isEmpty=true:=by rw[zo];exact decide_eq_true hz
  have HR:=hid (zit (last:=last) hz);clear hz
  go_enter Tryz.func223,Tryz.ntmps223
  go_wp2
  go_ret2
  exact zfv HR.out (by omega) (Below.refl _ _)
 ·have he:s.toList.isEmpty=false:=by rw[zo];exact decide_eq_false hz
  have HR:=hid (zji (last:=last) hz);have HS:=hid (zmT s 58 w hs hg);rw[show ((58:UInt8).toNat:Int)=58 from rfl] at HS;have hsz:=hid (fun x (hx:x∈zG s 58)=>ze1 hx);have hln:=zdv s 58;generalize zG s 58=l at *;clear hz
  go_enter Tryz.func223,Tryz.ntmps223
  go_wp2_with fail
  refine HS.out.mono ?_;rintro e w1 ⟨rfl,rfl⟩;have hrow:=zrt w l 9;have hb1:Below w.heap.size w (w.alloc (.cells (l.map Value.string).toArray 9)):=(Below.refl _ w).alloc (Nat.le_refl _) _;have hg1:=hg.beyond hb1;generalize w.alloc (.cells (l.map Value.string).toArray 9)=w1 at *
  go_wp2
  go_loopw [6,17] (fun v i wr=>∃k:Nat,k≤l.length∧i= .int .i64 k∧v= .int .i64 k∧zba l k∧Below w1.heap.size w1 wr) (fun _ i _=>l.length - (RowKit.intOf i).toNat)
  case atStart=>exact ⟨0,by omega,rfl,rfl,zba.zero l,Below.refl _ _⟩
  case round=>
   obtain ⟨k,hk,rfl,rfl,hG,hbr⟩:=hrel
   by_cases hlt:k<l.length
   ·obtain ⟨g,hx⟩:=zD hlt
    obtain ⟨b,off,hbe,hb,h0⟩:=(hrow.below hbr).str hx;injection hbe with hbe;injection hbe with hbe1 hbe2;subst hbe1 hbe2;rw[Nat.zero_add] at h0;have hgs:=Nat.le_trans (hsz.out g (List.mem_of_getElem? hx)) hs;have HD:=hid (fun w=>zvJ g 46 w);rw[show ((46:UInt8).toNat:Int)=46 from rfl] at HD;have HQ:=hid (fun w hg=>znp g w hgs hg);have hgr:=hg1.beyond hbr
    by_cases hd:last=true∧k+1=l.length∧inB g 46=true
    ·obtain ⟨rfl,hl,hdt⟩:=hd
     have hil:((k:Int)==(l.length:Int) - 1)=true:=beq_iff_eq.2 (by omega);rw[hdt] at HD;have hh:=zu3 hdt
     cases hq:quad g
     ·have HB:=hid (HR.out.trans (hG.bad hx hh (.inr (.inr hq))))
      rw[hq] at HQ;clear hx hG hdt hh hq
      go_wp2_with fail
      refine (HD.out _).mono ?_;rintro e w2 ⟨rfl,rfl⟩
      go_wp2_with fail
      refine (HQ.out _ hgr).mono ?_;rintro e w3 ⟨rfl,b3⟩
      go_wp2
      go_ret2
      exact zcc HB.out (hb1.trans ((hbr.trans (b3.mono hbr.size)).mono hb1.size))
     ·have HB:=hid (HR.out.trans (zba.quad hG hx hl hh hq))
      rw[hq] at HQ;clear hx hG hdt hh hq
      go_wp2_with fail
      refine (HD.out _).mono ?_;rintro e w2 ⟨rfl,rfl⟩
      go_wp2_with fail
      refine (HQ.out _ hgr).mono ?_;rintro e w3 ⟨rfl,b3⟩
      go_wp2
      go_ret2
      exact zfv HB.out (by omega) (hb1.trans ((hbr.trans (b3.mono hbr.size)).mono hb1.size))
    ·have HBAD:=hid (fun hh:zaS g=false=>HR.out.trans (hG.bad hx hh (by
      cases hl:last
      ·exact .inl rfl
      ·by_cases h1:k+1<l.length
       ·exact .inr (.inl h1)
       ·right;right
        cases hqq:inB g 46
        ·exact zui hqq
        ·exact absurd ⟨hl,by omega,hqq⟩ hd)))
     have HON:=hid (fun hh:zaS g=true=>hG.succ hx hh);have hc3:last=false∨(last=true∧k+1<l.length)∨(last=true∧k+1=l.length∧inB g 46=false):=by
      cases hl:last
      ·exact .inl rfl
      ·by_cases h1:k+1<l.length
       ·exact .inr (.inl ⟨rfl,h1⟩)
       ·right;right
        refine ⟨rfl,by omega,?_⟩
        cases hqq:inB g 46
        ·rfl
        ·exact absurd ⟨hl,by omega,hqq⟩ hd
     have hpass:last=false∨(last=true∧((k:Int)==(l.length:Int) - 1)=false)∨(last=true∧((k:Int)==(l.length:Int) - 1)=true∧inB g 46=false):=by
      rcases hc3 with h|⟨h,h2⟩|⟨h,h2,h3⟩
      ·exact .inl h
      ·exact .inr (.inl ⟨h,beq_eq_false_iff_ne.2 (by omega)⟩)
      ·exact .inr (.inr ⟨h,beq_iff_eq.2 (by omega),h3⟩)
     clear hc3 hd hx hG HQ;obtain ⟨xo,rfl⟩:∃xo:World,xo=wr:=⟨_,rfl⟩
     rcases hpass with rfl|⟨rfl,hil⟩|⟨rfl,hil,hdf⟩
     case' inr.inr=>rw[hdf] at HD;clear hdf
     all_goals
      by_cases hg0:g.size=0
      ·have hg1':decide ((g.size:Int)<1)=true:=decide_eq_true (by omega)
       have HB:=hid (HBAD.out (zk0 (.inl hg0)));clear hg0
       go_wp2_with (go_at_call 234;refine (HD.out _).mono ?_;rintro e w2 ⟨rfl,rfl⟩)
       go_ret2
       exact zcc HB.out (hb1.trans (hbr.mono hb1.size))
      ·by_cases hg4:4<g.size
       ·have HB:=hid (HBAD.out (zk0 (.inr hg4)))
        have hgp:¬(g.size:Int)<1:=by omega
        go_wp2_with (go_at_call 234;refine (HD.out _).mono ?_;rintro e w2 ⟨rfl,rfl⟩)
        go_ret2
        exact zcc HB.out (hb1.trans (hbr.mono hb1.size))
       ·have hgp:¬(g.size:Int)<1:=by omega
        have HK:=hid (fun h=>HON.out (zue (g:=g) (by omega) (by omega) h))
        go_wp2_with (go_at_call 234;refine (HD.out _).mono ?_;rintro e w2 ⟨rfl,rfl⟩)
        go_loop [48] (fun v=>∃j:Nat,j≤g.size∧v= .int .i64 j∧zbx zbZ g j) (fun v=>g.size - (RowKit.intOf v).toNat)
        case atStart=>exact ⟨0,by omega,rfl,zbx.zero _ _⟩
        case round=>
         obtain ⟨j,hj,rfl,hall⟩:=hrel
         by_cases hjt:j<g.size
         ·have hbj:=@zE g j hjt
          have HDG:=hid (fun w=>zmt (bt g j) w (zbS g j) (zdQ g j))
          by_cases hneg:zaE (bt g j)<0
          ·have HB:=hid (HBAD.out (zrV hjt hneg))
           clear hall;generalize zaE (bt g j)=d at *
           go_wp2_with fail
           refine (HDG.out _).mono ?_;rintro e w2 ⟨rfl,rfl⟩
           go_wp2
           go_ret2
           exact zcc HB.out (hb1.trans (hbr.mono hb1.size))
          ·have HA:=hid (hall.succ (P:=zbZ) (by unfold zbZ;simp;omega))
           clear hall;generalize zaE (bt g j)=d at *
           go_wp2_with fail
           refine (HDG.out _).mono ?_;rintro e w2 ⟨rfl,rfl⟩
           go_wp2
           go_round
           case rel=>exact ⟨j+1,by omega,by go_num,HA.out⟩
           case measure=>simp[RowKit.intOf];omega
         ·obtain rfl:j=g.size:=by omega
          have HN:=hid (HK.out hall);clear hall
          go_wp2
          go_roundw
          case rel=>exact ⟨k+1,by omega,by go_num,by go_num,HN.out,hbr⟩
          case measure=>simp[RowKit.intOf];omega
   ·obtain rfl:k=l.length:=by omega
    have HB:=hid (HR.out.trans hG.all);clear hG
    go_wp2
    go_ret2
    exact zfv HB.out (by omega) (hb1.trans (hbr.mono hb1.size))
end Go.Proofs.YtbnafbdhomdcoaaGreatDoor.T5
