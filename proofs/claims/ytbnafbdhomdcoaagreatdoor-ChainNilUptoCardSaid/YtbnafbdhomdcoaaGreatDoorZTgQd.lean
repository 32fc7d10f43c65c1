/-
 TgQd, without what this claim does not reach.
-/
import Derived.Test.YtbnafbdhomdcoaaGreatDoorZTgSp
namespace Go.Proofs.YtbnafbdhomdcoaaGreatDoor.T5
open Go.RowKit Go.Shelf Go.Lib
theorem zjE {d:ByteArray} (h:¬(zbY d 255 10).2=0):zcQ d=false:=by unfold zcQ;rw[decide_eq_false h];rfl
theorem zkU {d:ByteArray} (h:(zbY d 255 10).2=0):zcQ d=((za3 (zbY d 255 10).1).toList==d.toList):=by unfold zcQ;rw[decide_eq_true h,Bool.true_and,zaj]
set_option maxRecDepth 20000 in
theorem ztB (d:ByteArray) (w:World) (hd:d.size≤4194304):
  Calls Tryz.prog 229 #[.string d] w fun e w'=>e= .returned (.bool (zcQ d))∧Below w.heap.size w w':=by
 have HN:=hid (fun w=>zf2 d 255 w (by omega) (by omega) (by omega));have hr:=zkX d 255 (by omega);have hbad:=@zjE d;have hok:=@zkU d;generalize zbY d 255 10=r at *;obtain ⟨n,er⟩:=r;dsimp only at HN hr hbad hok
 by_cases he:er=0
 ·have HB:=hid (hok he)
  obtain ⟨k,rfl⟩:=Int.eq_ofNat_of_zero_le hr.1;have HD:=hid (fun w=>zgX k w (by omega));have hee:(er==0)=true:=by simpa using he
  clear hok hbad he hr
  go_enter Tryz.func229,Tryz.ntmps229
  go_wp2_with fail
  refine (HN.out _).mono ?_;rintro e w1 ⟨rfl,rfl⟩
  go_wp2_with fail
  refine (HD.out _).mono ?_;rintro e w2 ⟨rfl,b2⟩
  go_wp2
  go_ret
  exact ⟨zd HB.out.symm,b2⟩
 ·have HB:=hid (hbad he)
  have hee:(er==0)=false:=by simpa using he
  clear hok hbad he hr
  go_enter Tryz.func229,Tryz.ntmps229
  go_wp2_with fail
  refine (HN.out _).mono ?_;rintro e w1 ⟨rfl,rfl⟩
  go_wp2
  go_ret
  exact ⟨zd HB.out.symm,Below.refl _ _⟩
def zgB (l:List ByteArray) (k:Nat):Prop:=∀(j:Nat) x,j<k→l[j]?=some x→zcQ x=true
theorem zgB.succ {l:List ByteArray} {k:Nat} {x:ByteArray} (h:zgB l k) (hk:l[k]?=some x) (hx:zcQ x=true):zgB l (k+1):=fun j y hj hy=>by
 by_cases e:j=k
 ·subst e
  rw[hk] at hy;injection hy with hy;rw[←hy];exact hx
 ·exact h j y (by omega) hy
theorem zn6 {s:ByteArray} {k:Nat} {x:ByteArray} (hk:(zG s 46)[k]?=some x) (hx:zcQ x=false):quad s=false:=by
 unfold quad;have:(zG s 46).all zcQ=false:=by
  rw[List.all_eq_false];exact ⟨x,List.mem_of_getElem? hk,by rw[hx];simp⟩
 rw[this]
 rfl
theorem zpg {s:ByteArray} (h:zgB (zG s 46) (zG s 46).length):quad s=(((zG s 46).length:Int)==4):=by
 unfold quad;have:(zG s 46).all zcQ=true:=List.all_eq_true.2 fun x hx=>by
  obtain ⟨j,hj,rfl⟩:=List.getElem_of_mem hx;exact h j _ hj (List.getElem?_eq_getElem hj)
 rw[this,Bool.true_and,Bool.eq_iff_iff,decide_eq_true_eq,beq_iff_eq]
 omega
set_option maxRecDepth 20000 in
set_option maxHeartbeats 2000000 in
theorem zsj (s:ByteArray) (w:World) (hs:s.size≤4194304):
  Calls Tryz.prog 213 #[.string s] w fun e w'=>e= .returned (.bool (quad s))∧Below w.heap.size w w':=by
 have HS:=hid (fun w=>zhK s 46 w hs);have hbad:=hid (fun (k:Nat) (x:ByteArray) (h1:(zG s 46)[k]?=some x) (h2:zcQ x=false)=>zn6 h1 h2);have hend:=hid (fun (h:zgB (zG s 46) (zG s 46).length)=>zpg h);have hsz:=hid (fun x (hx:x∈zG s 46)=>ze1 hx);have hln:=zdv s 46;generalize zG s 46=l at *
 go_enter Tryz.func213,Tryz.ntmps213
 go_wp2_with fail
 refine (HS.out _).mono ?_;rintro e w1 ⟨A,c,rfl,hown,hb1⟩;have hrow:=zak hown;clear hown
 go_wp2
 go_loopw [4] (fun v wr=>∃k:Nat,k≤l.length∧v= .int .i64 k∧zgB l k∧Below w1.heap.size w1 wr) (fun v _=>l.length - (RowKit.intOf v).toNat)
 case atStart=>exact ⟨0,by omega,rfl,fun j x hj=>by omega,Below.refl _ _⟩
 case round=>
  obtain ⟨k,hk,rfl,hN,hbr⟩:=hrel
  by_cases hlt:k<l.length
  ·obtain ⟨x,hx⟩:=zD hlt
   obtain ⟨b,off,rfl,hb,h0⟩:=(hrow.below hbr).str hx;have HX:=hid (fun w=>ztB x w (Nat.le_trans (hsz.out x (List.mem_of_getElem? hx)) hs))
   cases hbn:zcQ x
   ·have HB:=hid (hbad.out _ _ hx hbn)
    rw[hbn] at HX;clear hx hbn hN
    go_wp2_with fail
    refine (HX.out _).mono ?_;rintro e w2 ⟨rfl,b2⟩
    go_wp2
    go_ret
    exact ⟨zd HB.out.symm,hb1.trans ((hbr.trans (b2.mono hbr.size)).mono hb1.size)⟩
   ·have HN:=hid (hN.succ hx hbn)
    rw[hbn] at HX;clear hx hbn hN
    go_wp2_with fail
    refine (HX.out _).mono ?_;rintro e w2 ⟨rfl,b2⟩
    go_wp2
    go_roundw
    case rel=>exact ⟨k+1,by omega,by go_num,HN.out,hbr.trans (b2.mono hbr.size)⟩
    case measure=>simp[RowKit.intOf];omega
  ·obtain rfl:k=l.length:=by omega
   have HB:=hid (hend.out hN);clear hN
   go_wp2
   go_ret
   exact ⟨zd HB.out.symm,hb1.trans (hbr.mono hb1.size)⟩
theorem zrt (w:World) (l:List ByteArray) (t:TypeId):Row (w.alloc (.cells (l.map Value.string).toArray t)) (some ⟨w.heap.size,0,none⟩) (l.map .string):=za1 w _ t rfl
set_option maxRecDepth 20000 in
set_option maxHeartbeats 2000000 in
theorem znp (s:ByteArray) (w:World) (hs:s.size≤4194304) (hg:Glob w):
  Calls Tryz.prog 235 #[.string s] w fun e w'=>e= .returned (.bool (quad s))∧Below w.heap.size w w':=by
 have HS:=hid (zmT s 46 w hs hg);have hbad:=hid (fun (k:Nat) (x:ByteArray) (h1:(zG s 46)[k]?=some x) (h2:zcQ x=false)=>zn6 h1 h2);have hend:=hid (fun (h:zgB (zG s 46) (zG s 46).length)=>zpg h);have hsz:=hid (fun x (hx:x∈zG s 46)=>ze1 hx);have hln:=zdv s 46;rw[show ((46:UInt8).toNat:Int)=46 from rfl] at HS;generalize zG s 46=l at *
 go_enter Tryz.func235,Tryz.ntmps235
 go_wp2_with fail
 refine HS.out.mono ?_;rintro e w1 ⟨rfl,rfl⟩;have hrow:=zrt w l 9;have hb1:Below w.heap.size w (w.alloc (.cells (l.map Value.string).toArray 9)):=(Below.refl _ w).alloc (Nat.le_refl _) _;have hg1:=hg.beyond hb1;generalize w.alloc (.cells (l.map Value.string).toArray 9)=w1 at *
 go_wp2
 go_loopw [12] (fun v wr=>∃k:Nat,k≤l.length∧v= .int .i64 k∧zgB l k∧Below w1.heap.size w1 wr) (fun v _=>l.length - (RowKit.intOf v).toNat)
 case atStart=>exact ⟨0,by omega,rfl,fun j x hj=>by omega,Below.refl _ _⟩
 case round=>
  obtain ⟨k,hk,rfl,hN,hbr⟩:=hrel
  by_cases hlt:k<l.length
  ·obtain ⟨x,hx⟩:=zD hlt
   obtain ⟨b,off,hbe,hb,h0⟩:=(hrow.below hbr).str hx;injection hbe with hbe;injection hbe with hbe1 hbe2;subst hbe1 hbe2;rw[Nat.zero_add] at h0;have hxs:=Nat.le_trans (hsz.out x (List.mem_of_getElem? hx)) hs;have HD:=hid (fun w=>zgT x 255 w (by omega) (by omega) (by omega));have hr:=zkX x 255 (by omega);have hbad':=@zjE x;have hok:=@zkU x;generalize zbY x 255 10=r at *;obtain ⟨n,er⟩:=r;dsimp only at HD hr hbad' hok
   by_cases he:er=0
   ·have hee:(er !=0)=false:=by simp[he]
    have HI:=hid (fun w hg=>zfV n w (by omega) (by omega) hg);have hok:=hok he;have hgr:=hg1.beyond hbr
    cases hq:((za3 n).toList==x.toList)
    ·have hq':((za3 n).toList !=x.toList)=true:=by rw[bne,hq];rfl
     rw[hq] at hok;have HB:=hid (hbad.out _ _ hx hok);clear hok hbad' he hx hN hr
     go_wp2_with fail
     refine (HD.out _).mono ?_;rintro e w2 ⟨rfl,b2⟩;have hg2:=hgr.beyond b2
     go_wp2_with fail
     refine (HI.out _ hg2).mono ?_;rintro e w3 ⟨rfl,b3⟩
     go_wp2
     go_ret
     exact ⟨zd HB.out.symm,hb1.trans ((hbr.trans ((b2.trans (b3.mono b2.size)).mono hbr.size)).mono hb1.size)⟩
    ·have hq':((za3 n).toList !=x.toList)=false:=by rw[bne,hq];rfl
     rw[hq] at hok;have HN:=hid (hN.succ hx hok);clear hok hbad' he hx hN hr
     go_wp2_with fail
     refine (HD.out _).mono ?_;rintro e w2 ⟨rfl,b2⟩;have hg2:=hgr.beyond b2
     go_wp2_with fail
     refine (HI.out _ hg2).mono ?_;rintro e w3 ⟨rfl,b3⟩
     go_wp2
     go_roundw
     case rel=>exact ⟨k+1,by omega,by go_num,HN.out,hbr.trans ((b2.trans (b3.mono b2.size)).mono hbr.size)⟩
     case measure=>simp[RowKit.intOf];omega
   ·have hee:(er !=0)=true:=by simpa using he
    have HB:=hid (hbad.out _ _ hx (hbad' he));clear hok hbad' he hx hN hr
    go_wp2_with fail
    refine (HD.out _).mono ?_;rintro e w2 ⟨rfl,b2⟩
    go_wp2
    go_ret
    exact ⟨zd HB.out.symm,hb1.trans ((hbr.trans (b2.mono hbr.size)).mono hb1.size)⟩
  ·obtain rfl:k=l.length:=by omega
   have HB:=hid (hend.out hN);clear hN
   go_wp2
   go_ret
   exact ⟨zd HB.out.symm,hb1.trans (hbr.mono hb1.size)⟩
end Go.Proofs.YtbnafbdhomdcoaaGreatDoor.T5
