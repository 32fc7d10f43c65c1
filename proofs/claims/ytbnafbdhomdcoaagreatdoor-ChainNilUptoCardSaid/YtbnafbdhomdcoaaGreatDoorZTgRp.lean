/-
 TgRp, without what this claim does not reach.
-/
import Derived.Test.YtbnafbdhomdcoaaGreatDoorZTgPar
import Derived.Test.YtbnafbdhomdcoaaGreatDoorZm5
import Derived.Test.YtbnafbdhomdcoaaGreatDoorZTgHp
namespace Go.Proofs.YtbnafbdhomdcoaaGreatDoor.T5
open Go.RowKit Go.Shelf Go.Lib
section
variable {m s:ByteArray}
theorem zuY {k:Nat} {h:ByteArray} {p:Int} (hk:endA s 7=k) (ha:authR (s.extract 7 k)=(h,p,0)):zjH s=zaK (Tg.with_ 2 h p) s k:=by
 unfold zjH;rw[hk,ha,if_pos rfl]
 rfl
theorem zvj {k:Nat} {h:ByteArray} {p e:Int} (hk:endA s 7=k) (ha:authR (s.extract 7 k)=(h,p,e)) (he:¬e=0):zjH s=(zbK,7,52):=by
 unfold zjH;rw[hk,ha,if_neg he]
end
set_option maxRecDepth 100000 in
set_option maxHeartbeats 4000000 in
theorem zm1 (m s:ByteArray) (w:World) (h0:s.size=0):
  Calls Tryz.prog 86 #[.string m,.string s] w fun e w'=>e= .returned (tgVal (parseT m s))∧Below w.heap.size w w':=by
 have he:s.toList.isEmpty=true:=by rw[zo];exact decide_eq_true h0
 have HR:=hid (zjy (m:=m) h0);clear h0
 go_enter Tryz.func86,Tryz.ntmps86
 go_wp2
 exact bodyPost_ret (v:=tgVal (zbK,0,50)) (by simp[results,Tryz.results86,go_sem,tgVal,Tg.val,zbK]) rfl ⟨zbr HR.out.symm,by (repeat (first|(with_reducible refine Below.setCell ?_ (by simp) _)|(with_reducible refine ze ?_ _)|(with_reducible refine Below.alloc ?_ (by simp) _)));exact Below.refl _ _⟩
set_option maxRecDepth 100000 in
set_option maxHeartbeats 4000000 in
theorem zpj (m s:ByteArray) (w:World) (hs:s.size≤4194304) (h0:¬s.size=0) (hm:m=zbv):
  Calls Tryz.prog 86 #[.string m,.string s] w fun e w'=>e= .returned (tgVal (parseT m s))∧Below w.heap.size w w':=by
 have he:s.toList.isEmpty=false:=by rw[zo];exact decide_eq_false h0
 have hmm:(m.toList==[67,79,78,78,69,67,84])=true:=by rw[←zb8];exact (zaj m zbv).trans (decide_eq_true hm)
 have HA:=hid (HostPort_any s (w.alloc (.cells #[.int .i64 0,.string ⟨#[]⟩,.int .i64 0,.string ⟨#[]⟩,.string ⟨#[]⟩,.bool false] 102)) hs);unfold authVal at HA;rw[zkf h0 hm];generalize ha:authR s=r at *;obtain ⟨h,p,er⟩:=r;dsimp only at HA;have hno:=@zrh s h p er ha;have hok:=@zrA s h p;clear h0 hm
 by_cases hz:er=0
 ·subst hz
  by_cases hp:0≤p
  ·have hd:decide (p<0)=false:=decide_eq_false (by omega)
   have HR:=hid (hok ha hp);clear hno hok ha
   go_enter Tryz.func86,Tryz.ntmps86
   go_wp2_with fail
   refine HA.out.mono ?_;rintro e w1 ⟨rfl,b1⟩;have b0':Below (w.heap.size+1) (w.alloc (.cells #[.int .i64 0,.string ⟨#[]⟩,.int .i64 0,.string ⟨#[]⟩,.string ⟨#[]⟩,.bool false] 102)) w1:=by simpa using b1
   obtain ⟨c0,f0⟩:=zH b0' 0;obtain ⟨c1,f1⟩:=zH b0' 1;obtain ⟨c2,f2⟩:=zH b0' 2;obtain ⟨c3,f3⟩:=zH b0' 3;obtain ⟨c4,f4⟩:=zH b0' 4;obtain ⟨c5,f5⟩:=zH b0' 5;have hsz:=zas b0';have hbw:=zw b0';clear b1 b0'
   go_wp2
   exact bodyPost_ret (v:=tgVal (⟨3,h,p,⟨#[]⟩,⟨#[]⟩,false⟩,0,0)) (by simp[results,Tryz.results86,go_sem,tgVal,Tg.val,c0,c1,c2,c3,c4,c5]) rfl ⟨zbr HR.out.symm,by (repeat (first|(with_reducible refine Below.setCell ?_ (by simp) _)|(with_reducible refine ze ?_ _)|(with_reducible refine Below.alloc ?_ (by simp) _)));exact hbw⟩
  ·have hd:decide (p<0)=true:=decide_eq_true (by omega)
   have HR:=hid (hno (by omega));clear hno hok ha
   go_enter Tryz.func86,Tryz.ntmps86
   go_wp2_with fail
   refine HA.out.mono ?_;rintro e w1 ⟨rfl,b1⟩;have b0':Below (w.heap.size+1) (w.alloc (.cells #[.int .i64 0,.string ⟨#[]⟩,.int .i64 0,.string ⟨#[]⟩,.string ⟨#[]⟩,.bool false] 102)) w1:=by simpa using b1
   obtain ⟨c0,f0⟩:=zH b0' 0;obtain ⟨c1,f1⟩:=zH b0' 1;obtain ⟨c2,f2⟩:=zH b0' 2;obtain ⟨c3,f3⟩:=zH b0' 3;obtain ⟨c4,f4⟩:=zH b0' 4;obtain ⟨c5,f5⟩:=zH b0' 5;have hsz:=zas b0';have hbw:=zw b0';clear b1 b0'
   go_wp2
   exact bodyPost_ret (v:=tgVal (zbK,0,52)) (by simp[results,Tryz.results86,go_sem,tgVal,Tg.val,zbK,c0,c1,c2,c3,c4,c5]) rfl ⟨zbr HR.out.symm,by (repeat (first|(with_reducible refine Below.setCell ?_ (by simp) _)|(with_reducible refine ze ?_ _)|(with_reducible refine Below.alloc ?_ (by simp) _)));exact hbw⟩
 ·have hd:(er !=0)=true:=by simpa using hz
  have HR:=hid (hno (by omega));clear hno hok ha
  go_enter Tryz.func86,Tryz.ntmps86
  go_wp2_with fail
  refine HA.out.mono ?_;rintro e w1 ⟨rfl,b1⟩;have b0':Below (w.heap.size+1) (w.alloc (.cells #[.int .i64 0,.string ⟨#[]⟩,.int .i64 0,.string ⟨#[]⟩,.string ⟨#[]⟩,.bool false] 102)) w1:=by simpa using b1
  obtain ⟨c0,f0⟩:=zH b0' 0;obtain ⟨c1,f1⟩:=zH b0' 1;obtain ⟨c2,f2⟩:=zH b0' 2;obtain ⟨c3,f3⟩:=zH b0' 3;obtain ⟨c4,f4⟩:=zH b0' 4;obtain ⟨c5,f5⟩:=zH b0' 5;have hsz:=zas b0';have hbw:=zw b0';clear b1 b0'
  go_wp2
  exact bodyPost_ret (v:=tgVal (zbK,0,52)) (by simp[results,Tryz.results86,go_sem,tgVal,Tg.val,zbK,c0,c1,c2,c3,c4,c5]) rfl ⟨zbr HR.out.symm,by (repeat (first|(with_reducible refine Below.setCell ?_ (by simp) _)|(with_reducible refine ze ?_ _)|(with_reducible refine Below.alloc ?_ (by simp) _)));exact hbw⟩
set_option maxRecDepth 100000 in
set_option maxHeartbeats 4000000 in
theorem zlS (m s:ByteArray) (w:World) (hs:s.size≤4194304) (h0:¬s.size=0) (hm:¬m=zbv) (h47:bt s 0=47):
  Calls Tryz.prog 86 #[.string m,.string s] w fun e w'=>e= .returned (tgVal (parseT m s))∧Below w.heap.size w w':=by
 have he:s.toList.isEmpty=false:=by rw[zo];exact decide_eq_false h0
 have hmm:(m.toList==[67,79,78,78,69,67,84])=false:=by rw[←zb8];exact (zaj m zbv).trans (decide_eq_false hm)
 have hpos:0<s.size:=by omega
 have hb:=@zE s 0 hpos;have h4:(bt s 0==47)=true:=by rw[h47];rfl
 have hB:=hid (fun w=>zmJ 1 ⟨#[]⟩ (-1) s 0 w (by omega) (by omega));rw[zrd h0 hm h47];rw[show (Tg.with_ 1 ⟨#[]⟩ (-1)).val= .agg #[.int .i64 1,.string ⟨#[]⟩,.int .i64 (-1),.string ⟨#[]⟩,.string ⟨#[]⟩,.bool false] from rfl] at hB;generalize zaK (Tg.with_ 1 ⟨#[]⟩ (-1)) s 0=r at *;obtain ⟨⟨f,h,p,pa,qu,hq⟩,i,er⟩:=r;unfold tgVal Tg.val at hB;dsimp only at hB;rw[show ((0:Nat):Int)=0 from rfl] at hB;clear hm h47
 go_enter Tryz.func86,Tryz.ntmps86
 go_wp2_with fail
 refine (hB.out _).mono ?_;rintro e w1 ⟨rfl,b1⟩;have b0':Below (w.heap.size+1) (w.alloc (.cells #[.int .i64 0,.string ⟨#[]⟩,.int .i64 0,.string ⟨#[]⟩,.string ⟨#[]⟩,.bool false] 102)) w1:=by simpa using b1
 obtain ⟨c0,f0⟩:=zH b0' 0;obtain ⟨c1,f1⟩:=zH b0' 1;obtain ⟨c2,f2⟩:=zH b0' 2;obtain ⟨c3,f3⟩:=zH b0' 3;obtain ⟨c4,f4⟩:=zH b0' 4;obtain ⟨c5,f5⟩:=zH b0' 5;have hsz:=zas b0';have hbw:=zw b0';clear b1 b0'
 go_wp2
 exact bodyPost_ret (v:=tgVal (⟨f,h,p,pa,qu,hq⟩,i,er)) (by simp[results,Tryz.results86,go_sem,tgVal,Tg.val,c0,c1,c2,c3,c4,c5]) rfl ⟨rfl,by (repeat (first|(with_reducible refine Below.setCell ?_ (by simp) _)|(with_reducible refine ze ?_ _)|(with_reducible refine Below.alloc ?_ (by simp) _)));exact hbw⟩
set_option maxRecDepth 100000 in
set_option maxHeartbeats 4000000 in
theorem zph (m s:ByteArray) (w:World) (h0:¬s.size=0) (hm:¬m=zbv) (h47:¬bt s 0=47) (h:s=zcE∧m=zgi):
  Calls Tryz.prog 86 #[.string m,.string s] w fun e w'=>e= .returned (tgVal (parseT m s))∧Below w.heap.size w w':=by
 have he:s.toList.isEmpty=false:=by rw[zo];exact decide_eq_false h0
 have hmm:(m.toList==[67,79,78,78,69,67,84])=false:=by rw[←zb8];exact (zaj m zbv).trans (decide_eq_false hm)
 have hpos:0<s.size:=by omega
 have hb:=@zE s 0 hpos;have h4:(bt s 0==47)=false:=by simpa using h47
 have h5:(s.toList==[42])=true:=by rw[←zdy];exact (zaj s zcE).trans (decide_eq_true h.1)
 have h6:(m.toList==[79,80,84,73,79,78,83])=true:=by rw[←zea];exact (zaj m zgi).trans (decide_eq_true h.2)
 have HR:=hid (zkw h0 hm h47 h);clear h0 hm h47 h
 go_enter Tryz.func86,Tryz.ntmps86
 go_wp2
 exact bodyPost_ret (v:=tgVal (⟨4,⟨#[]⟩,-1,⟨#[]⟩,⟨#[]⟩,false⟩,0,0)) (by simp[results,Tryz.results86,go_sem,tgVal,Tg.val]) rfl ⟨zbr HR.out.symm,by (repeat (first|(with_reducible refine Below.setCell ?_ (by simp) _)|(with_reducible refine ze ?_ _)|(with_reducible refine Below.alloc ?_ (by simp) _)));exact Below.refl _ _⟩
set_option maxRecDepth 100000 in
set_option maxHeartbeats 4000000 in
theorem znz (m s:ByteArray) (w:World) (h0:¬s.size=0) (hm:¬m=zbv) (h47:¬bt s 0=47) (h:¬(s=zcE∧m=zgi)) (h7:s.size<7):
  Calls Tryz.prog 86 #[.string m,.string s] w fun e w'=>e= .returned (tgVal (parseT m s))∧Below w.heap.size w w':=by
 have he:s.toList.isEmpty=false:=by rw[zo];exact decide_eq_false h0
 have hmm:(m.toList==[67,79,78,78,69,67,84])=false:=by rw[←zb8];exact (zaj m zbv).trans (decide_eq_false hm)
 have hpos:0<s.size:=by omega
 have hb:=@zE s 0 hpos;have h4:(bt s 0==47)=false:=by simpa using h47
 have hst:((s.toList==[42])=true∧(m.toList==[79,80,84,73,79,78,83])=false)∨(s.toList==[42])=false:=by
  rw[←zdy,←zea,zaj,zaj]
  by_cases e1:s=zcE
  ·exact .inl ⟨decide_eq_true e1,decide_eq_false (fun e2=>h ⟨e1,e2⟩)⟩
  ·exact .inr (decide_eq_false e1)
 have HR:=hid (ziw h0 hm h47 h (.inl h7));have hd:decide ((s.size:Int)<7)=true:=decide_eq_true (by omega);clear h0 hm h47 h h7
 rcases hst with ⟨h5,h6⟩|h5
 all_goals
  go_enter Tryz.func86,Tryz.ntmps86
  go_wp2
  exact bodyPost_ret (v:=tgVal (zbK,0,50)) (by simp[results,Tryz.results86,go_sem,tgVal,Tg.val,zbK]) rfl ⟨zbr HR.out.symm,by (repeat (first|(with_reducible refine Below.setCell ?_ (by simp) _)|(with_reducible refine ze ?_ _)|(with_reducible refine Below.alloc ?_ (by simp) _)));exact Below.refl _ _⟩
set_option maxRecDepth 100000 in
set_option maxHeartbeats 4000000 in
theorem zlN (m s:ByteArray) (w:World) (h0:¬s.size=0) (hm:¬m=zbv) (h47:¬bt s 0=47) (h:¬(s=zcE∧m=zgi)) (h7:¬s.size<7) (hh:zaP (s.extract 0 7)≠zdd):
  Calls Tryz.prog 86 #[.string m,.string s] w fun e w'=>e= .returned (tgVal (parseT m s))∧Below w.heap.size w w':=by
 have he:s.toList.isEmpty=false:=by rw[zo];exact decide_eq_false h0
 have hmm:(m.toList==[67,79,78,78,69,67,84])=false:=by rw[←zb8];exact (zaj m zbv).trans (decide_eq_false hm)
 have hpos:0<s.size:=by omega
 have hb:=@zE s 0 hpos;have h4:(bt s 0==47)=false:=by simpa using h47
 have hst:((s.toList==[42])=true∧(m.toList==[79,80,84,73,79,78,83])=false)∨(s.toList==[42])=false:=by
  rw[←zdy,←zea,zaj,zaj]
  by_cases e1:s=zcE
  ·exact .inl ⟨decide_eq_true e1,decide_eq_false (fun e2=>h ⟨e1,e2⟩)⟩
  ·exact .inr (decide_eq_false e1)
 have hd:decide ((s.size:Int)<7)=false:=decide_eq_false (by omega);have hd2:(7:Int)≤(s.size:Int):=by omega
 have hz:=zk s (a:=0) (b:=7) (by omega) (by omega);have HS:=hid (zdw (s.extract 0 7) (w.alloc (.cells #[.int .i64 0,.string ⟨#[]⟩,.int .i64 0,.string ⟨#[]⟩,.string ⟨#[]⟩,.bool false] 102)) (by rw[hz];unfold maxLen;omega));have HR:=hid (ziw h0 hm h47 h (.inr hh));have hl:((zaP (s.extract 0 7)).toList==[104,116,116,112,58,47,47])=false:=by rw[←zmC];exact (zaj _ zdd).trans (decide_eq_false hh)
 have hl2:((zaP (s.extract 0 7)).toList !=[104,116,116,112,58,47,47])=true:=by rw[bne,hl];rfl
 clear h0 hm h47 h h7 hh hz;generalize zaP (s.extract 0 7)=pre at *
 rcases hst with ⟨h5,h6⟩|h5
 all_goals
  go_enter Tryz.func86,Tryz.ntmps86
  go_wp2_with fail
  refine HS.out.mono ?_;rintro e w1 ⟨rfl,b1⟩;have b0':Below (w.heap.size+1) (w.alloc (.cells #[.int .i64 0,.string ⟨#[]⟩,.int .i64 0,.string ⟨#[]⟩,.string ⟨#[]⟩,.bool false] 102)) w1:=by simpa using b1
  obtain ⟨c0,f0⟩:=zH b0' 0;obtain ⟨c1,f1⟩:=zH b0' 1;obtain ⟨c2,f2⟩:=zH b0' 2;obtain ⟨c3,f3⟩:=zH b0' 3;obtain ⟨c4,f4⟩:=zH b0' 4;obtain ⟨c5,f5⟩:=zH b0' 5;have hsz:=zas b0';have hbw:=zw b0';clear b1 b0'
  go_wp2
  exact bodyPost_ret (v:=tgVal (zbK,0,50)) (by simp[results,Tryz.results86,go_sem,tgVal,Tg.val,zbK,c0,c1,c2,c3,c4,c5]) rfl ⟨zbr HR.out.symm,by (repeat (first|(with_reducible refine Below.setCell ?_ (by simp) _)|(with_reducible refine ze ?_ _)|(with_reducible refine Below.alloc ?_ (by simp) _)));exact hbw⟩
set_option maxRecDepth 100000 in
set_option maxHeartbeats 4000000 in
theorem zpU (m s:ByteArray) (w:World) (hs:s.size≤4194304) (h0:¬s.size=0) (hm:¬m=zbv) (h47:¬bt s 0=47) (h:¬(s=zcE∧m=zgi)) (hh:¬(s.size<7∨zaP (s.extract 0 7)≠zdd)):
  Calls Tryz.prog 86 #[.string m,.string s] w fun e w'=>e= .returned (tgVal (parseT m s))∧Below w.heap.size w w':=by
 have he:s.toList.isEmpty=false:=by rw[zo];exact decide_eq_false h0
 have hmm:(m.toList==[67,79,78,78,69,67,84])=false:=by rw[←zb8];exact (zaj m zbv).trans (decide_eq_false hm)
 have hpos:0<s.size:=by omega
 have hb:=@zE s 0 hpos;have h4:(bt s 0==47)=false:=by simpa using h47
 have hst:((s.toList==[42])=true∧(m.toList==[79,80,84,73,79,78,83])=false)∨(s.toList==[42])=false:=by
  rw[←zdy,←zea,zaj,zaj]
  by_cases e1:s=zcE
  ·exact .inl ⟨decide_eq_true e1,decide_eq_false (fun e2=>h ⟨e1,e2⟩)⟩
  ·exact .inr (decide_eq_false e1)
 have hd:decide ((s.size:Int)<7)=false:=decide_eq_false (by omega);have hd2:(7:Int)≤(s.size:Int):=by omega
 have hz:=zk s (a:=0) (b:=7) (by omega) (by omega);have HS:=hid (zdw (s.extract 0 7) (w.alloc (.cells #[.int .i64 0,.string ⟨#[]⟩,.int .i64 0,.string ⟨#[]⟩,.string ⟨#[]⟩,.bool false] 102)) (by rw[hz];unfold maxLen;omega));have h7:7≤s.size:=by omega
 have hl:((zaP (s.extract 0 7)).toList==[104,116,116,112,58,47,47])=true:=by rw[←zmC];exact (zaj _ zdd).trans (decide_eq_true (by simp only[not_or,Classical.not_not] at hh;exact hh.2))
 have hl2:((zaP (s.extract 0 7)).toList !=[104,116,116,112,58,47,47])=false:=by rw[bne,hl];rfl
 rw[zmw h0 hm h47 h hh];clear h0 hm h47 h hh hz;generalize zaP (s.extract 0 7)=pre at *
 rcases hst with ⟨h5,h6⟩|h5
 all_goals
  go_enter Tryz.func86,Tryz.ntmps86
  go_wp2_with fail
  refine HS.out.mono ?_;rintro e w1 ⟨rfl,b1⟩
  go_wp2
  go_loop [10] (fun v=>∃i:Nat,7≤i∧i≤s.size∧v= .int .i64 i∧∀j,7≤j→j<i→bt s j≠47∧bt s j≠63) (fun v=>s.size - (RowKit.intOf v).toNat)
  case atStart=>exact ⟨7,by omega,by omega,rfl,by omega⟩
  case round=>
   obtain ⟨i,hi7,hi,rfl,hno⟩:=hrel;have HN:=hid hno;clear hno
   by_cases hgo:i<s.size∧bt s i≠47∧bt s i≠63
   ·obtain ⟨hlt,g1,g2⟩:=hgo
    have hb:=@zE s i hlt;have n1:(bt s i !=47)=true:=by simpa using g1
    have n2:(bt s i !=63)=true:=by simpa using g2
    have HN2:=hid (show ∀j,7≤j→j<i+1→bt s j≠47∧bt s j≠63 from fun j h1 h2=>by
     by_cases e:j<i
     ·exact HN.out j h1 e
     ·obtain rfl:j=i:=by omega
      exact ⟨g1,g2⟩)
    clear g1 g2
    go_wp2
    go_round
    case rel=>exact ⟨i+1,by omega,by omega,by go_num,HN2.out⟩
    case measure=>simp[RowKit.intOf];omega
   ·have hk:endA s 7=i:=by
     by_cases e:i<s.size
     ·exact endA_at hi7 e HN.out (by
       by_cases e1:bt s i=47
       ·exact .inl e1
       ·by_cases e2:bt s i=63
        ·exact .inr e2
        ·exact absurd ⟨e,e1,e2⟩ hgo)
     ·obtain rfl:i=s.size:=by omega
      exact endA_none (by omega) HN.out
    have hex:i=s.size∨∃hlt:i<s.size,((bt s i !=47)=false∨((bt s i !=47)=true∧(bt s i !=63)=false)):=by
     by_cases e:i<s.size
     ·refine .inr ⟨e,?_⟩
      by_cases e1:bt s i=47
      ·exact .inl (by rw[e1];rfl)
      ·by_cases e2:bt s i=63
       ·exact .inr ⟨by simpa using e1,by rw[e2];rfl⟩
       ·exact absurd ⟨e,e1,e2⟩ hgo
     ·exact .inl (by omega)
    have hki:(i:Int)≤(s.size:Int):=by omega
    have hk7:(7:Int)≤(i:Int):=by omega
    have hok:=@zuY s i;have hbad:=@zvj s i;have hez:=zk s (a:=7) (b:=i) (by omega) (by omega);have HA:=hid (fun w=>HostPort_any (s.extract 7 i) w (by omega));unfold authVal at HA;have hcode:=zmN (s.extract 7 i);generalize authR (s.extract 7 i)=r at *;obtain ⟨ho,p,er⟩:=r;dsimp only at HA;clear hgo HN hez
    by_cases hz:er=0
    ·subst hz
     have HB:=hid (fun w=>zmJ 2 ho p s i w (by omega) hi);have HR:=hid (hok hk rfl);rw[show (Tg.with_ 2 ho p).val= .agg #[.int .i64 2,.string ho,.int .i64 p,.string ⟨#[]⟩,.string ⟨#[]⟩,.bool false] from rfl] at HB;generalize zaK (Tg.with_ 2 ho p) s i=rr at *;obtain ⟨⟨f,ho2,p2,pa,qu,hq⟩,n,er⟩:=rr;unfold tgVal Tg.val at HB;dsimp only at HB;clear hok hbad hcode hk
     rcases hex with rfl|⟨hlt,hx|⟨hx,hx2⟩⟩
     all_goals
      try have hb:=@zE s i hlt
      go_wp2_with fail
      refine (HA.out _).mono ?_;rintro e w3 ⟨rfl,b3⟩;have B3:=b1.trans (b3.mono b1.size);clear b3 b1
      go_wp2_with fail
      refine (HB.out _).mono ?_;rintro e w4 ⟨rfl,b4⟩;have B4:=B3.trans (b4.mono B3.size);clear b4 B3;have b0':Below (w.heap.size+1) (w.alloc (.cells #[.int .i64 0,.string ⟨#[]⟩,.int .i64 0,.string ⟨#[]⟩,.string ⟨#[]⟩,.bool false] 102)) w4:=by simpa using B4
      obtain ⟨c0,f0⟩:=zH b0' 0;obtain ⟨c1,f1⟩:=zH b0' 1;obtain ⟨c2,f2⟩:=zH b0' 2;obtain ⟨c3,f3⟩:=zH b0' 3;obtain ⟨c4,f4⟩:=zH b0' 4;obtain ⟨c5,f5⟩:=zH b0' 5;have hsz:=zas b0';have hbw:=zw b0';clear B4 b0'
      go_wp2
      exact bodyPost_ret (v:=tgVal (⟨f,ho2,p2,pa,qu,hq⟩,n,er)) (by simp[results,Tryz.results86,go_sem,tgVal,Tg.val,c0,c1,c2,c3,c4,c5]) rfl ⟨zbr HR.out.symm,by (repeat (first|(with_reducible refine Below.setCell ?_ (by simp) _)|(with_reducible refine ze ?_ _)|(with_reducible refine Below.alloc ?_ (by simp) _)));exact hbw⟩
    ·have hne:(er !=0)=true:=by simpa using hz
     have HR:=hid (hbad hk rfl hz);obtain rfl:er=52:=by
      rcases hcode with h|h
      ·exact absurd h hz
      ·exact h
     clear hok hbad hcode hk
     rcases hex with rfl|⟨hlt,hx|⟨hx,hx2⟩⟩
     all_goals
      try have hb:=@zE s i hlt
      go_wp2_with fail
      refine (HA.out _).mono ?_;rintro e w3 ⟨rfl,b3⟩;have B3:=b1.trans (b3.mono b1.size);clear b3 b1;have b0':Below (w.heap.size+1) (w.alloc (.cells #[.int .i64 0,.string ⟨#[]⟩,.int .i64 0,.string ⟨#[]⟩,.string ⟨#[]⟩,.bool false] 102)) w3:=by simpa using B3
      obtain ⟨c0,f0⟩:=zH b0' 0;obtain ⟨c1,f1⟩:=zH b0' 1;obtain ⟨c2,f2⟩:=zH b0' 2;obtain ⟨c3,f3⟩:=zH b0' 3;obtain ⟨c4,f4⟩:=zH b0' 4;obtain ⟨c5,f5⟩:=zH b0' 5;have hsz:=zas b0';have hbw:=zw b0';clear B3 b0'
      go_wp2
      exact bodyPost_ret (v:=tgVal (zbK,7,52)) (by simp[results,Tryz.results86,go_sem,tgVal,Tg.val,zbK,c0,c1,c2,c3,c4,c5]) rfl ⟨zbr HR.out.symm,by (repeat (first|(with_reducible refine Below.setCell ?_ (by simp) _)|(with_reducible refine ze ?_ _)|(with_reducible refine Below.alloc ?_ (by simp) _)));exact hbw⟩
theorem Parse_any (m s:ByteArray) (w:World) (hs:s.size≤4194304) (hg:Glob w):
  Calls Tryz.prog 99 #[.string m,.string s] w fun e w'=>e= .returned (tgVal (parseT m s))∧Below w.heap.size w w':=by
 by_cases h0:s.size=0
 ·exact zot m s w h0
 ·by_cases hm:m=zbv
  ·exact zqh m s w hs hg h0 hm
  ·by_cases h47:bt s 0=47
   ·exact zm4 m s w (by omega) h0 hm h47
   ·by_cases h:s=zcE∧m=zgi
    ·exact zpC m s w h0 hm h47 h
    ·by_cases h7:s.size<7
     ·exact zoE m s w h0 hm h47 h h7
     ·by_cases hh:zaP (s.extract 0 7)=zdd
      ·exact zrY m s w hs hg h0 hm h47 h (fun g=>g.elim h7 (fun g=>g hh))
      ·exact zni m s w hs h0 hm h47 h h7 hh
theorem Rparse_any (m s:ByteArray) (w:World) (hs:s.size≤4194304):
  Calls Tryz.prog 86 #[.string m,.string s] w fun e w'=>e= .returned (tgVal (parseT m s))∧Below w.heap.size w w':=by
 by_cases h0:s.size=0
 ·exact zm1 m s w h0
 ·by_cases hm:m=zbv
  ·exact zpj m s w hs h0 hm
  ·by_cases h47:bt s 0=47
   ·exact zlS m s w hs h0 hm h47
   ·by_cases h:s=zcE∧m=zgi
    ·exact zph m s w h0 hm h47 h
    ·by_cases h7:s.size<7
     ·exact znz m s w h0 hm h47 h h7
     ·by_cases hh:zaP (s.extract 0 7)=zdd
      ·exact zpU m s w hs h0 hm h47 h (fun g=>g.elim h7 (fun g=>g hh))
      ·exact zlN m s w h0 hm h47 h h7 hh
end Go.Proofs.YtbnafbdhomdcoaaGreatDoor.T5
