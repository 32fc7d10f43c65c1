/-
 TgPar, without what this claim does not reach.
-/
import Derived.Test.YtbnafbdhomdcoaaGreatDoorZm5
import Derived.Test.YtbnafbdhomdcoaaGreatDoorZTgAu
import Derived.Test.YtbnafbdhomdcoaaGreatDoorZTgIx
namespace Go.Proofs.YtbnafbdhomdcoaaGreatDoor.T5
open Go.RowKit Go.Shelf Go.Lib
section
variable {m s:ByteArray}
theorem zjy (h:s.size=0):parseT m s=(zbK,0,50):=if_pos h
theorem zkf (h0:¬s.size=0) (hm:m=zbv):parseT m s=zjs s:=(if_neg h0).trans (if_pos hm)
theorem zkw (h0:¬s.size=0) (hm:¬m=zbv) (h47:¬bt s 0=47) (h:s=zcE∧m=zgi):parseT m s=(⟨4,⟨#[]⟩,-1,⟨#[]⟩,⟨#[]⟩,false⟩,0,0):=
 (if_neg h0).trans ((if_neg hm).trans ((if_neg h47).trans (if_pos h)))
theorem ziw (h0:¬s.size=0) (hm:¬m=zbv) (h47:¬bt s 0=47) (h:¬(s=zcE∧m=zgi)) (hh:s.size<7∨zaP (s.extract 0 7)≠zdd):parseT m s=(zbK,0,50):=
 (if_neg h0).trans ((if_neg hm).trans ((if_neg h47).trans ((if_neg h).trans (if_pos hh))))
theorem zmw (h0:¬s.size=0) (hm:¬m=zbv) (h47:¬bt s 0=47) (h:¬(s=zcE∧m=zgi)) (hh:¬(s.size<7∨zaP (s.extract 0 7)≠zdd)):parseT m s=zjH s:=
 (if_neg h0).trans ((if_neg hm).trans ((if_neg h47).trans ((if_neg h).trans (if_neg hh))))
theorem zrA {h:ByteArray} {p:Int} (ha:authR s=(h,p,0)) (hp:0≤p):zjs s=(⟨3,h,p,⟨#[]⟩,⟨#[]⟩,false⟩,0,0):=by
 unfold zjs;rw[ha,if_pos ⟨rfl,hp⟩]
theorem zrh {h:ByteArray} {p e:Int} (ha:authR s=(h,p,e)) (hp:¬(e=0∧0≤p)):zjs s=(zbK,0,52):=by
 unfold zjs;rw[ha,if_neg hp]
theorem zsV (hs:7≤s.size):endA s 7=7+endA (s.extract 7 s.size) 0:=by
 have hz:=zk s hs (Nat.le_refl _);have hb:∀j,j<s.size - 7→bt (s.extract 7 s.size) j=bt s (7+j):=fun j hj=>zbe s hj
 obtain ⟨h1,h2,h3,h4⟩:=endA_spec (s:=s.extract 7 s.size) (i:=0) (by omega);generalize endA (s.extract 7 s.size) 0=k at *;have hno:∀j,7≤j→j<7+k→bt s j≠47∧bt s j≠63:=by
  intro j g1 g2;have:=h3 (j - 7) (by omega) (by omega);rw[hb _ (by omega),show 7+(j - 7)=j by omega] at this;exact this
 by_cases hk:k<s.size - 7
 ·refine endA_at (by omega) (by omega) hno ?_
  have:=h4 (by omega);rw[hb k hk] at this;exact this
 ·have e:7+k=s.size:=by omega
  rw[e];rw[e] at hno;exact endA_none hs hno
theorem zwq {k:Nat} {h:ByteArray} {p:Int} (hk:endA s 7=7+k) (hs:7+k≤s.size) (ha:authR ((s.extract 7 s.size).extract 0 k)=(h,p,0)):zjH s=zaK (Tg.with_ 2 h p) s (7+k):=by
 rw[zjW s (by omega) hs] at ha;unfold zjH;rw[hk,ha,if_pos rfl]
 rfl
theorem zmN (s:ByteArray):(authR s).2.2=0∨(authR s).2.2=52:=by
 rcases zrK s with h|h
 ·exact .inl h
 ·rw[h];exact .inr rfl
theorem zw0 {k:Nat} {h:ByteArray} {p e:Int} (hk:endA s 7=7+k) (hs:7+k≤s.size) (ha:authR ((s.extract 7 s.size).extract 0 k)=(h,p,e)) (he:¬e=0):zjH s=(zbK,7,52):=by
 rw[zjW s (by omega) hs] at ha;unfold zjH;rw[hk,ha,if_neg he]
end
theorem zdy:zcE.toList=[42]:=by decide +kernel
theorem zea:zgi.toList=[79,80,84,73,79,78,83]:=by decide +kernel
theorem zmC:zdd.toList=[104,116,116,112,58,47,47]:=by decide +kernel
set_option maxRecDepth 100000 in
set_option maxHeartbeats 4000000 in
theorem zot (m s:ByteArray) (w:World) (h0:s.size=0):
  Calls Tryz.prog 99 #[.string m,.string s] w fun e w'=>e= .returned (tgVal (parseT m s))∧Below w.heap.size w w':=by
 have he:s.toList.isEmpty=true:=by rw[zo];exact decide_eq_true h0
 have HR:=hid (zjy (m:=m) h0);clear h0
 go_enter Tryz.func99,Tryz.ntmps99
 go_wp2
 exact bodyPost_ret (v:=tgVal (zbK,0,50)) (by simp[results,Tryz.results99,go_sem,tgVal,Tg.val,zbK]) rfl ⟨zbr HR.out.symm,by (repeat (first|(with_reducible refine Below.setCell ?_ (by simp) _)|(with_reducible refine ze ?_ _)|(with_reducible refine Below.alloc ?_ (by simp) _)));exact Below.refl _ _⟩
set_option maxRecDepth 100000 in
set_option maxHeartbeats 4000000 in
theorem zqh (m s:ByteArray) (w:World) (hs:s.size≤4194304) (hg:Glob w) (h0:¬s.size=0) (hm:m=zbv):
  Calls Tryz.prog 99 #[.string m,.string s] w fun e w'=>e= .returned (tgVal (parseT m s))∧Below w.heap.size w w':=by
 have he:s.toList.isEmpty=false:=by rw[zo];exact decide_eq_false h0
 have hmm:(m.toList==[67,79,78,78,69,67,84])=true:=by rw[←zb8];exact (zaj m zbv).trans (decide_eq_true hm)
 have HA:=hid (Authority_any s (w.alloc (.cells #[.int .i64 0,.string ⟨#[]⟩,.int .i64 0,.string ⟨#[]⟩,.string ⟨#[]⟩,.bool false] 114)) hs (hg.alloc _));unfold authVal at HA;rw[zkf h0 hm];generalize ha:authR s=r at *;obtain ⟨h,p,er⟩:=r;dsimp only at HA;have hno:=@zrh s h p er ha;have hok:=@zrA s h p;clear h0 hm hg
 by_cases hz:er=0
 ·subst hz
  by_cases hp:0≤p
  ·have hd:decide (p<0)=false:=decide_eq_false (by omega)
   have HR:=hid (hok ha hp);clear hno hok ha
   go_enter Tryz.func99,Tryz.ntmps99
   go_wp2_with fail
   refine HA.out.mono ?_;rintro e w1 ⟨rfl,b1⟩;have b0':Below (w.heap.size+1) (w.alloc (.cells #[.int .i64 0,.string ⟨#[]⟩,.int .i64 0,.string ⟨#[]⟩,.string ⟨#[]⟩,.bool false] 114)) w1:=by simpa using b1
   obtain ⟨c0,f0⟩:=zH b0' 0;obtain ⟨c1,f1⟩:=zH b0' 1;obtain ⟨c2,f2⟩:=zH b0' 2;obtain ⟨c3,f3⟩:=zH b0' 3;obtain ⟨c4,f4⟩:=zH b0' 4;obtain ⟨c5,f5⟩:=zH b0' 5;have hsz:=zas b0';have hbw:=zw b0';clear b1 b0'
   go_wp2
   exact bodyPost_ret (v:=tgVal (⟨3,h,p,⟨#[]⟩,⟨#[]⟩,false⟩,0,0)) (by simp[results,Tryz.results99,go_sem,tgVal,Tg.val,c0,c1,c2,c3,c4,c5]) rfl ⟨zbr HR.out.symm,by (repeat (first|(with_reducible refine Below.setCell ?_ (by simp) _)|(with_reducible refine ze ?_ _)|(with_reducible refine Below.alloc ?_ (by simp) _)));exact hbw⟩
  ·have hd:decide (p<0)=true:=decide_eq_true (by omega)
   have HR:=hid (hno (by omega));clear hno hok ha
   go_enter Tryz.func99,Tryz.ntmps99
   go_wp2_with fail
   refine HA.out.mono ?_;rintro e w1 ⟨rfl,b1⟩;have b0':Below (w.heap.size+1) (w.alloc (.cells #[.int .i64 0,.string ⟨#[]⟩,.int .i64 0,.string ⟨#[]⟩,.string ⟨#[]⟩,.bool false] 114)) w1:=by simpa using b1
   obtain ⟨c0,f0⟩:=zH b0' 0;obtain ⟨c1,f1⟩:=zH b0' 1;obtain ⟨c2,f2⟩:=zH b0' 2;obtain ⟨c3,f3⟩:=zH b0' 3;obtain ⟨c4,f4⟩:=zH b0' 4;obtain ⟨c5,f5⟩:=zH b0' 5;have hsz:=zas b0';have hbw:=zw b0';clear b1 b0'
   go_wp2
   exact bodyPost_ret (v:=tgVal (zbK,0,52)) (by simp[results,Tryz.results99,go_sem,tgVal,Tg.val,zbK,c0,c1,c2,c3,c4,c5]) rfl ⟨zbr HR.out.symm,by (repeat (first|(with_reducible refine Below.setCell ?_ (by simp) _)|(with_reducible refine ze ?_ _)|(with_reducible refine Below.alloc ?_ (by simp) _)));exact hbw⟩
 ·have hd:(er !=0)=true:=by simpa using hz
  have HR:=hid (hno (by omega));clear hno hok ha
  go_enter Tryz.func99,Tryz.ntmps99
  go_wp2_with fail
  refine HA.out.mono ?_;rintro e w1 ⟨rfl,b1⟩;have b0':Below (w.heap.size+1) (w.alloc (.cells #[.int .i64 0,.string ⟨#[]⟩,.int .i64 0,.string ⟨#[]⟩,.string ⟨#[]⟩,.bool false] 114)) w1:=by simpa using b1
  obtain ⟨c0,f0⟩:=zH b0' 0;obtain ⟨c1,f1⟩:=zH b0' 1;obtain ⟨c2,f2⟩:=zH b0' 2;obtain ⟨c3,f3⟩:=zH b0' 3;obtain ⟨c4,f4⟩:=zH b0' 4;obtain ⟨c5,f5⟩:=zH b0' 5;have hsz:=zas b0';have hbw:=zw b0';clear b1 b0'
  go_wp2
  exact bodyPost_ret (v:=tgVal (zbK,0,52)) (by simp[results,Tryz.results99,go_sem,tgVal,Tg.val,zbK,c0,c1,c2,c3,c4,c5]) rfl ⟨zbr HR.out.symm,by (repeat (first|(with_reducible refine Below.setCell ?_ (by simp) _)|(with_reducible refine ze ?_ _)|(with_reducible refine Below.alloc ?_ (by simp) _)));exact hbw⟩
set_option maxRecDepth 100000 in
set_option maxHeartbeats 4000000 in
theorem zpC (m s:ByteArray) (w:World) (h0:¬s.size=0) (hm:¬m=zbv) (h47:¬bt s 0=47) (h:s=zcE∧m=zgi):
  Calls Tryz.prog 99 #[.string m,.string s] w fun e w'=>e= .returned (tgVal (parseT m s))∧Below w.heap.size w w':=by
 have he:s.toList.isEmpty=false:=by rw[zo];exact decide_eq_false h0
 have hmm:(m.toList==[67,79,78,78,69,67,84])=false:=by rw[←zb8];exact (zaj m zbv).trans (decide_eq_false hm)
 have hpos:0<s.size:=by omega
 have hb:=@zE s 0 hpos;have h4:(bt s 0==47)=false:=by simpa using h47
 have h5:(s.toList==[42])=true:=by rw[←zdy];exact (zaj s zcE).trans (decide_eq_true h.1)
 have h6:(m.toList==[79,80,84,73,79,78,83])=true:=by rw[←zea];exact (zaj m zgi).trans (decide_eq_true h.2)
 have HR:=hid (zkw h0 hm h47 h);clear h0 hm h47 h
 go_enter Tryz.func99,Tryz.ntmps99
 go_wp2
 exact bodyPost_ret (v:=tgVal (⟨4,⟨#[]⟩,-1,⟨#[]⟩,⟨#[]⟩,false⟩,0,0)) (by simp[results,Tryz.results99,go_sem,tgVal,Tg.val]) rfl ⟨zbr HR.out.symm,by (repeat (first|(with_reducible refine Below.setCell ?_ (by simp) _)|(with_reducible refine ze ?_ _)|(with_reducible refine Below.alloc ?_ (by simp) _)));exact Below.refl _ _⟩
set_option maxRecDepth 100000 in
set_option maxHeartbeats 4000000 in
theorem zoE (m s:ByteArray) (w:World) (h0:¬s.size=0) (hm:¬m=zbv) (h47:¬bt s 0=47) (h:¬(s=zcE∧m=zgi)) (h7:s.size<7):
  Calls Tryz.prog 99 #[.string m,.string s] w fun e w'=>e= .returned (tgVal (parseT m s))∧Below w.heap.size w w':=by
 have he:s.toList.isEmpty=false:=by rw[zo];exact decide_eq_false h0
 have hmm:(m.toList==[67,79,78,78,69,67,84])=false:=by rw[←zb8];exact (zaj m zbv).trans (decide_eq_false hm)
 have hpos:0<s.size:=by omega
 have hb:=@zE s 0 hpos;have h4:(bt s 0==47)=false:=by simpa using h47
 have hst:((s.toList==[42])=true∧(m.toList==[79,80,84,73,79,78,83])=false)∨(s.toList==[42])=false:=by
  rw[←zdy,←zea,zaj,zaj]
  by_cases e1:s=zcE
  ·exact .inl ⟨decide_eq_true e1,decide_eq_false (fun e2=>h ⟨e1,e2⟩)⟩
  ·exact .inr (decide_eq_false e1)
 have HR:=hid (ziw h0 hm h47 h (.inl h7));have hd:decide ((s.size:Int)<7)=true:=decide_eq_true (by omega);clear h0 hm h47 h h7
 rcases hst with ⟨h5,h6⟩|h5
 all_goals
  go_enter Tryz.func99,Tryz.ntmps99
  go_wp2
  exact bodyPost_ret (v:=tgVal (zbK,0,50)) (by simp[results,Tryz.results99,go_sem,tgVal,Tg.val,zbK]) rfl ⟨zbr HR.out.symm,by (repeat (first|(with_reducible refine Below.setCell ?_ (by simp) _)|(with_reducible refine ze ?_ _)|(with_reducible refine Below.alloc ?_ (by simp) _)));exact Below.refl _ _⟩
set_option maxRecDepth 100000 in
set_option maxHeartbeats 4000000 in
theorem zni (m s:ByteArray) (w:World) (hs:s.size≤4194304) (h0:¬s.size=0) (hm:¬m=zbv) (h47:¬bt s 0=47) (h:¬(s=zcE∧m=zgi)) (h7:¬s.size<7) (hh:zaP (s.extract 0 7)≠zdd):
  Calls Tryz.prog 99 #[.string m,.string s] w fun e w'=>e= .returned (tgVal (parseT m s))∧Below w.heap.size w w':=by
 have he:s.toList.isEmpty=false:=by rw[zo];exact decide_eq_false h0
 have hmm:(m.toList==[67,79,78,78,69,67,84])=false:=by rw[←zb8];exact (zaj m zbv).trans (decide_eq_false hm)
 have hpos:0<s.size:=by omega
 have hb:=@zE s 0 hpos;have h4:(bt s 0==47)=false:=by simpa using h47
 have hst:((s.toList==[42])=true∧(m.toList==[79,80,84,73,79,78,83])=false)∨(s.toList==[42])=false:=by
  rw[←zdy,←zea,zaj,zaj]
  by_cases e1:s=zcE
  ·exact .inl ⟨decide_eq_true e1,decide_eq_false (fun e2=>h ⟨e1,e2⟩)⟩
  ·exact .inr (decide_eq_false e1)
 have HR:=hid (ziw h0 hm h47 h (.inr hh));have hd:decide ((s.size:Int)<7)=false:=decide_eq_false (by omega);have hd2:(7:Int)≤(s.size:Int):=by omega
 have hz:=zk s (a:=0) (b:=7) (by omega) (by omega);have HS:=hid (zfz (s.extract 0 7) zdd (w.alloc (.cells #[.int .i64 0,.string ⟨#[]⟩,.int .i64 0,.string ⟨#[]⟩,.string ⟨#[]⟩,.bool false] 114)) (by rw[hz];unfold maxLen;omega) (by unfold maxLen;show 7≤_;omega));rw[show zbu (s.extract 0 7) zdd=false by unfold zbu;rw[zlv];exact decide_eq_false hh] at HS;unfold zdd at HS;clear h0 hm h47 h h7 hh hz
 rcases hst with ⟨h5,h6⟩|h5
 all_goals
  go_enter Tryz.func99,Tryz.ntmps99
  go_wp2_with fail
  refine HS.out.mono ?_;rintro e w1 ⟨rfl,b1⟩;have b0':Below (w.heap.size+1) (w.alloc (.cells #[.int .i64 0,.string ⟨#[]⟩,.int .i64 0,.string ⟨#[]⟩,.string ⟨#[]⟩,.bool false] 114)) w1:=by simpa using b1
  obtain ⟨c0,f0⟩:=zH b0' 0;obtain ⟨c1,f1⟩:=zH b0' 1;obtain ⟨c2,f2⟩:=zH b0' 2;obtain ⟨c3,f3⟩:=zH b0' 3;obtain ⟨c4,f4⟩:=zH b0' 4;obtain ⟨c5,f5⟩:=zH b0' 5;have hsz:=zas b0';have hbw:=zw b0';clear b1 b0'
  go_wp2
  exact bodyPost_ret (v:=tgVal (zbK,0,50)) (by simp[results,Tryz.results99,go_sem,tgVal,Tg.val,zbK,c0,c1,c2,c3,c4,c5]) rfl ⟨zbr HR.out.symm,by (repeat (first|(with_reducible refine Below.setCell ?_ (by simp) _)|(with_reducible refine ze ?_ _)|(with_reducible refine Below.alloc ?_ (by simp) _)));exact hbw⟩
set_option maxRecDepth 100000 in
set_option maxHeartbeats 4000000 in
theorem zrY (m s:ByteArray) (w:World) (hs:s.size≤4194304) (hg:Glob w) (h0:¬s.size=0) (hm:¬m=zbv) (h47:¬bt s 0=47) (h:¬(s=zcE∧m=zgi)) (hh:¬(s.size<7∨zaP (s.extract 0 7)≠zdd)):
  Calls Tryz.prog 99 #[.string m,.string s] w fun e w'=>e= .returned (tgVal (parseT m s))∧Below w.heap.size w w':=by
 have he:s.toList.isEmpty=false:=by rw[zo];exact decide_eq_false h0
 have hmm:(m.toList==[67,79,78,78,69,67,84])=false:=by rw[←zb8];exact (zaj m zbv).trans (decide_eq_false hm)
 have hpos:0<s.size:=by omega
 have hb:=@zE s 0 hpos;have h4:(bt s 0==47)=false:=by simpa using h47
 have hst:((s.toList==[42])=true∧(m.toList==[79,80,84,73,79,78,83])=false)∨(s.toList==[42])=false:=by
  rw[←zdy,←zea,zaj,zaj]
  by_cases e1:s=zcE
  ·exact .inl ⟨decide_eq_true e1,decide_eq_false (fun e2=>h ⟨e1,e2⟩)⟩
  ·exact .inr (decide_eq_false e1)
 have h7:7≤s.size:=by omega
 have hd:decide ((s.size:Int)<7)=false:=decide_eq_false (by omega);have hd2:(7:Int)≤(s.size:Int):=by omega
 have hz:=zk s (a:=0) (b:=7) (by omega) (by omega);have hrz:=zk s (a:=7) (b:=s.size) h7 (Nat.le_refl _);have HS:=hid (fun w=>zfz (s.extract 0 7) zdd w (by rw[hz];unfold maxLen;omega) (by unfold maxLen;show 7≤_;omega));rw[show zbu (s.extract 0 7) zdd=true by unfold zbu;rw[zlv];exact decide_eq_true (by simp only[not_or,Classical.not_not] at hh;exact hh.2)] at HS;unfold zdd at HS;rw[zmw h0 hm h47 h hh];have HI:=hid (fun w=>zf4 (s.extract 7 s.size) w (by omega));have hr:=zsV h7;obtain ⟨q1,q2,q3,q4⟩:=endA_spec (s:=s.extract 7 s.size) (i:=0) (by omega);unfold zjv at HI;generalize endA (s.extract 7 s.size) 0=k at *;clear q1 q3 q4;rw[hrz] at q2 HI;have hkz:7+k≤s.size:=by omega
 have hok:=@zwq s k;have hbad:=@zw0 s k;have HA:=hid (fun w hg=>Authority_any ((s.extract 7 s.size).extract 0 k) w (by rw[zk _ (by omega) (by omega)];omega) hg);unfold authVal at HA;have hcode:=zmN ((s.extract 7 s.size).extract 0 k);generalize har:authR ((s.extract 7 s.size).extract 0 k)=r at *;obtain ⟨ho,p,er⟩:=r;dsimp only at HA;clear h0 hm h47 h hh hz;have i7:((7:Int)+(k:Int)).toNat=7+k:=by omega
 have l0:(k:Int)≤(s.size:Int) - 7:=by omega
 have l1:k≤s.size - 7:=by omega
 have l2:(k:Int)≤((s.size - 7:Nat):Int):=by omega
 have hhit:((if k<s.size - 7 then (k:Int) else -1)=(k:Int))∨((if k<s.size - 7 then (k:Int) else -1)=-1∧k=s.size - 7):=by
  by_cases hk:k<s.size - 7
  ·exact .inl (if_pos hk)
  ·exact .inr ⟨if_neg hk,by omega⟩
 by_cases hz:er=0
 ·subst hz
  have HB:=hid (fun w=>zkA 2 ho p s (7+k) w (by omega) hkz);have HR:=hid (hok hr hkz rfl);rw[show (Tg.with_ 2 ho p).val= .agg #[.int .i64 2,.string ho,.int .i64 p,.string ⟨#[]⟩,.string ⟨#[]⟩,.bool false] from rfl] at HB;generalize zaK (Tg.with_ 2 ho p) s (7+k)=rr at *;obtain ⟨⟨f,h,p2,pa,qu,hq⟩,i,er⟩:=rr;unfold tgVal Tg.val at HB;dsimp only at HB;rw[Int.natCast_add,show ((7:Nat):Int)=7 from rfl] at HB;clear hok hbad har hcode hrz hr
  rcases hhit with hx|⟨hx,rfl⟩
  all_goals
   rw[hx] at HI;clear hx
   rcases hst with ⟨h5,h6⟩|h5
   all_goals
    go_enter Tryz.func99,Tryz.ntmps99
    go_wp2_with fail
    refine (HS.out _).mono ?_;rintro e w1 ⟨rfl,b1⟩
    go_wp2_with fail
    refine (HI.out _).mono ?_;rintro e w2 ⟨rfl,b2⟩;have B2:=b1.trans (b2.mono b1.size);have hg2:=(hg.alloc _).beyond B2;clear b1 b2
    go_wp2_with fail
    refine (HA.out _ hg2).mono ?_;rintro e w3 ⟨rfl,b3⟩;have B3:=B2.trans (b3.mono B2.size);clear b3 B2
    go_wp2_with fail
    refine (HB.out _).mono ?_;rintro e w4 ⟨rfl,b4⟩;have B4:=B3.trans (b4.mono B3.size);clear b4 B3;have b0':Below (w.heap.size+1) (w.alloc (.cells #[.int .i64 0,.string ⟨#[]⟩,.int .i64 0,.string ⟨#[]⟩,.string ⟨#[]⟩,.bool false] 114)) w4:=by simpa using B4
    obtain ⟨c0,f0⟩:=zH b0' 0;obtain ⟨c1,f1⟩:=zH b0' 1;obtain ⟨c2,f2⟩:=zH b0' 2;obtain ⟨c3,f3⟩:=zH b0' 3;obtain ⟨c4,f4⟩:=zH b0' 4;obtain ⟨c5,f5⟩:=zH b0' 5;have hsz:=zas b0';have hbw:=zw b0';clear B4 b0'
    go_wp2
    exact bodyPost_ret (v:=tgVal (⟨f,h,p2,pa,qu,hq⟩,i,er)) (by simp[results,Tryz.results99,go_sem,tgVal,Tg.val,c0,c1,c2,c3,c4,c5]) rfl ⟨zbr HR.out.symm,by (repeat (first|(with_reducible refine Below.setCell ?_ (by simp) _)|(with_reducible refine ze ?_ _)|(with_reducible refine Below.alloc ?_ (by simp) _)));exact hbw⟩
 ·have hne:(er !=0)=true:=by simpa using hz
  have HR:=hid (hbad hr hkz rfl hz);obtain rfl:er=52:=by
   rcases hcode with h|h
   ·exact absurd h hz
   ·exact h
  clear hok hbad har hcode hrz hr
  rcases hhit with hx|⟨hx,rfl⟩
  all_goals
   rw[hx] at HI;clear hx
   rcases hst with ⟨h5,h6⟩|h5
   all_goals
    go_enter Tryz.func99,Tryz.ntmps99
    go_wp2_with fail
    refine (HS.out _).mono ?_;rintro e w1 ⟨rfl,b1⟩
    go_wp2_with fail
    refine (HI.out _).mono ?_;rintro e w2 ⟨rfl,b2⟩;have B2:=b1.trans (b2.mono b1.size);have hg2:=(hg.alloc _).beyond B2;clear b1 b2
    go_wp2_with fail
    refine (HA.out _ hg2).mono ?_;rintro e w3 ⟨rfl,b3⟩;have B3:=B2.trans (b3.mono B2.size);clear b3 B2;have b0':Below (w.heap.size+1) (w.alloc (.cells #[.int .i64 0,.string ⟨#[]⟩,.int .i64 0,.string ⟨#[]⟩,.string ⟨#[]⟩,.bool false] 114)) w3:=by simpa using B3
    obtain ⟨c0,f0⟩:=zH b0' 0;obtain ⟨c1,f1⟩:=zH b0' 1;obtain ⟨c2,f2⟩:=zH b0' 2;obtain ⟨c3,f3⟩:=zH b0' 3;obtain ⟨c4,f4⟩:=zH b0' 4;obtain ⟨c5,f5⟩:=zH b0' 5;have hsz:=zas b0';have hbw:=zw b0';clear B3 b0'
    go_wp2
    exact bodyPost_ret (v:=tgVal (zbK,7,52)) (by simp[results,Tryz.results99,go_sem,tgVal,Tg.val,zbK,c0,c1,c2,c3,c4,c5]) rfl ⟨zbr HR.out.symm,by (repeat (first|(with_reducible refine Below.setCell ?_ (by simp) _)|(with_reducible refine ze ?_ _)|(with_reducible refine Below.alloc ?_ (by simp) _)));exact hbw⟩
end Go.Proofs.YtbnafbdhomdcoaaGreatDoor.T5
