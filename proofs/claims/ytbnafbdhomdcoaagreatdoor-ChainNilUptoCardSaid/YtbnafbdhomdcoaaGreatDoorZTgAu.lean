/-
 TgAu, without what this claim does not reach.
-/
import Derived.Test.YtbnafbdhomdcoaaGreatDoorZTgNm
namespace Go.Proofs.YtbnafbdhomdcoaaGreatDoor.T5
open Go.RowKit Go.Shelf Go.Lib
def authVal (r:ByteArray×Int×Int):Value:=.tuple #[.string r.1,.int .i64 r.2.1,.int .i64 r.2.2]
theorem zaX {s:ByteArray} {c:Int}:heads s c=true↔(0<s.size∧bt s 0=c):=by simp[heads]
theorem zeC {h t:ByteArray} (hl:5<t.size):zen h t=zcf:=by unfold zen;rw[if_pos hl]
theorem zeH {h t:ByteArray} (hz:t.size=0):zen h t=(zaP h,-1,0):=by unfold zen;rw[if_neg (by omega),if_pos hz]
theorem zig {h t:ByteArray} (hl:¬5<t.size) (hz:¬t.size=0) (hn:(zbY t 65535 10).2=0):zen h t=(zaP h,(zbY t 65535 10).1,0):=by unfold zen;rw[if_neg hl,if_neg hz,if_pos hn]
theorem ziO {h t:ByteArray} (hl:¬5<t.size) (hz:¬t.size=0) (hn:¬(zbY t 65535 10).2=0):zen h t=zcf:=by unfold zen;rw[if_neg hl,if_neg hz,if_neg hn]
section
variable {s:ByteArray} {k:Nat}
theorem zmh (h:heads s 91=false):authR s=if zcm (zbI s 58).1=true then zen (zbI s 58).1 (zbI s 58).2.1 else zcf:=by
 unfold authR;rw[if_neg (fun h2=>by rw[zaX.2 h2] at h;cases h)]
theorem zmR (h:heads s 91=true) (hp:zax s 93=s.size):authR s=zcf:=by
 unfold authR;rw[if_pos (zaX.1 h),if_neg (by omega)]
theorem zr6 (h:heads s 91=true) (hk:k<s.size) (hp:zax s 93=k) (ha:zcj (s.extract 1 k)=false):authR s=zcf:=by
 unfold authR;rw[if_pos (zaX.1 h),hp,if_pos hk,if_neg (by rw[ha];simp)]
theorem zmf (h:heads s 91=true) (hk:k+1=s.size) (hp:zax s 93=k):authR s=if zcj (s.extract 1 k)=true then (zaP s,-1,0) else zcf:=by
 unfold authR;rw[if_pos (zaX.1 h),hp,if_pos (by omega),if_pos hk]
theorem zmb (h:heads s 91=true) (hk:k+1<s.size) (hp:zax s 93=k) (hb:bt s (k+1)=58):authR s=if zcj (s.extract 1 k)=true then zen (s.extract 0 (k+1)) (s.extract (k+2) s.size) else zcf:=by
 unfold authR;rw[if_pos (zaX.1 h),hp,if_pos (by omega),if_neg (show ¬k+1=s.size by omega),if_pos hb]
theorem zl9 (h:heads s 91=true) (hk:k+1<s.size) (hp:zax s 93=k) (hb:¬bt s (k+1)=58):authR s=zcf:=by
 unfold authR;rw[if_pos (zaX.1 h),hp,if_pos (by omega),if_neg (show ¬k+1=s.size by omega),if_neg hb]
 split<;>rfl
theorem zsk (h:heads s 91=false):heads (zbI s 58).1 91=false:=by
 rcases zaC s 58 with ⟨hp,_⟩|⟨k,hp,hk,_⟩
 ·rw[zco hp];exact h
 ·rw[zcY hk hp]
  have hz:=zk s (a:=0) (b:=k) (by omega) (by omega)
  cases e:heads (s.extract 0 k) 91
  ·rfl
  ·obtain ⟨h1,h2⟩:=zaX.1 e
   have:=zbe s (a:=0) (b:=k) (j:=0) (by omega);rw[Nat.zero_add] at this;rw[this] at h2;rw[zaX.2 ⟨by omega,h2⟩] at h
   cases h
theorem zrL (h:heads s 91=false):zfY (zbI s 58).1=zcm (zbI s 58).1:=by unfold zfY;rw[zsk h,if_neg (by simp)]
theorem zsg (h:heads s 91=true) (hp:zax s 93=s.size):zfY (zbI s 58).1=false:=by
 obtain ⟨h0,h1⟩:=zaX.1 h;have hno:∀j,j<s.size→bt s j≠93:=by
  rcases zaC s 93 with ⟨_,hn⟩|⟨k,hk,hl,_⟩
  ·exact hn
  ·omega
 have key:∀t:ByteArray,(∃k,0<k∧k≤s.size∧t=s.extract 0 k)→zfY t=false:=by
  rintro t ⟨k,hk0,hk,rfl⟩;have hz:=zk s (a:=0) (b:=k) (by omega) hk;have hb:∀j,j<k→bt (s.extract 0 k) j=bt s j:=fun j hj=>by
   have:=zbe s (a:=0) (b:=k) (j:=j) (by omega)
   rwa [Nat.zero_add] at this
  unfold zfY;rw[if_pos (zaX.2 ⟨by omega,by rw[hb 0 hk0];exact h1⟩)];have:ends (s.extract 0 k) 93=false:=by
   unfold ends;rw[decide_eq_false (show ¬bt (s.extract 0 k) ((s.extract 0 k).size - 1)=93 by rw[hz,hb _ (by omega)];exact hno _ (by omega))];simp
  rw[this]
  rfl
 rcases zaC s 58 with ⟨hp2,_⟩|⟨k,hp2,hk,hb,_⟩
 ·rw[zco hp2]
  exact key s ⟨s.size,h0,Nat.le_refl _,(zV (by rw[zhe,←size_eq,List.take_length])).symm⟩
 ·rw[zcY hk hp2]
  refine key _ ⟨k,?_,by omega,rfl⟩
  rcases Nat.eq_zero_or_pos k with h2|h2
  ·rw[h2,h1] at hb;omega
  ·exact h2
theorem zsb (h:heads s 91=true) (hk:k<s.size) (hp:zax s 93=k):zfY (s.extract 0 (k+1))=zcj (s.extract 1 k):=by
 obtain ⟨h0,h1⟩:=zaX.1 h;have hz:=zk s (a:=0) (b:=k+1) (by omega) (by omega);have hb:∀j,j<k+1→bt (s.extract 0 (k+1)) j=bt s j:=fun j hj=>by
  have:=zbe s (a:=0) (b:=k+1) (j:=j) (by omega)
  rwa [Nat.zero_add] at this
 have hbk:bt s k=93:=by
  rcases zaC s 93 with ⟨h2,_⟩|⟨q,h2,_,h3,_⟩
  ·omega
  ·rw[hp] at h2;rw[h2];exact h3
 unfold zfY;rw[if_pos (zaX.2 ⟨by omega,by rw[hb 0 (by omega)];exact h1⟩)];have he:ends (s.extract 0 (k+1)) 93=true:=by
  unfold ends;rw[hz,show k+1 - 0 - 1=k by omega,hb k (by omega),hbk,decide_eq_true (show 0<k+1 - 0 by omega)]
  rfl
 rw[he,Bool.true_and,hz,show k+1 - 0 - 1=k by omega]
 congr 1
 apply zV
 rw[Lib.extract_data,Lib.extract_data,Lib.extract_data,List.drop_zero,List.drop_take,List.take_take]
 congr 1<;>omega
theorem zmI (h:heads s 91=true) (hp:zax s 93=k):0<k:=by
 obtain ⟨h0,h1⟩:=zaX.1 h
 rcases zaC s 93 with ⟨h2,_⟩|⟨q,h2,_,h3,_⟩
 ·omega
 ·rw[hp] at h2
  rcases Nat.eq_zero_or_pos k with h4|h4
  ·rw[h4] at h2
   subst h2;rw[h1] at h3;omega
  ·exact h4
theorem ztJ (hk:k<s.size) {c:Int} (hp:zax s c=k):za7 s c=k:=by unfold za7;rw[hp,if_neg (by omega)]
theorem zus {c:Int} (hp:zax s c=s.size):za7 s c=-1:=by unfold za7;rw[if_pos hp]
end
set_option maxRecDepth 20000 in
set_option maxHeartbeats 8000000 in
theorem Authority_any (s:ByteArray) (w:World) (hs:s.size≤4194304) (hg:Glob w):
  Calls Tryz.prog 114 #[.string s] w fun e w'=>e= .returned (authVal (authR s))∧Below w.heap.size w w':=by
 have HI:=hid (fun w=>za2 s 93 w (by omega) (by omega));have HP:=hid (fun w=>zhW s 91 w);rw[show ((91:UInt8).toNat:Int)=91 from rfl] at HP;have HC:=hid (fun w hg=>zjY s 58 w hs hg);rw[show ((58:UInt8).toNat:Int)=58 from rfl] at HC;unfold zfn at HC
 cases hh:heads s 91
 ·rw[hh] at HP
  have ha:=zmh hh;have hn:=zrL hh;have hz:=zg0 s 58;generalize zbI s 58=r at *;obtain ⟨h,t,fl⟩:=r;dsimp only at HC ha hn hz;have hts:t.size≤s.size:=hz.2.1;have HH:=hid (fun w hg=>zhw h w (by omega) hg);have HL:=hid (fun w=>zdA h w (by unfold maxLen;omega));rw[hn] at HH;generalize zcm h=b at *;have HA:=hid (fun hb:b=false=>ha.trans (if_neg (by rw[hb];simp)));have HB:=hid (fun hb:b=true=>ha.trans (if_pos hb));clear hh ha hn hz
  cases b
  ·have HZ:=hid (HA.out rfl)
   go_enter Tryz.func114,Tryz.ntmps114
   go_wp2_with fail
   refine (HI.out _).mono ?_;rintro e w1 ⟨rfl,rfl⟩
   go_wp2_with fail
   refine (HP.out _).mono ?_;rintro e w1 ⟨rfl,rfl⟩
   go_wp2_with fail
   refine (HC.out _ hg).mono ?_;rintro e w1 ⟨rfl,q,rfl⟩
   go_wp2_with fail
   refine (HH.out _ (hg.drewN _)).mono ?_;rintro e w2 ⟨rfl,b2⟩;have B2:=(ze (Below.refl w.heap.size w) _).trans b2;clear b2
   go_wp2
   go_ret3
   exact ⟨by rw[HZ.out];rfl,B2⟩
  ·have HY:=hid (HB.out rfl)
   by_cases hl:5<t.size
   ·have HZ:=hid (HY.out.trans (zeC hl))
    go_enter Tryz.func114,Tryz.ntmps114
    go_wp2_with fail
    refine (HI.out _).mono ?_;rintro e w1 ⟨rfl,rfl⟩
    go_wp2_with fail
    refine (HP.out _).mono ?_;rintro e w1 ⟨rfl,rfl⟩
    go_wp2_with fail
    refine (HC.out _ hg).mono ?_;rintro e w1 ⟨rfl,q,rfl⟩
    go_wp2_with fail
    refine (HH.out _ (hg.drewN _)).mono ?_;rintro e w2 ⟨rfl,b2⟩;have B2:=(ze (Below.refl w.heap.size w) _).trans b2;clear b2
    go_wp2
    go_ret3
    exact ⟨by rw[HZ.out];rfl,B2⟩
   ·by_cases hz:t.size=0
    ·have HZ:=hid (HY.out.trans (zeH hz))
     have he2:t.toList.isEmpty=true:=by rw[zo];exact decide_eq_true hz
     clear hz
     go_enter Tryz.func114,Tryz.ntmps114
     go_wp2_with fail
     refine (HI.out _).mono ?_;rintro e w1 ⟨rfl,rfl⟩
     go_wp2_with fail
     refine (HP.out _).mono ?_;rintro e w1 ⟨rfl,rfl⟩
     go_wp2_with fail
     refine (HC.out _ hg).mono ?_;rintro e w1 ⟨rfl,q,rfl⟩
     go_wp2_with fail
     refine (HH.out _ (hg.drewN _)).mono ?_;rintro e w2 ⟨rfl,b2⟩;have B2:=(ze (Below.refl w.heap.size w) _).trans b2;clear b2
     go_wp2_with fail
     refine (HL.out _).mono ?_;rintro e w3 ⟨rfl,b3⟩;have B3:=B2.trans (b3.mono B2.size);clear b3 B2
     go_wp2
     go_ret3
     exact ⟨by rw[HZ.out];rfl,B3⟩
    ·have he2:t.toList.isEmpty=false:=by rw[zo];exact decide_eq_false hz
     have hpo:=@zig h t hl hz;have hpb:=@ziO h t hl hz;have HD:=hid (fun w=>zgT t 65535 w (by omega) (by omega) (by omega));generalize zbY t 65535 10=r at *;obtain ⟨n,er⟩:=r;dsimp only at HD hpo hpb
     by_cases he0:er=0
     ·have hee:(er !=0)=false:=by simp[he0]
      have HZ:=hid (HY.out.trans (hpo he0));clear hz hpo hpb he0
      go_enter Tryz.func114,Tryz.ntmps114
      go_wp2_with fail
      refine (HI.out _).mono ?_;rintro e w1 ⟨rfl,rfl⟩
      go_wp2_with fail
      refine (HP.out _).mono ?_;rintro e w1 ⟨rfl,rfl⟩
      go_wp2_with fail
      refine (HC.out _ hg).mono ?_;rintro e w1 ⟨rfl,q,rfl⟩
      go_wp2_with fail
      refine (HH.out _ (hg.drewN _)).mono ?_;rintro e w2 ⟨rfl,b2⟩;have B2:=(ze (Below.refl w.heap.size w) _).trans b2;clear b2
      go_wp2_with fail
      refine (HD.out _).mono ?_;rintro e w3 ⟨rfl,b3⟩;have B3:=B2.trans (b3.mono B2.size);clear b3 B2
      go_wp2_with fail
      refine (HL.out _).mono ?_;rintro e w4 ⟨rfl,b4⟩;have B4:=B3.trans (b4.mono B3.size);clear b4 B3
      go_wp2
      go_ret3
      exact ⟨by rw[HZ.out];rfl,B4⟩
     ·have hee:(er !=0)=true:=by simpa using he0
      have HZ:=hid (HY.out.trans (hpb he0));clear hz hpo hpb he0
      go_enter Tryz.func114,Tryz.ntmps114
      go_wp2_with fail
      refine (HI.out _).mono ?_;rintro e w1 ⟨rfl,rfl⟩
      go_wp2_with fail
      refine (HP.out _).mono ?_;rintro e w1 ⟨rfl,rfl⟩
      go_wp2_with fail
      refine (HC.out _ hg).mono ?_;rintro e w1 ⟨rfl,q,rfl⟩
      go_wp2_with fail
      refine (HH.out _ (hg.drewN _)).mono ?_;rintro e w2 ⟨rfl,b2⟩;have B2:=(ze (Below.refl w.heap.size w) _).trans b2;clear b2
      go_wp2_with fail
      refine (HD.out _).mono ?_;rintro e w3 ⟨rfl,b3⟩;have B3:=B2.trans (b3.mono B2.size);clear b3 B2
      go_wp2
      go_ret3
      exact ⟨by rw[HZ.out];rfl,B3⟩
 ·rw[hh] at HP
  rcases zaC s 93 with ⟨hp,_⟩|⟨k,hp,hk,_⟩
  ·have HZ:=hid (zmR hh hp)
   have hn:=zsg hh hp;have hz:=zg0 s 58;rw[zus hp] at HI;generalize zbI s 58=r at *;obtain ⟨h,t,fl⟩:=r;dsimp only at HC hn hz;have HH:=hid (fun w hg=>zhw h w (by omega) hg);rw[hn] at HH;clear hh hn hz hp
   go_enter Tryz.func114,Tryz.ntmps114
   go_wp2_with fail
   refine (HI.out _).mono ?_;rintro e w1 ⟨rfl,rfl⟩
   go_wp2_with fail
   refine (HP.out _).mono ?_;rintro e w1 ⟨rfl,rfl⟩
   go_wp2_with fail
   refine (HC.out _ hg).mono ?_;rintro e w1 ⟨rfl,q,rfl⟩
   go_wp2_with fail
   refine (HH.out _ (hg.drewN _)).mono ?_;rintro e w2 ⟨rfl,b2⟩;have B2:=(ze (Below.refl w.heap.size w) _).trans b2
   go_wp2
   go_ret3
   exact ⟨by rw[HZ.out];rfl,B2⟩
  ·have hk0:=zmI hh hp
   rw[ztJ hk hp] at HI;have hkp:(0:Int)<(k:Int):=by omega
   have hw1:IntKind.i64.wrap ((k:Int)+1)=(k:Int)+1:=IntWalk.i64_in _ (by omega);have k1:(0:Int)≤(k:Int)+1:=by omega
   have k2:(k:Int)+1≤(s.size:Int):=by omega
   have k3:((k:Int)+1).toNat=k+1:=by omega
   have hz1:=zk s (a:=0) (b:=k+1) (by omega) (by omega);have hz2:=zk s (a:=k+1) (b:=s.size) (by omega) (by omega);have hn:=zsb hh hk hp;have HH:=hid (fun w hg=>zhw (s.extract 0 (k+1)) w (by omega) hg);have HL:=hid (fun w=>zdA (s.extract 0 (k+1)) w (by unfold maxLen;omega));rw[hn] at HH
   by_cases hend:k+1=s.size
   ·have ha:=zmf hh hend hp
    have he:(s.extract (k+1) s.size).toList.isEmpty=true:=by rw[zo];exact decide_eq_true (by omega)
    have HT:=hid (fun w=>zgS (s.extract (k+1) s.size) 58 w);have hno:heads (s.extract (k+1) s.size) ((58:UInt8).toNat:Int)=false:=by unfold heads;rw[decide_eq_false (by omega)];rfl
    rw[hno,if_neg (by simp)] at HT;rw[show zaP s=zaP (s.extract 0 (k+1)) by rw[hend];congr 1;exact (zV (by rw[zhe,←size_eq,List.take_length])).symm] at ha;generalize zcj (s.extract 1 k)=b at *;have HA:=hid (fun hb:b=false=>ha.trans (if_neg (by rw[hb];simp)));have HB:=hid (fun hb:b=true=>ha.trans (if_pos hb));have hl5:((s.size - (k+1):Nat):Int)≤5:=by omega
    clear hh ha hn hp hno hz1 hz2 hend HC
    cases b
    ·have HZ:=hid (HA.out rfl)
     go_enter Tryz.func114,Tryz.ntmps114
     go_wp2_with fail
     refine (HI.out _).mono ?_;rintro e w1 ⟨rfl,rfl⟩
     go_wp2_with fail
     refine (HP.out _).mono ?_;rintro e w1 ⟨rfl,rfl⟩
     go_wp2_with fail
     go_quiet (fail)
     go_wp2_with fail
     refine (HT.out _).mono ?_;rintro e w1 ⟨rfl,rfl⟩
     go_wp2_with fail
     refine (HH.out _ (hg.drewN _)).mono ?_;rintro e w2 ⟨rfl,b2⟩;have B2:=(ze (Below.refl w.heap.size w) _).trans b2;clear b2
     go_wp2
     go_ret3
     exact ⟨by rw[HZ.out];rfl,B2⟩
    ·have HZ:=hid (HB.out rfl)
     go_enter Tryz.func114,Tryz.ntmps114
     go_wp2_with fail
     refine (HI.out _).mono ?_;rintro e w1 ⟨rfl,rfl⟩
     go_wp2_with fail
     refine (HP.out _).mono ?_;rintro e w1 ⟨rfl,rfl⟩
     go_wp2_with fail
     go_quiet (fail)
     go_wp2_with fail
     refine (HT.out _).mono ?_;rintro e w1 ⟨rfl,rfl⟩
     go_wp2_with fail
     refine (HH.out _ (hg.drewN _)).mono ?_;rintro e w2 ⟨rfl,b2⟩;have B2:=(ze (Below.refl w.heap.size w) _).trans b2;clear b2
     go_wp2_with fail
     refine (HL.out _).mono ?_;rintro e w3 ⟨rfl,b3⟩;have B3:=B2.trans (b3.mono B2.size)
     go_wp2
     go_ret3
     exact ⟨by rw[HZ.out];rfl,B3⟩
   ·have hlt:k+1<s.size:=by omega
    have he:(s.extract (k+1) s.size).toList.isEmpty=false:=by rw[zo];exact decide_eq_false (by omega)
    have hpos:0<(s.extract (k+1) s.size).size:=by omega
    have hb0:=@zE (s.extract (k+1) s.size) 0 hpos;have hbb:bt (s.extract (k+1) s.size) 0=bt s (k+1):=zbe s (j:=0) (by omega)
    by_cases h58:bt s (k+1)=58
    ·have ha:=zmb hh hlt hp h58
     have HT:=hid (fun w=>zgS (s.extract (k+1) s.size) 58 w);have hno:heads (s.extract (k+1) s.size) ((58:UInt8).toNat:Int)=true:=zaX.2 ⟨hpos,by rw[hbb,h58];rfl⟩;have h5:(bt (s.extract (k+1) s.size) 0!=58)=false:=by rw[hbb,h58];rfl
     have hzt:=zk s (a:=k+2) (b:=s.size) (by omega) (by omega);rw[hno,if_pos rfl,zh7,show k+1+1=k+2 from rfl] at HT;generalize s.extract (k+2) s.size=t at *;generalize zcj (s.extract 1 k)=b at *;have hts:t.size≤s.size:=by omega
     have HA:=hid (fun hb:b=false=>ha.trans (if_neg (by rw[hb];simp)));have HB:=hid (fun hb:b=true=>ha.trans (if_pos hb));clear hh ha hn hp hno hz1 hz2 hend HC h58 hbb hzt
     cases b
     ·have HZ:=hid (HA.out rfl)
      go_enter Tryz.func114,Tryz.ntmps114
      go_wp2_with fail
      refine (HI.out _).mono ?_;rintro e w1 ⟨rfl,rfl⟩
      go_wp2_with fail
      refine (HP.out _).mono ?_;rintro e w1 ⟨rfl,rfl⟩
      go_wp2_with fail
      go_quiet (fail)
      go_wp2_with fail
      refine (HT.out _).mono ?_;rintro e w1 ⟨rfl,rfl⟩
      go_wp2_with fail
      refine (HH.out _ (hg.drewN _)).mono ?_;rintro e w2 ⟨rfl,b2⟩;have B2:=(ze (Below.refl w.heap.size w) _).trans b2;clear b2
      go_wp2
      go_ret3
      exact ⟨by rw[HZ.out];rfl,B2⟩
     ·have HY:=hid (HB.out rfl)
      by_cases hl:5<t.size
      ·have HZ:=hid (HY.out.trans (zeC hl))
       go_enter Tryz.func114,Tryz.ntmps114
       go_wp2_with fail
       refine (HI.out _).mono ?_;rintro e w1 ⟨rfl,rfl⟩
       go_wp2_with fail
       refine (HP.out _).mono ?_;rintro e w1 ⟨rfl,rfl⟩
       go_wp2_with fail
       go_quiet (fail)
       go_wp2_with fail
       refine (HT.out _).mono ?_;rintro e w1 ⟨rfl,rfl⟩
       go_wp2_with fail
       refine (HH.out _ (hg.drewN _)).mono ?_;rintro e w2 ⟨rfl,b2⟩;have B2:=(ze (Below.refl w.heap.size w) _).trans b2;clear b2
       go_wp2
       go_ret3
       exact ⟨by rw[HZ.out];rfl,B2⟩
      ·by_cases hz:t.size=0
       ·have HZ:=hid (HY.out.trans (zeH hz))
        have he2:t.toList.isEmpty=true:=by rw[zo];exact decide_eq_true hz
        clear hz
        go_enter Tryz.func114,Tryz.ntmps114
        go_wp2_with fail
        refine (HI.out _).mono ?_;rintro e w1 ⟨rfl,rfl⟩
        go_wp2_with fail
        refine (HP.out _).mono ?_;rintro e w1 ⟨rfl,rfl⟩
        go_wp2_with fail
        go_quiet (fail)
        go_wp2_with fail
        refine (HT.out _).mono ?_;rintro e w1 ⟨rfl,rfl⟩
        go_wp2_with fail
        refine (HH.out _ (hg.drewN _)).mono ?_;rintro e w2 ⟨rfl,b2⟩;have B2:=(ze (Below.refl w.heap.size w) _).trans b2;clear b2
        go_wp2_with fail
        refine (HL.out _).mono ?_;rintro e w3 ⟨rfl,b3⟩;have B3:=B2.trans (b3.mono B2.size);clear b3 B2
        go_wp2
        go_ret3
        exact ⟨by rw[HZ.out];rfl,B3⟩
       ·have he2:t.toList.isEmpty=false:=by rw[zo];exact decide_eq_false hz
        have hpo:=@zig (s.extract 0 (k+1)) t hl hz;have hpb:=@ziO (s.extract 0 (k+1)) t hl hz;have HD:=hid (fun w=>zgT t 65535 w (by omega) (by omega) (by omega));generalize zbY t 65535 10=r at *;obtain ⟨n,er⟩:=r;dsimp only at HD hpo hpb
        by_cases he0:er=0
        ·have hee:(er !=0)=false:=by simp[he0]
         have HZ:=hid (HY.out.trans (hpo he0));clear hz hpo hpb he0
         go_enter Tryz.func114,Tryz.ntmps114
         go_wp2_with fail
         refine (HI.out _).mono ?_;rintro e w1 ⟨rfl,rfl⟩
         go_wp2_with fail
         refine (HP.out _).mono ?_;rintro e w1 ⟨rfl,rfl⟩
         go_wp2_with fail
         go_quiet (fail)
         go_wp2_with fail
         refine (HT.out _).mono ?_;rintro e w1 ⟨rfl,rfl⟩
         go_wp2_with fail
         refine (HH.out _ (hg.drewN _)).mono ?_;rintro e w2 ⟨rfl,b2⟩;have B2:=(ze (Below.refl w.heap.size w) _).trans b2;clear b2
         go_wp2_with fail
         refine (HD.out _).mono ?_;rintro e w3 ⟨rfl,b3⟩;have B3:=B2.trans (b3.mono B2.size);clear b3 B2
         go_wp2_with fail
         refine (HL.out _).mono ?_;rintro e w4 ⟨rfl,b4⟩;have B4:=B3.trans (b4.mono B3.size);clear b4 B3
         go_wp2
         go_ret3
         exact ⟨by rw[HZ.out];rfl,B4⟩
        ·have hee:(er !=0)=true:=by simpa using he0
         have HZ:=hid (HY.out.trans (hpb he0));clear hz hpo hpb he0
         go_enter Tryz.func114,Tryz.ntmps114
         go_wp2_with fail
         refine (HI.out _).mono ?_;rintro e w1 ⟨rfl,rfl⟩
         go_wp2_with fail
         refine (HP.out _).mono ?_;rintro e w1 ⟨rfl,rfl⟩
         go_wp2_with fail
         go_quiet (fail)
         go_wp2_with fail
         refine (HT.out _).mono ?_;rintro e w1 ⟨rfl,rfl⟩
         go_wp2_with fail
         refine (HH.out _ (hg.drewN _)).mono ?_;rintro e w2 ⟨rfl,b2⟩;have B2:=(ze (Below.refl w.heap.size w) _).trans b2;clear b2
         go_wp2_with fail
         refine (HD.out _).mono ?_;rintro e w3 ⟨rfl,b3⟩;have B3:=B2.trans (b3.mono B2.size);clear b3 B2
         go_wp2
         go_ret3
         exact ⟨by rw[HZ.out];rfl,B3⟩
    ·have HZ:=hid (zl9 hh hlt hp h58)
     have h5:(bt (s.extract (k+1) s.size) 0!=58)=true:=by rw[hbb];simpa using h58
     clear hh hn hp hz1 hz2 hend HC h58 hbb
     go_enter Tryz.func114,Tryz.ntmps114
     go_wp2_with fail
     refine (HI.out _).mono ?_;rintro e w1 ⟨rfl,rfl⟩
     go_wp2_with fail
     refine (HP.out _).mono ?_;rintro e w1 ⟨rfl,rfl⟩
     go_wp2_with fail
     go_quiet (fail)
     go_wp2
     go_ret3
     exact ⟨by rw[HZ.out];rfl,ze (Below.refl w.heap.size w) _⟩
end Go.Proofs.YtbnafbdhomdcoaaGreatDoor.T5
