/-
  CjDa, TgJo, TgNo, CjO, CjDb, CjDc, CjDd, without what the claim does not reach.
-/
import Derived.Test.YtbnafbdhomdcoaaGreatDoorZm4
import Derived.Test.YtbnafbdhomdcoaaGreatDoorZm2
import Derived.Test.YtbnafbdhomdcoaaGreatDoorZTgSp
import Derived.Test.YtbnafbdhomdcoaaGreatDoorZm5
import Derived.Lib.Join
import Derived.Lib.AppendStr
import Derived.Test.YtbnafbdhomdcoaaGreatDoorZTgLib
import Derived.RangeFuncNested
import Derived.RangeFuncBound
import Derived.RangeFuncCalls
import Derived.RangeFuncLeaves
import Derived.Shelf.Abstract
import Derived.Shelf.RegionOpen
import Derived.WalkKit
import Derived.OwnWalkIn
import Derived.TacticsInMore
import Derived.LoopNIn
import Derived.LoopIn
import Derived.RangeFuncBox
import Derived.Maps.AppendAt
import Derived.Test.YtbnafbdhomdcoaaGreatDoorZm1
namespace Go.Proofs.YtbnafbdhomdcoaaGreatDoor
open Go.RowKit Go.Shelf Go.Lib
theorem zwf (w:World) (m:zY) (A:Option Addr) (c:Nat) (r:Rq) (FA:Option Addr) (fc:Nat) (TA:Option Addr) (tc:Nat):
  ((w.alloc (.cells #[.int .i64 m.kind,.string m.name,.string m.value,.slice A m.list.length c,.int .i64 m.n] 24)).alloc (.cells #[.string r.method,.string r.target,.int .i64 r.major,.int .i64 r.minor,.slice FA r.fields.length fc,.string r.body,.slice TA r.trailers.length tc] 27)).alloc (.cells #[.int .i64 0,.string ⟨#[]⟩,.slice none 0 0,.string ⟨#[]⟩] 29)=X3 w (zf m A c) (zu r FA fc TA tc):=rfl
theorem zh {D:Nat→Prop} {w w':World} {m:zY} {A:Option Addr} {c:Nat} {r:Rq} {FA:Option Addr} {fc:Nat} {TA:Option Addr} {tc:Nat} (hD:∀k,D k→k<w.heap.size) (h:zb D (X3 w (zf m A c) (zu r FA fc TA tc)) w'):
  ((w'.cell? ⟨w.heap.size,0,none⟩=some (.int .i64 m.kind)∧w'.cell? ⟨w.heap.size,1,none⟩=some (.string m.name)∧w'.cell? ⟨w.heap.size,2,none⟩=some (.string m.value)∧w'.cell? ⟨w.heap.size,3,none⟩=some (.slice A m.list.length c)∧w'.cell? ⟨w.heap.size,4,none⟩=some (.int .i64 m.n))∧
  (w'.cell? ⟨w.heap.size+1,0,none⟩=some (.string r.method)∧w'.cell? ⟨w.heap.size+1,1,none⟩=some (.string r.target)∧w'.cell? ⟨w.heap.size+1,2,none⟩=some (.int .i64 r.major)∧w'.cell? ⟨w.heap.size+1,3,none⟩=some (.int .i64 r.minor)∧w'.cell? ⟨w.heap.size+1,4,none⟩=some (.slice FA r.fields.length fc)∧w'.cell? ⟨w.heap.size+1,5,none⟩=some (.string r.body)∧w'.cell? ⟨w.heap.size+1,6,none⟩=some (.slice TA r.trailers.length tc)))∧
  ((w'.cell? ⟨w.heap.size+1+1,0,none⟩=some (.int .i64 0)∧w'.cell? ⟨w.heap.size+1+1,1,none⟩=some (.string ⟨#[]⟩)∧w'.cell? ⟨w.heap.size+1+1,2,none⟩=some (.slice none 0 0)∧w'.cell? ⟨w.heap.size+1+1,3,none⟩=some (.string ⟨#[]⟩))∧
  (w'.frozen? ⟨w.heap.size+1+1,0,none⟩=false∧w'.frozen? ⟨w.heap.size+1+1,1,none⟩=false∧w'.frozen? ⟨w.heap.size+1+1,2,none⟩=false∧w'.frozen? ⟨w.heap.size+1+1,3,none⟩=false)):=
 ⟨⟨⟨zlt hD h 0,zlt hD h 1,zlt hD h 2,zlt hD h 3,zlt hD h 4⟩,zhT hD h 0,zhT hD h 1,zhT hD h 2,zhT hD h 3,zhT hD h 4,zhT hD h 5,zhT hD h 6⟩,
  ⟨(zdh hD h 0).1,(zdh hD h 1).1,(zdh hD h 2).1,(zdh hD h 3).1⟩,(zdh hD h 0).2,(zdh hD h 1).2,(zdh hD h 2).2,(zdh hD h 3).2⟩
theorem zaY.nameL {m:zY} (h:zaY m):m.name.size≤maxLen:=by have:=h.name;unfold maxLen;omega
theorem zaY.valueL {m:zY} (h:zaY m):m.value.size≤maxLen:=by have:=h.value;unfold maxLen;omega
theorem zd0 {w w':World} {o:Obj} (h:Below (w.heap.size+1) (w.alloc o) w') {p:Addr} (hp:p.block<w.heap.size):w'.cell? p=w.cell? p∧w'.frozen? p=w.frozen? p:=
 ⟨(h.cell (by omega)).trans (World.cell?_alloc_lt _ _ _ hp),(h.frozen (by omega)).trans (by rw[World.frozen?_alloc_old];exact Nat.ne_of_lt hp)⟩
theorem zbH.len {N:Nat} {y:Rs} (h:zbH N y) (hN:N≤1099511627776):y.fields.length≤1099511627776:=Nat.le_trans h.many hN
set_option maxRecDepth 20000 in
set_option maxHeartbeats 2000000 in
theorem znV (D:Nat→Prop) (Pre:World→Prop) (n0 N:Nat) (T:Ans) (f:Value) (w:World) (m:zY) (r:Rq) (A:Option Addr) (c:Nat) (FA:Option Addr) (fc:Nat) (TA:Option Addr) (tc:Nat)
  (hE:Env D Pre w) (hP:Pre w) (hX:Nx D Pre n0 N w f T) (hN:N≤1099511627776) (hF:zQ D w FA (zj r.fields)) (hT:zQ D w TA (zj r.trailers)) (hm:zaY m) (hr:zcO r):
  Calls Tryz.prog 59 #[zL m A c,rqV r FA fc TA tc,f] w (zcB D n0 N (zjK r (fun y=>{y with fields:=zF y.fields m.name}) T) w):=by
 obtain ⟨g,lb,rfl,he,hc⟩:=hX;have hl:=hE.low;have b0:=zae w (zf m A c) (zu r FA fc TA tc);have hk0:zb D w (X3 w (zf m A c) (zu r FA fc TA tc)):=zb.of b0;have HC:=hid (hc (X3 w (zf m A c) (zu r FA fc TA tc)) r FA fc TA tc hk0 (hE.stays _ _ (zb.refl _ _) hP b0) (hF.below b0) (hT.below b0) hr);have HX:=hid (fun w' h=>zh (m:=m) (A:=A) (c:=c) (r:=r) (FA:=FA) (fc:=fc) (TA:=TA) (tc:=tc) (w':=w') hl h);have HK:=hid (fun (w':World) (h:zb D (X3 w (zf m A c) (zu r FA fc TA tc)) w')=>zbp h);have HL:=hid hl;have HB0:=hid b0;have HM:=hid hm;clear hc hl b0 hk0 hE hm hP hF hT;unfold zL rqV
 go_enter Tryz.func59,Tryz.ntmps59
 go_wp2_with fail
 refine HC.out.mono ?_;rintro e w2 ⟨y,A1,c1,rfl,hrow,hfit,hTT,hk⟩;have HRM:=hid (fun o=>zqO A1 c1 y.fields m.name (w2.alloc o) (hrow.row.alloc o) (Nat.le_trans (hfit.len hN) (by decide)) hfit.wide HM.out.nameL);obtain ⟨⟨⟨m0,m1,m2,m3,m4⟩,_⟩,⟨r0,r1,r2,r3⟩,f0,f1,f2,f3⟩:=HX.out w2 hk;have hz:=HK.out w2 hk;have hz2:w.heap.size+1+1<w2.heap.size:=by omega
 have hz0:w.heap.size<w2.heap.size:=by omega
 clear HC;unfold rsV;obtain ⟨ys,yr,yf,yb⟩:=y;dsimp only at *
 go_wp2_with fail
 refine (HRM.out _).mono ?_;rintro e w3 ⟨A2,c2,rfl,ho,hb⟩;have hb1:Below (w2.heap.size+1) (w2.alloc (.cells #[.int .i64 ys,.string yr,.slice A1 yf.length c1,.string yb] 29)) w3:=by simpa using hb
 have ho1:w3.ownsRow (w2.heap.size+1) 59 2 (.slice A2 (zF yf m.name).length c2) (zF yf m.name).length (zj (zF yf m.name)):=by simpa using ho
 obtain ⟨c0,g0⟩:=zH hb1 0;obtain ⟨c1',g1⟩:=zH hb1 1;obtain ⟨c2',g2⟩:=zH hb1 2;obtain ⟨c3,g3⟩:=zH hb1 3;have hz3:w2.heap.size<w3.heap.size:=zas hb1;obtain ⟨q0,p0⟩:=zd0 hb1 (p:=⟨w.heap.size+1+1,0,none⟩) hz2;obtain ⟨q1,p1⟩:=zd0 hb1 (p:=⟨w.heap.size+1+1,1,none⟩) hz2;obtain ⟨q2,p2⟩:=zd0 hb1 (p:=⟨w.heap.size+1+1,2,none⟩) hz2;obtain ⟨q3,p3⟩:=zd0 hb1 (p:=⟨w.heap.size+1+1,3,none⟩) hz2;rw[r0] at q0;rw[r1] at q1;rw[r2] at q2;rw[r3] at q3;rw[f0] at p0;rw[f1] at p1;rw[f2] at p2;rw[f3] at p3;have hz4:w.heap.size+1+1<w3.heap.size:=by omega
 have HKZ:=hid (show zb (Btw w (X3 w (zf m A c) (zu r FA fc TA tc))) w2 (w3.setCell ⟨w2.heap.size,2,none⟩ (.slice A2 (zF yf m.name).length c2)) from (zb.of (zw hb1)).setCell (Nat.le_refl _) _);have HOZ:=hid (zn (b':=(X3 w (zf m A c) (zu r FA fc TA tc)).heap.size) (ownsRow_setCell_below (a:=⟨w2.heap.size,2,none⟩) ho1 (by simp) (.slice A2 (zF yf m.name).length c2)) (by rw[zaA];omega));have HF:=hid (show zbH N ⟨ys,yr,zF yf m.name,yb⟩ from ⟨Nat.le_trans (List.length_filter_le _ _) hfit.many,zgA hfit.wide _⟩);have HTT:=hid hTT;have HK2:=hid hk;clear hb ho hb1 ho1 hrow hfit hTT hk HRM HX HK r0 r1 r2 r3 f0 f1 f2 f3 hz hz0 m0 m1 m2 m3 m4;generalize hrl:zF yf m.name=rl at *;have HRL:=hid hrl;clear hrl
 go_wp2
 exact bodyPost_ret (v:=rsV ⟨ys,yr,rl,yb⟩ A2 c2) (by simp[results,Tryz.results59,go_sem,rsV,q0,q1,q2,q3]) rfl
  (zdb HL.out HB0.out (Nat.le_succ_of_le (Nat.le_succ _)) (by rw[zaA];omega) HTT.out HK2.out HKZ.out HOZ.out (by rw[HRL.out]) HF.out _ _ _ _)
end Go.Proofs.YtbnafbdhomdcoaaGreatDoor
namespace Go.Proofs.YtbnafbdhomdcoaaGreatDoor.T5
open Go.RowKit Go.Shelf Go.Lib
theorem zuG {l:List ByteArray} (h:l≠[]):(Lib.join (l.map (·.data.toList)) [47]).length+1=zcX l+l.length:=by
 rw[←zf1,zfl h]
 rfl
theorem zrH {l:List ByteArray} (h:l≠[]):(⟨#[47]⟩:ByteArray)++⟨(Lib.join (l.map (·.data.toList)) [47]).toArray⟩=zi6 l:=by
 apply zV
 rw[zdK];unfold zi6;rw[if_neg h];show _=zbh l;rw[zfl h]
theorem zoy {w:World} {base c:Nat} {A:Option Addr} {l:List ByteArray} (h:w.ownsRow base 9 1 (.slice A l.length c) l.length (l.map .string)) (hne:l≠[]) (hl:(Lib.join (l.map (·.data.toList)) [47]).length≤140737488355328) (hn:l.length≤140737488355328):
  Calls Tryz.prog 141 #[.slice A l.length c,.string ⟨#[47]⟩] w fun e w'=>e= .returned (.string ⟨(Lib.join (l.map (·.data.toList)) [47]).toArray⟩)∧Below w.heap.size w w':=by
 have hpos:=List.length_pos_iff.2 hne;obtain ⟨x,hx⟩:=zD hpos;obtain ⟨b,off,rfl,hb,_⟩:=(zak h).str hx;have hcells:∀(j:Nat) x,l[j]?=some x→w.cell? ⟨b,off+j,none⟩=some (.string x):=fun j x hj=>by
  obtain ⟨b',off',he,_,hc⟩:=(zak h).str hj;injection he with he;injection he with h1 h2;subst h1 h2;exact hc
 exact Tryz.strings_Join b off c l ⟨#[47]⟩ w hcells hb hn (zdq h) hl
section
variable {P:Program} {w:World}
theorem zdL {ops:Array Oper} {o:Oper} {a:Act} {K:Act→World→Prop} {Q:Exit→Act→World→Prop} {E:Prop} (hgd:o.guard=none) (sl x:Operand) (t u:TypeId)
  (ho:o.op= .call {callee:=.builtin .append,args:=#[sl,x],argTypes:=#[t,u]})
  (base:Nat) (e:TypeId) (i:TypeInfo) (ht:P.underlying t=some (.slice e)) (hu:P.underlying u=some .string) (hi:P.info? e=some i) (hz:i.zero=some (.int .u8 0))
  (hsize:i.size=1) (hby:i.bytes=1)
  (v:Value) (n:Nat) (xs:List Value) (hs:a.eval sl=v) (hown:w.ownsRow base e 1 v n xs) (s:ByteArray) (hx:a.eval x= .string s)
  (h63:n+s.size≤maxLen) (hbytes:n+s.size≤140737488355328) (hbase:base≤w.heap.size)
  (h:∀v' w',w'.ownsRow base e 1 v' (n+s.size) (xs++strCells s)→w.grownBy w' v.ownBlock→K (a.put o.dst v') w'):
  if Region.wanted o (yielded ops a.tmps)=true then Oper.wp P o a w K Q else E:=by
 have hw:Region.wanted o (yielded ops a.tmps)=true:=by simp[Region.wanted,hgd]
 rw[if_pos hw];obtain ⟨v',w',hr,h2,h3,h4⟩:=run_append_own_string (P:=P) w base t u o.type e i ht hu hi hz hsize hby v n xs hown s h63 hbytes hbase;unfold Oper.wp execOp;simp only[ho,resolve,invoke,builtin,Sem.run_bind,Sem.run_pure,Result.andThen_ok,List.map_toArray,List.map_cons,List.map_nil,hs,hx,hr];exact h v' w' h2 h3
end
theorem zeT {w w2:World} {row:Option Nat} (hg:w.grownBy w2 row) (p:Addr) (hp:p.block<w.heap.size) (hne:some p.block≠row):w2.cell? p=w.cell? p:=World.cell?_of_block (hg.block p.block hp hne)
theorem zjF (s:ByteArray):Lib.strCells s=s.data.toList.map zat:=by simp[Lib.strCells,zat]
theorem zmQ {w:World} {b c:Nat} {v:Value} {l:List UInt8} (h:zZ w c v l) (hb:b≤c):zZ w b v l:=World.ownsRow.mono h hb
end Go.Proofs.YtbnafbdhomdcoaaGreatDoor.T5
namespace Go.Proofs.YtbnafbdhomdcoaaGreatDoor.T5
open Go.RowKit Go.Shelf Go.Lib
theorem ziy (s:ByteArray):isPathB s=(heads s 47&&decide (zz s=s.size)):=by unfold isPathB heads;rw[Bool.and_assoc]
set_option maxRecDepth 20000 in
theorem zka (s:ByteArray) (w:World) (hs:s.size≤1099511627776):
  Calls Tryz.prog 142 #[.string s] w fun e w'=>e= .returned (.bool (isPathB s))∧∃q:Nat,w'=w.drewN q:=by
 have HH:=hid (fun w=>zhW s 47 w);rw[show ((47:UInt8).toNat:Int)=47 from rfl] at HH;have HS:=hid (fun w=>zkq s w hs);rw[ziy]
 cases hh:heads s 47
 ·rw[hh] at HH
  rw[Bool.false_and];clear hh
  go_enter Tryz.func142,Tryz.ntmps142
  go_wp2_with fail
  refine (HH.out _).mono ?_;rintro e w1 ⟨rfl,rfl⟩
  go_wp2
  go_ret
  exact ⟨rfl,0,rfl⟩
 ·rw[hh] at HH
  rw[Bool.true_and];clear hh;generalize zz s=n at *
  by_cases hn:n=s.size
  ·have h1:((n:Int)==(s.size:Int))=true:=beq_iff_eq.2 (by omega)
   have h2:(n==s.size)=true:=beq_iff_eq.2 hn;rw[decide_eq_true hn];clear hn
   go_enter Tryz.func142,Tryz.ntmps142
   go_wp2_with fail
   refine (HH.out _).mono ?_;rintro e w1 ⟨rfl,rfl⟩
   go_wp2_with fail
   refine (HS.out _).mono ?_;rintro e w1 ⟨rfl,q,rfl⟩
   go_wp2
   go_ret
   exact ⟨rfl,q,rfl⟩
  ·have h1:((n:Int)==(s.size:Int))=false:=beq_eq_false_iff_ne.2 (by omega)
   have h2:(n==s.size)=false:=beq_eq_false_iff_ne.2 hn;rw[decide_eq_false hn];clear hn
   go_enter Tryz.func142,Tryz.ntmps142
   go_wp2_with fail
   refine (HH.out _).mono ?_;rintro e w1 ⟨rfl,rfl⟩
   go_wp2_with fail
   refine (HS.out _).mono ?_;rintro e w1 ⟨rfl,q,rfl⟩
   go_wp2
   go_ret
   exact ⟨rfl,q,rfl⟩
theorem zlU {s:ByteArray} (h:zz s<s.size):isPathB s=false:=by
 unfold isPathB;rw[decide_eq_false (show ¬zz s=s.size by omega)];simp
theorem zpv {s:ByteArray} (h:s.size=0):isPathB s=false:=by
 unfold isPathB;rw[decide_eq_false (show ¬0<s.size by omega)]
 rfl
theorem zp4 {s:ByteArray} (h:¬bt s 0=47):isPathB s=false:=by
 unfold isPathB;rw[decide_eq_false h];simp
theorem zvR (s:ByteArray):zz s≤s.size:=Nat.le_trans (zkr s).2.1 (zfx s 63)
theorem zrJ {s:ByteArray} (h0:0<s.size) (h1:bt s 0=47) (h2:¬zz s<s.size):isPathB s=true:=by
 have:=zvR s;unfold isPathB;rw[decide_eq_true h0,decide_eq_true h1,decide_eq_true (show zz s=s.size by omega)]
 rfl
set_option maxRecDepth 20000 in
theorem znS (s:ByteArray) (w:World) (hs:s.size≤1099511627776):
  Calls Tryz.prog 122 #[.string s] w fun e w'=>e= .returned (.bool (isPathB s))∧w=w':=by
 have HQ:=hid (fun w=>zl6 s w hs);unfold zdZ at HQ
 by_cases h0:s.size=0
 ·have he:s.toList.isEmpty=true:=by rw[zo];exact decide_eq_true h0
  rw[zpv h0];clear h0;generalize zfO zbt s 53=r at *
  go_enter Tryz.func122,Tryz.ntmps122
  go_wp2_with fail
  refine (HQ.out _).mono ?_;rintro e w1 ⟨rfl,rfl⟩
  go_wp2
  go_ret
  exact ⟨rfl,rfl⟩
 ·have he:s.toList.isEmpty=false:=by rw[zo];exact decide_eq_false h0
  have hlt:0<s.size:=by omega
  have hb:=@zE s 0 hlt
  by_cases h47:bt s 0=47
  ·have hh:(bt s 0==47)=true:=by rw[h47];rfl
   by_cases hp:zz s<s.size
   ·have hne:=zgH s (zz s) 53 (.inl rfl)
    rw[zln hp] at HQ;rw[show zbi zbt s 0=zz s from rfl] at HQ;rw[zlU hp];dsimp only at HQ;have hne2:(zbk s (zz s) 53==0)=false:=by simpa using hne
    clear hne hp h47 h0;generalize zbk s (zz s) 53=er at *;generalize zz s=n at *
    go_enter Tryz.func122,Tryz.ntmps122
    go_wp2_with fail
    refine (HQ.out _).mono ?_;rintro e w1 ⟨rfl,rfl⟩
    go_wp2
    go_ret
    exact ⟨rfl,rfl⟩
   ·rw[zmX hp] at HQ
    rw[zrJ hlt h47 hp];dsimp only at HQ;clear hp h47 h0
    go_enter Tryz.func122,Tryz.ntmps122
    go_wp2_with fail
    refine (HQ.out _).mono ?_;rintro e w1 ⟨rfl,rfl⟩
    go_wp2
    go_ret
    exact ⟨rfl,rfl⟩
  ·have hh:(bt s 0==47)=false:=by simpa using h47
   rw[zp4 h47];clear h47 h0;generalize zfO zbt s 53=r at *
   go_enter Tryz.func122,Tryz.ntmps122
   go_wp2_with fail
   refine (HQ.out _).mono ?_;rintro e w1 ⟨rfl,rfl⟩
   go_wp2
   go_ret
   exact ⟨rfl,rfl⟩
set_option maxRecDepth 20000 in
theorem zk3 (s:ByteArray) (w:World) (hh:heads s 47=true) (hs:s.size≤4194304):
  Calls Tryz.prog 153 #[.string s,.string ⟨#[47]⟩] w fun e w'=>e= .returned (.tuple #[.string (zad s),.bool true])∧w=w':=by
 have HP:Calls Tryz.prog 196 #[.string s,.string ⟨#[47]⟩] w fun e w'=>e= .returned (.bool true)∧w=w':=
  (Tryz.stringslite_HasPrefix s ⟨#[47]⟩ w).mono fun _ _ ⟨he,hw⟩=>⟨by rw[he];have:=zhF s 47;rw[show ((47:UInt8).toNat:Int)=47 from rfl,hh] at this;exact zd this,hw.symm⟩
 have HP:=hid HP;have h1:1≤s.size:=by
  unfold heads at hh;simp at hh
  omega
 unfold zad;clear hh
 go_enter Tryz.func153,Tryz.ntmps153
 go_wp2_with fail
 refine HP.out.mono ?_;rintro e w1 ⟨rfl,rfl⟩
 go_wp2
 go_ret2
 exact ⟨rfl,rfl⟩
set_option maxRecDepth 20000 in
theorem zlT (s:ByteArray) (w:World) (hh:heads s 47=true) (hs:s.size≤4194304):
  Calls Tryz.prog 100 #[.string s,.string ⟨#[47]⟩] w fun e w'=>e= .returned (.tuple #[.string (zad s),.bool true])∧w=w':=by
 have HP:=hid (zk3 s w hh hs);clear hh;generalize zad s=t at *
 go_enter Tryz.func100,Tryz.ntmps100
 go_wp2_with fail
 refine HP.out.mono ?_;rintro e w1 ⟨rfl,rfl⟩
 go_wp2
 go_ret2
 exact ⟨rfl,rfl⟩
end Go.Proofs.YtbnafbdhomdcoaaGreatDoor.T5
namespace Go.Proofs.YtbnafbdhomdcoaaGreatDoor.T5
open Go.RowKit Go.Shelf Go.Lib
attribute [local go_sem] Oper.semAt_some
abbrev Seg:={x:ByteArray // x.size≤4194304}
def zec (l:List Seg):List ByteArray:=l.map (·.1)
theorem zhf (l:List Seg) (x:Seg):zec (l++[x])=zec l++[x.1]:=by simp[zec]
theorem zjp (l:List Seg):(zec l).length=l.length:=by simp[zec]
def zp7:Value→Nat
 | .bool true=>1
 |_=>0
def zpD:Value→Nat
 | .string t=>t.size
 |_=>0
def zxm (segs:List ByteArray) (J:List Seg→World→Prop) (v m:Value) (wr:World):Prop:=
 ∃(pre:List Seg) (t:ByteArray) (b:Bool),v= .string t∧m= .bool b∧(if b=true then zec pre++zG t 47=segs else zec pre=segs)∧J pre wr∧Glob wr∧t.size≤4194304
theorem zgJ {w w':World} (hb:Below w.heap.size w w'):w.grownBy w' none:=⟨hb.os,hb.tape,hb.output,hb.size,fun k hk _=>hb.block k hk⟩
set_option maxRecDepth 100000 in
set_option maxHeartbeats 4000000 in
theorem ztQ (n:Nat) (hn:1≤n) (l Bn n₀:Nat) (s:ByteArray) (hh:heads s 47=true) (hs:s.size≤4194304) (hn₀:3≤n₀) (J Jx:List Seg→World→Prop)
  (hY:∀pre x W,J pre W→pre.length<(zG (zad s) 47).length→YieldAt Fence.wide (n - 1) Tryz.prog l #[.string x.1] W fun e W'=>
   (e= .returned (.bool true)∧J (pre++[x]) W'∧Below n₀ W W')∨(e= .returned (.bool false)∧Jx (pre++[x]) W'))
  (W:World) (hJ:AbidesFrom W.heap.size J) (hg:Glob W) (hBn:W.cell? ⟨Bn,0,none⟩=some (.string s)) (h0:J [] W):
  CallsIn Fence.wide n Tryz.prog 191 #[.func (.yield l) #[] #[],.pointer (some ⟨Bn,0,none⟩)] W fun e W'=>(∃v,e= .returned v)∧
   ((∃ys,zec ys=zG (zad s) 47∧J ys W')∨(∃pre,True∧Jx pre W')):=by
 have HC:=hid (zlT s W hh hs);have hz:(zad s).size≤4194304:=by unfold zad;rw[ByteArray.size_extract];omega
 obtain ⟨segs,hsegs⟩:∃segs,zG (zad s) 47=segs:=⟨_,rfl⟩;rw[hsegs] at hY ⊢;have HSG:=hid hsegs;clear hsegs hh;generalize zad s=t0 at *;refine callsIn_of_wp Tryz.func191 rfl trivial ?_ rfl;simp only[Tryz.ntmps191,List.size_toArray,List.length_cons,List.length_nil,Nat.reduceAdd,Nat.reduceSub,Array.replicate_succ,Array.replicate_zero,List.push_toArray,List.append_toArray,List.nil_append,List.cons_append]
 gi_wp2_with fail
 refine ⟨trivial,(callsIn_wide.2 HC.out).mono ?_⟩;rintro e w1 ⟨rfl,rfl⟩
 gi_wp2
 gi_loopw [3,4] (fun v m wr=>zxm segs J v m wr) (fun v m _=>zpD v+zp7 m)
 case atStart=>exact ⟨[],t0,true,rfl,rfl,HSG.out,h0,hg,hz⟩
 case round=>
  obtain ⟨pre,t,b,rfl,rfl,hseg,hJr,hgr,htz⟩:=hrel
  cases b
  ·have HE:=hid (show zec pre=segs from hseg)
   clear hseg
   gi_wp2
   go_end0
   exact ⟨⟨_,rfl⟩,.inl ⟨pre,HE.out,hJr⟩⟩
  ·have HE:=hid (show zec pre++zG t 47=segs from hseg)
   clear hseg;have hlt:pre.length<segs.length:=by
    have h1:=congrArg List.length HE.out;have h2:=List.length_pos_iff.2 (ziM t 47);rw[List.length_append,zjp] at h1
    omega
   have HK:=hid (zjY t 47 wr htz hgr);rw[show ((47:UInt8).toNat:Int)=47 from rfl] at HK;unfold zfn at HK;have hJd:∀q,J pre (wr.drewN q):=fun q=>hJ pre wr _ none hJr (zgJ (ze (Below.refl _ _) q)) (fun r e=>by cases e)
   have HJD:=hid hJd;clear hJd
   rcases zaC t 47 with ⟨hp,_⟩|⟨k,hp,hk,_⟩
   ·rw[zco hp] at HK
    dsimp only at HK;have HS:=hid (show zec (pre++[⟨t,htz⟩])=segs by rw[zhf,←HE.out,zdC hp]);clear hp
    gi_wp2_with fail
    refine ⟨trivial,(callsIn_wide.2 HK.out).mono ?_⟩;rintro e w1 ⟨rfl,q,rfl⟩;obtain ⟨fn,tmps,assign,body,hy,hR⟩:=hY pre ⟨t,htz⟩ _ (HJD.out q) hlt;dsimp only at hy
    gi_wp2
    refine hR.mono ?_;rintro e W3 (⟨rfl,hJ3,hk3⟩|⟨rfl,hJx3⟩)
    ·have hg3:=(hgr.drewN q).below hk3 hn₀
     gi_wp2
     go_roundw
     case rel=>exact ⟨_,_,false,rfl,rfl,HS.out,hJ3,hg3,by decide⟩
     case measure=>
      have h00:(⟨#[]⟩:ByteArray).size=0:=rfl;simp[zpD,zp7]
      omega
    ·gi_wp2
     refine bodyPost_ret (results_none rfl _ _ _) rfl ?_;exact ⟨⟨_,rfl⟩,.inr ⟨_,trivial,hJx3⟩⟩
   ·rw[zcY hk hp] at HK
    dsimp only at HK;have hz1:=zk t (a:=0) (b:=k) (by omega) (by omega);have hz2:=zk t (a:=k+1) (b:=t.size) (by omega) (Nat.le_refl _);have hx:(t.extract 0 k).size≤4194304:=by omega
    have hx2:(t.extract (k+1) t.size).size≤4194304:=by omega
    have hx3:(t.extract (k+1) t.size).size<t.size:=by omega
    have HS:=hid (show zec (pre++[⟨t.extract 0 k,hx⟩])++zG (t.extract (k+1) t.size) 47=segs by rw[zhf,←HE.out,zeQ hk hp,List.append_assoc];rfl);clear hp hz1 hz2;generalize t.extract 0 k=a at *;generalize t.extract (k+1) t.size=r at *
    gi_wp2_with fail
    refine ⟨trivial,(callsIn_wide.2 HK.out).mono ?_⟩;rintro e w1 ⟨rfl,q,rfl⟩;obtain ⟨fn,tmps,assign,body,hy,hR⟩:=hY pre ⟨a,hx⟩ _ (HJD.out q) hlt;dsimp only at hy
    gi_wp2
    refine hR.mono ?_;rintro e W3 (⟨rfl,hJ3,hk3⟩|⟨rfl,hJx3⟩)
    ·have hg3:=(hgr.drewN q).below hk3 hn₀
     gi_wp2
     go_roundw
     case rel=>exact ⟨_,_,true,rfl,rfl,HS.out,hJ3,hg3,hx2⟩
     case measure=>simp[zpD,zp7];omega
    ·gi_wp2
     refine bodyPost_ret (results_none rfl _ _ _) rfl ?_;exact ⟨⟨_,rfl⟩,.inr ⟨_,trivial,hJx3⟩⟩
theorem zqn (n:Nat) (hn:1≤n) (Bn n₀:Nat) (s:ByteArray) (hh:heads s 47=true) (hs:s.size≤4194304) (w:World) (hg:Glob w) (hB:Bn<w.heap.size) (hn₁:3≤n₀)
  (hc:w.cell? ⟨Bn,0,none⟩=some (.string s)):
  SeqStopsK Fence.wide n Tryz.prog 191 #[.pointer (some ⟨Bn,0,none⟩)] (fun x:Seg=>#[Value.string x.1]) (Below n₀) (fun ys=>zec ys=zG (zad s) 47) (fun _=>True) (zG (zad s) 47).length w:=fun l J Jx W hW hJ _ hY h0=>
 ztQ n hn l Bn n₀ s hh hs hn₁ J Jx hY W hJ (hg.beyond hW) ((hW.cell (p:=⟨Bn,0,none⟩) hB).trans hc) h0
theorem zt4 (s:ByteArray) (w:World):
  Calls Tryz.prog 148 #[.string s] w fun e w'=>e= .returned (.func (.func 191) #[] #[.pointer (some ⟨w.heap.size,0,none⟩)])∧w'=w.alloc (.cells #[.string s] 9):=by
 have hmf:∀(fn:Fn) (first cap:Array Value) (w:World),(Instr.makeFunc fn first cap).run Tryz.prog w= .ok (.func fn first cap) w:=fun _ _ _ _=>rfl
 go_enter Tryz.func148,Tryz.ntmps148
 go_wp2
 go_ret
 exact ⟨rfl,rfl⟩
end Go.Proofs.YtbnafbdhomdcoaaGreatDoor.T5
namespace Go.Proofs.YtbnafbdhomdcoaaGreatDoor.T5
open Go.RowKit Go.Shelf Go.Lib
attribute [local go_sem] Oper.semAt_some
end Go.Proofs.YtbnafbdhomdcoaaGreatDoor.T5
namespace Go.Proofs.YtbnafbdhomdcoaaGreatDoor.T5
open Go.RowKit Go.Shelf Go.Lib
attribute [local go_sem] Oper.semAt_some
theorem normR_no {s:ByteArray} (h:isPathB s=false):normR s=(⟨#[]⟩,53):=by unfold normR;rw[if_neg (by rw[h];simp)]
theorem zmP {s:ByteArray} (h:isPathB s=true):normR s=(zi6 (zcS (zG (zad (zaF s)) 47)),0):=by unfold normR;rw[if_pos h]
theorem path_heads {s:ByteArray} (h:isPathB s=true):heads s 47=true:=by
 rw[ziy] at h;simp at h;exact h.1
theorem zjC {s:ByteArray} (h:heads s 47=true):heads (zaF s) 47=true:=by
 unfold heads at h;simp only[Bool.and_eq_true,decide_eq_true_eq] at h;obtain ⟨h0,h1⟩:=h;have ht:tri s 0=false:=by
  cases e:tri s 0
  ·rfl
  ·have:=(zbB.1 e).2
   omega
 have e1:=zpX (acc:=[]) h0 ht;rw[ziq s s.size 1 _ (by omega)] at e1;have hd:(zaF s).data.toList=zf6 s 0::plF s 1 []:=e1;unfold heads;have hz:0<(zaF s).size:=by rw[←size_eq,hd];simp
 have hb:bt (zaF s) 0=47:=by
  unfold bt;rw[hd];exact h1
 rw[decide_eq_true hz,decide_eq_true hb]
 rfl
theorem zo5 (y:ByteArray):(y.toList==[46])=decide (y=zoW):=by rw[←zaj];rw[show zoW.toList=[46] by decide +kernel]
theorem zmA (y:ByteArray):(y.toList==[46,46])=decide (y=zmm):=by rw[←zaj];rw[show zmm.toList=[46,46] by decide +kernel]
theorem zt2 {β:Type} (B:Nat) (t:TypeId) (f:β→Value):Own (fun s W=>Boxed W B t (f s)):=fun s A W row hs hg hr=>hs.kept hg (fun e'=>by
 obtain ⟨o,ho,hc⟩:=hr B e'.symm;rw[show A.heap[B]?=_ from hs] at ho
 cases ho
 cases hc)
def normVal (s:ByteArray):Value:=.tuple #[.string (normR s).1,.int .i64 (normR s).2]
set_option maxRecDepth 100000 in
set_option maxHeartbeats 4000000 in
theorem zr5 (s:ByteArray) (w:World) (hs:s.size≤4194304) (hp:isPathB s=false):
  Calls Tryz.prog 97 #[.string s] w fun e w'=>e= .returned (normVal s)∧Below w.heap.size w w':=by
 have HP:=hid (fun w=>zka s w (by omega));unfold normVal;rw[normR_no hp];rw[hp] at HP;clear hp
 go_enter Tryz.func97,Tryz.ntmps97
 go_wp2_with fail
 refine (HP.out _).mono ?_;rintro e w1 ⟨rfl,q,rfl⟩
 go_wp2
 go_ret2
 exact ⟨rfl,ze (Below.refl _ _) q⟩
set_option maxRecDepth 100000 in
set_option maxHeartbeats 8000000 in
theorem zqM (s:ByteArray) (w:World) (hs:s.size≤4194304) (hg:Glob w) (hp:isPathB s=true):
  Calls Tryz.prog 97 #[.string s] w fun e w'=>e= .returned (normVal s)∧Below w.heap.size w w':=by
 obtain ⟨i0,hi0,hz0,hz1,hz2⟩:=info_parts zcx;have HP:=hid (fun w=>zka s w (by omega));have HH:=hid (zjC (path_heads hp));have hps:=zju s;unfold normVal;rw[zmP hp];rw[hp] at HP;clear hp;have HPL:=hid (show zaF s=⟨(plF s 0 []).toArray⟩ from rfl);refine (callsIn_wide (n:=8)).1 ?_;refine callsIn_of_wp_marks Tryz.func97 rfl trivial ?_ rfl;simp only[Tryz.ntmps97,List.size_toArray,List.length_cons,List.length_nil,Nat.reduceAdd,Nat.reduceSub,Array.replicate_succ,Array.replicate_zero,List.push_toArray,List.append_toArray,List.nil_append,List.cons_append]
 gi_wp2_with fail
 refine ⟨trivial,(callsIn_wide.2 (HP.out _)).mono ?_⟩;rintro e w1 ⟨rfl,q,rfl⟩
 gi_wp2_with fail
 gi_loopw [5] (fun v wr=>∃(k:Nat) (acc:List UInt8),k≤s.size∧v= .int .i64 k∧acc.length≤k∧plF s k acc=plF s 0 []∧Lib.IsBuilderF 145 5 w.heap.size w.heap.size (Lib.byteCells acc) wr∧Below w.heap.size w wr∧w.heap.size<wr.heap.size) (fun v _=>s.size - (RowKit.intOf v).toNat)
 case atStart=>exact ⟨0,[],by omega,rfl,by simp,rfl,Lib.IsBuilderF.of (Lib.fresh_isBuilder 145 5 (w.drewN q)),(ze (Below.refl _ w) q).alloc (Nat.le_refl _) _,by simp⟩
 case round=>
  obtain ⟨k,acc,hk,rfl,hal,hpl,hI,hbw,hsz⟩:=hrel;have HL:=hid hpl;have HI:=hid hI;clear hpl hI
  by_cases hlt:k<s.size
  ·have hb:=@zE s k hlt
   have HT:=hid (zku s k wr (by omega) hk)
   cases ht:tri s k
   ·have HS:=hid ((zpX (acc:=acc) hlt ht).symm.trans HL.out)
    gi_wp2_with fail
    refine ⟨trivial,(callsIn_wide.2 HT.out).mono ?_⟩;rintro e w1 ⟨v,rfl,_,q2,rfl⟩;rw[ht];clear ht
    gi_wp2_with fail
    have hI1:=zdk HI.out (ze (Below.refl _ _) q2);refine ⟨trivial,(callsIn_wide.2 (zcd w.heap.size w.heap.size _ _ _ hI1 (by rw[Lib.byteCells_length];omega) (by have:=hbw.size;exact this))).mono ?_⟩;rintro e w2 ⟨rfl,h2,b2,_⟩;have hI2:Lib.IsBuilderF 145 5 w.heap.size w.heap.size (Lib.byteCells (acc++[zf6 s k])) w2:=.inr (by
     rw[Lib.byteCells_append];exact h2)
    have hbw2:Below w.heap.size w w2:=(ze hbw q2).trans b2;have hsz2:w.heap.size<w2.heap.size:=Nat.lt_of_lt_of_le hsz b2.size;have HI2:=hid hI2;clear h2 hI1 hI2
    gi_wp2
    go_roundw
    case rel=>exact ⟨k+1,acc++[zf6 s k],by omega,by go_num,by rw[List.length_append];exact Nat.add_le_add hal (Nat.le_refl 1),HS.out,HI2.out,hbw2,hsz2⟩
    case measure=>simp[RowKit.intOf];omega
   ·have HS:=hid ((zrx (acc:=acc) ht).symm.trans HL.out)
    have h3:=(zbB.1 ht).1;have hone:=zsZ (zdm s k).toNat;have HC:=hid (fun w=>zmk (zdm s k).toNat w (by omega) (by have:=(zdm s k).toNat_lt;omega));have HTT:=hid ht;have HV:=hid (zrf ht);clear ht
    cases hu:zdc ((zdm s k).toNat:Int)
    ·have HB:=hid (show zgy (zdm s k)=pct (zdm s k) by unfold zgy;rw[if_neg (by rw[hu];simp)])
     have HPC:=hid (fun w=>zoQ (zdm s k) w);rw[hu] at hone;clear hu
     gi_wp2_with fail
     refine ⟨trivial,(callsIn_wide.2 HT.out).mono ?_⟩;rintro e w1 ⟨v,rfl,hv,q2,rfl⟩;have hv:=hv HTT.out;rw[←HV.out] at hv;rw[HTT.out,hv];clear hv
     gi_wp2_with fail
     refine ⟨trivial,(callsIn_wide.2 (HC.out _)).mono ?_⟩;rintro e w1 ⟨rfl,rfl⟩
     gi_wp2_with fail
     refine ⟨trivial,(callsIn_wide.2 (HPC.out _)).mono ?_⟩;rintro e w1 ⟨rfl,q3,rfl⟩
     gi_wp2_with fail
     have hI1:=zdk HI.out (ze (Below.refl _ wr) (q2+q3));refine ⟨trivial,(callsIn_wide.2 (zlQ w.heap.size w.heap.size _ _ _ hI1 (by rw[Lib.byteCells_length,←size_eq];have:(pct (zdm s k)).length=3:=rfl;simp only;omega) (by have:=hbw.size;exact this))).mono ?_⟩;rintro e w2 ⟨rfl,h2,b2,_⟩;have hI2:Lib.IsBuilderF 145 5 w.heap.size w.heap.size (Lib.byteCells (acc++zgy (zdm s k))) w2:=.inr (by
      rw[HB.out,Lib.byteCells_append];exact h2)
     have hbw2:Below w.heap.size w w2:=(ze hbw (q2+q3)).trans b2;have hsz2:w.heap.size<w2.heap.size:=Nat.lt_of_lt_of_le hsz b2.size;have hel:=(zim (zdm s k)).2;have HI2:=hid hI2;clear h2 hI1 hI2
     gi_wp2
     go_roundw
     case rel=>exact ⟨k+3,acc++zgy (zdm s k),by omega,by go_num,by rw[List.length_append];omega,HS.out,HI2.out,hbw2,hsz2⟩
     case measure=>simp[RowKit.intOf];omega
    ·have HB:=hid (show zgy (zdm s k)=[zdm s k] by unfold zgy;rw[if_pos hu])
     rw[hu] at hone;clear hu
     gi_wp2_with fail
     refine ⟨trivial,(callsIn_wide.2 HT.out).mono ?_⟩;rintro e w1 ⟨v,rfl,hv,q2,rfl⟩;have hv:=hv HTT.out;rw[←HV.out] at hv;rw[HTT.out,hv];clear hv
     gi_wp2_with fail
     refine ⟨trivial,(callsIn_wide.2 (HC.out _)).mono ?_⟩;rintro e w1 ⟨rfl,rfl⟩
     gi_wp2_with fail
     have hI1:=zdk HI.out (ze (Below.refl _ wr) q2);refine ⟨trivial,(callsIn_wide.2 (zcd w.heap.size w.heap.size _ _ _ hI1 (by rw[Lib.byteCells_length];omega) (by have:=hbw.size;exact this))).mono ?_⟩;rintro e w2 ⟨rfl,h2,b2,_⟩;have hI2:Lib.IsBuilderF 145 5 w.heap.size w.heap.size (Lib.byteCells (acc++zgy (zdm s k))) w2:=.inr (by
      rw[HB.out,Lib.byteCells_append];exact h2)
     have hbw2:Below w.heap.size w w2:=(ze hbw q2).trans b2;have hsz2:w.heap.size<w2.heap.size:=Nat.lt_of_lt_of_le hsz b2.size;have hel:=(zim (zdm s k)).2;have HI2:=hid hI2;clear h2 hI1 hI2
     gi_wp2
     go_roundw
     case rel=>exact ⟨k+3,acc++zgy (zdm s k),by omega,by go_num,by rw[List.length_append];omega,HS.out,HI2.out,hbw2,hsz2⟩
     case measure=>simp[RowKit.intOf];omega
  ·obtain rfl:k=s.size:=by omega
   have HE:=hid ((zfb (s:=s) (acc:=acc) (Nat.le_refl _)).symm.trans HL.out)
   gi_wp2_with fail
   have b0:Below wr.heap.size wr ((wr.alloc (.cells #[.slice none 0 0] 22)).alloc (.cells #[.bool false] 4)):=((Below.refl _ wr).alloc (Nat.le_refl _) _).alloc (by simp) _;have hI0:=zdk HI.out b0;refine ⟨trivial,(callsIn_wide.2 (Tryz.Builder_String_any_k w.heap.size w.heap.size _ _ hI0 (by simp;omega))).mono ?_⟩;rintro e W1 ⟨rfl,_,b1,ko1⟩;have bO:=Boxed.new wr 22 (.slice none 0 0);have bD:=Boxed.new (wr.alloc (.cells #[.slice none 0 0] 22)) 4 (.bool false);rw[World.size_alloc] at bD;have bK1:Boxed W1 wr.heap.size 22 (.slice none 0 0):=ko1 _ _ (bO.alloc _) (by simp;omega) (fun c fz e=>by injection e with _ e _;exact absurd e (by decide));have bD1:Boxed W1 (wr.heap.size+1) 4 (.bool false):=ko1 _ _ bD (by simp;omega) (fun c fz e=>by injection e with _ e _;exact absurd e (by decide));rw[show (⟨acc.toArray⟩:ByteArray)=zaF s by rw[HPL.out,HE.out]];have hB1:Below w.heap.size w W1:=(hbw.trans (b0.mono hbw.size)).trans b1;have hsz1:wr.heap.size+1<W1.heap.size:=bD1.lt;clear bO bD b0 b1 ko1 hI0 HI HL HE HPL hal hbw;clear hk hlt;have hpt:(zaF s).size≤4194304:=by omega
   clear hps;generalize hgt:zaF s=t at *;have HGT:=hid hgt;clear hgt
   gi_wp2_with fail
   refine ⟨trivial,(callsIn_wide.2 (zt4 t _)).mono ?_⟩;rintro e w2 ⟨rfl,rfl⟩
   gi_wp2_with fail
   have bN:=Boxed.new W1 9 (.string t);have hB2:Below w.heap.size w (W1.alloc (.cells #[.string t] 9)):=hB1.alloc hB1.size _;refine wpIn_rangeFunc_ownG rfl (by omega) (gf:=191) (lb:=#[.pointer (some ⟨W1.heap.size,0,none⟩)]) rfl trivial (enters_of Tryz.func191 (by kernel_rfl) rfl)
    (zqn (8 - 1) (by omega) W1.heap.size w.heap.size t HH.out hpt _ (hg.beyond hB2) (by simp) hg.size bN.cell) belowK_t (belowK_b (by simp;omega)) (Below.refl _ _) (fun _=>rfl)
    (fun pre W=>((∃v,Boxed W wr.heap.size 22 v∧W.ownsRow w.heap.size 9 1 v (zaz [] (zec pre)).length ((zaz [] (zec pre)).map Value.string)∧True)∧Boxed W (wr.heap.size+1) 4 (.bool (zcG false (zec pre))))∧Below w.heap.size w W)
    (fun _ _ _=>False)
    (OwnFrom.and (OwnFrom.and (Own.from (holdsRow_own w.heap.size wr.heap.size 22 9 1 (fun pre=>(zaz [] (zec pre)).length) (fun pre=>(zaz [] (zec pre)).map Value.string) (fun _ _=>True)) _) (Own.from (zt2 (wr.heap.size+1) 4 (fun pre=>.bool (zcG false (zec pre)))) _)) (ownFrom_below (Nat.le_refl _) (by simp;omega)))
    (fun _ _ _ _ _ hs _ _=>hs)
    ⟨⟨⟨_,bK1.alloc _,World.ownsRow_nil _ _ _ _,trivial⟩,bD1.alloc _⟩,hB2⟩
    (fun x=>{tmps:=#[.string s,undef,.string ⟨#[]⟩,.int .i64 0,.pointer (some ⟨w.heap.size,0,none⟩),.int .i64 s.size,u6,u7,.pointer (some ⟨wr.heap.size,0,none⟩),.pointer (some ⟨wr.heap.size+1,0,none⟩),.string x.1,.string s,.bool true,.bool false,.int .i64 s.size,.string s,.int .i64 s.size,.bool false,u18,u19,u20,u21,u22,u23,u24,u25,u26,u27,u28,u29,u30,u31,u32,u33,u34,u35,u36,u37,u38,u39,u40,u41,u42,u43,.string t,.func (.func 191) #[] #[.pointer (some ⟨W1.heap.size,0,none⟩)],.string x.1,undef,undef,undef,undef,undef,undef,undef,undef,undef,undef,undef,undef,undef,undef,undef,undef,undef,undef,undef,undef,undef,undef,undef,undef,undef,undef,undef,undef,undef,undef,undef,undef,undef],defers:=[]}) ?assign ?body ?done ?stop
   case assign=>
    intro l x W K hK
    gi_wp2
    exact hK
   case body=>
    rintro l pre ⟨y,hy⟩ W ⟨⟨⟨v,hv,hrow,_⟩,hd⟩,hB⟩ hlt;dsimp only;have hkl:(zaz [] (zec pre)).length≤4194304:=by
     have h1:=(zeZ (zec pre) []).2;have h2:=zdv (zad t) 47;have h3:(zad t).size≤t.size:=by unfold zad;rw[ByteArray.size_extract];omega
     rw[zjp] at h1;simp only[List.length_nil] at h1
     omega
    have HS:=hid (show zaz [] (zec (pre++[⟨y,hy⟩]))=zbm (zaz [] (zec pre)) y by rw[zhf,zgc]);have HD:=hid (show zcG false (zec (pre++[⟨y,hy⟩]))=zcN y by rw[zhf,zft]);generalize zaz [] (zec pre)=kl at *;generalize zcG false (zec pre)=ld at *;have hcd:=hd.cell;have hfd:=hd.frozen;have t1:=zo5 y;have t2:=zmA y;have hKB:w.heap.size≤wr.heap.size:=by omega
    by_cases hy2:y=zmm
    ·have hy1:¬y=zoW:=by rw[hy2];decide
     rw[decide_eq_false hy1] at t1;rw[decide_eq_true hy2] at t2;have HD2:=hid (show zcN y=true by unfold zcN;rw[decide_eq_true hy2];simp);have HS2:=hid (show zbm kl y=kl.dropLast by unfold zbm;rw[if_pos hy2]);clear hy1 hy2;have hd2:=hd.set (.bool true);have hv2:=hv.kept (grownBy_setCell' W (wr.heap.size+1) (.bool true)) (by simp);have hrow2:=hrow.kept (grownBy_setCell' W (wr.heap.size+1) (.bool true)) (.inr (hd.not_row (by decide) hrow).symm);have hB3:=hB.setCell (p:=⟨wr.heap.size+1,0,none⟩) (show w.heap.size≤wr.heap.size+1 by omega) (.bool true);have hcv:=hv2.cell;have hfv:=hv2.frozen
     rcases List.eq_nil_or_concat kl with hk0|⟨kl',z,hk0⟩
     ·subst hk0
      obtain ⟨A,c,rfl⟩:=zC hrow;clear hd hv hrow
      gi_wp2
      exact ⟨(KeepsOthers.setCell _ _ _).from _,(Below.refl w.heap.size W).setCell (p:=⟨wr.heap.size+1,0,none⟩) (show w.heap.size≤wr.heap.size+1 by omega) _,⟨⟨_,hv2,by rw[HS.out,HS2.out];exact hrow2,trivial⟩,by rw[HD.out,HD2.out];exact hd2⟩,hB3⟩
     ·rw[List.concat_eq_append] at hk0
      subst hk0;have hle:(kl'++[z]).length=kl'.length+1:=by simp
      rw[hle] at hrow hrow2 hkl;rw[List.map_append] at hrow2;have HS3:=hid (show (kl'++[z]).dropLast=kl' by simp);obtain ⟨g,cap,rfl⟩:=ownsRow_succ hrow;have hcap:=zdq hrow;have hp:=ownsRow_pop (by rw[List.length_map,Nat.mul_one]) hrow2;have hv3:=hv2.set (.slice (some ⟨g,0,none⟩) kl'.length cap);have hd3:=hd2.kept (grownBy_setCell' (W.setCell ⟨wr.heap.size+1,0,none⟩ (.bool true)) wr.heap.size (.slice (some ⟨g,0,none⟩) kl'.length cap)) (by simp);have hrow3:=hp.kept (grownBy_setCell' (W.setCell ⟨wr.heap.size+1,0,none⟩ (.bool true)) wr.heap.size (.slice (some ⟨g,0,none⟩) kl'.length cap)) (.inr (hv2.not_row (by decide) hp).symm);have hB4:=hB3.setCell (p:=⟨wr.heap.size,0,none⟩) hKB (.slice (some ⟨g,0,none⟩) kl'.length cap);clear hd hv hrow hrow2 hle hp
      gi_wp2
      exact ⟨((KeepsOthers.setCell _ _ _).trans (KeepsOthers.setCell _ _ _)).from _,((Below.refl w.heap.size W).setCell (p:=⟨wr.heap.size+1,0,none⟩) (show w.heap.size≤wr.heap.size+1 by omega) _).setCell (p:=⟨wr.heap.size,0,none⟩) hKB _,⟨⟨_,hv3,by rw[HS.out,HS2.out,HS3.out];exact hrow3,trivial⟩,by rw[HD.out,HD2.out];exact hd3⟩,hB4⟩
    ·rw[decide_eq_false hy2] at t2
     by_cases hy1:y=zoW
     ·rw[decide_eq_true hy1] at t1
      have HD2:=hid (show zcN y=true by unfold zcN;rw[decide_eq_true hy1];simp);have HS2:=hid (show zbm kl y=kl by unfold zbm;rw[if_neg hy2,if_pos hy1]);clear hy1 hy2;have hd2:=hd.set (.bool true);have hv2:=hv.kept (grownBy_setCell' W (wr.heap.size+1) (.bool true)) (by simp);have hrow2:=hrow.kept (grownBy_setCell' W (wr.heap.size+1) (.bool true)) (.inr (hd.not_row (by decide) hrow).symm);have hB3:=hB.setCell (p:=⟨wr.heap.size+1,0,none⟩) (show w.heap.size≤wr.heap.size+1 by omega) (.bool true);have hcd2:=hd2.cell;clear hd hv hrow
      gi_wp2
      exact ⟨(KeepsOthers.setCell _ _ _).from _,(Below.refl w.heap.size W).setCell (p:=⟨wr.heap.size+1,0,none⟩) (show w.heap.size≤wr.heap.size+1 by omega) _,⟨⟨_,hv2,by rw[HS.out,HS2.out];exact hrow2,trivial⟩,by rw[HD.out,HD2.out];exact hd2⟩,hB3⟩
     ·rw[decide_eq_false hy1] at t1
      have HD2:=hid (show zcN y=false by unfold zcN;rw[decide_eq_false hy1,decide_eq_false hy2];rfl);have HS2:=hid (show zbm kl y=kl++[y] by unfold zbm;rw[if_neg hy2,if_neg hy1]);clear hy1 hy2;have hd2:=hd.set (.bool false);have hv2:=hv.kept (grownBy_setCell' W (wr.heap.size+1) (.bool false)) (by simp);have hrow2:=hrow.kept (grownBy_setCell' W (wr.heap.size+1) (.bool false)) (.inr (hd.not_row (by decide) hrow).symm);have hB3:=hB.setCell (p:=⟨wr.heap.size+1,0,none⟩) (show w.heap.size≤wr.heap.size+1 by omega) (.bool false);have hcv:=hv2.cell;have hcd2:=hd2.cell;have hko3:=KeepsOthers.setCell W ⟨wr.heap.size+1,0,none⟩ (.bool false);have hbb3:=(Below.refl w.heap.size W).setCell (p:=⟨wr.heap.size+1,0,none⟩) (show w.heap.size≤wr.heap.size+1 by omega) (.bool false);have HN:=hid (show ∀j u,[Value.string y][j]?=some u→((W.setCell ⟨wr.heap.size+1,0,none⟩ (.bool false)).alloc (.cells #[.string y] 9)).cell? ((⟨W.heap.size,0,none⟩:Addr).add j)=some u by
       have h:=cell_one_new (W.setCell ⟨wr.heap.size+1,0,none⟩ (.bool false)) (.string y) 9
       rwa [World.size_setCell] at h)
      clear hd hv hrow
      gi_wp2_with (gi_at_builtin;refine wpListIn_append_own _ rfl _ _ 22 rfl w.heap.size 9 i0 (.string ⟨#[]⟩) 1 16 Tryz.underlying22 hi0 hz0 hz1 hz2 rfl (by decide) _ _ _ rfl (hrow2.alloc _) ⟨W.heap.size,0,none⟩ 1 1 [.string y] rfl rfl HN.out (by simp[Value.oneCell']) (by unfold maxLen;omega) (by omega) (by have:=hB3.size;simp at this;simp;omega) ?_;intro v' w1 hown' hgrow _;obtain ⟨g',cap',rfl⟩:=ownsRow_succ hown';obtain ⟨hv3,hv4,hr4,hk4,hb4⟩:=hv2.appended (by decide) hrow2 hB3.size hKB hown' hgrow;have hd4:=((hd2.alloc _).kept hgrow (hd2.not_row (by decide) hrow2)).kept (grownBy_setCell' w1 wr.heap.size (.slice (some ⟨g',0,none⟩) (kl.length+1) cap')) (by simp);have hc1:=hv3.cell;have hf1:=hv3.frozen)
      exact ⟨(hko3.trans hk4).from _,hbb3.trans hb4,⟨⟨_,hv4,by rw[HS.out,HS2.out];simpa using hr4,trivial⟩,by rw[HD.out,HD2.out];exact hd4⟩,hB3.trans hb4⟩
   case done=>
    rintro D ys W hD hys ⟨⟨⟨v,hv,hrow,_⟩,hd⟩,hB⟩ hK;rw[hys] at hrow hd;clear hys;have hl0:=ziM (zad t) 47;have hl1:=zeF 47 (zad t).size (zad t) (Nat.le_refl _);have hl2:=zlX (zG (zad t) 47);have hl3:=zn1 hl0;have hl4:=zuG hl3;have hb1:(zad t).size≤t.size:=by unfold zad;rw[ByteArray.size_extract];omega
    have hjl:(Lib.join ((zcS (zG (zad t) 47)).map (·.data.toList)) [47]).length≤8388610:=by omega
    have hkl:(zcS (zG (zad t) 47)).length≤4194306:=by omega
    have HJ:=hid (zrH hl3);have hjs:(⟨(Lib.join ((zcS (zG (zad t) 47)).map (·.data.toList)) [47]).toArray⟩:ByteArray).size≤8388610:=by rw[←size_eq];exact hjl
    cases hld:zcG false (zG (zad t) 47)
    ·have hkr:zaz [] (zG (zad t) 47)=zcS (zG (zad t) 47):=by unfold zcS;rw[if_neg (by rw[hld];simp)]
     rw[hkr] at hrow;rw[hld] at hd;clear hkr hld hl0 hl1 hl2 hl4 hb1;generalize hkp:zcS (zG (zad t) 47)=kept at *;have HKP:=hid hkp;clear hkp;have HC:=hid (fun (W:World) (B c:Nat) (A:Option Addr) (h:W.ownsRow B 9 1 (.slice A kept.length c) kept.length (kept.map .string))=>zoy h hl3 (by omega) (by omega));generalize (⟨(Lib.join (kept.map (·.data.toList)) [47]).toArray⟩:ByteArray)=js at *;clear hjl hl3;obtain ⟨A,c,rfl⟩:=zC hrow;have hcv:=hv.cell;have hcd:=hd.cell
     gi_wp2_with fail
     refine ⟨trivial,(callsIn_wide.2 (HC.out _ _ _ _ hrow)).mono ?_⟩;rintro e W2 ⟨rfl,b2⟩;have hK2:=(KeepsOthers.of_grownBy (zgJ b2) (fun j o e=>by cases e)).same D _ hK rfl;have hB2':=hB.trans (b2.mono hB.size);clear b2
     gi_wp2
     refine ⟨by simp,.inl ⟨_,_,rfl,run_takeDeferred hK2,?_⟩⟩;exact ⟨.tuple #[.string (⟨#[47]⟩++js),.int .i64 0],by simp[results,Tryz.results97,go_sem],by rw[HGT.out,HKP.out,HJ.out],hB2'.trans (belowK_b (w:=w) (Nat.le_refl _) W2 D _ _ (by simp at hD;omega) hK2 rfl rfl)⟩
    ·have hkr:zcS (zG (zad t) 47)=zaz [] (zG (zad t) 47)++[⟨#[]⟩]:=by unfold zcS;rw[if_pos hld]
     rw[hld] at hd;have HKR:=hid hkr;clear hkr hld hl0 hl1 hl2 hl4 hb1;generalize zaz [] (zG (zad t) 47)=kl at *;generalize hkp:zcS (zG (zad t) 47)=kept at *;have HKP:=hid hkp;clear hkp;have hkl1:kl.length+1=kept.length:=by rw[HKR.out];simp
     have HC:=hid (fun (W:World) (B c:Nat) (A:Option Addr) (h:W.ownsRow B 9 1 (.slice A kept.length c) kept.length (kept.map .string))=>zoy h hl3 (by omega) (by omega));generalize (⟨(Lib.join (kept.map (·.data.toList)) [47]).toArray⟩:ByteArray)=js at *;clear hjl hl3;have hcv:=hv.cell;have hcd:=hd.cell;have HW:=hid hK
     gi_wp2_with (gi_at_builtin;refine wpListIn_append_own _ rfl _ _ 22 rfl w.heap.size 9 i0 (.string ⟨#[]⟩) 1 16 Tryz.underlying22 hi0 hz0 hz1 hz2 rfl (by decide) _ _ _ rfl (hrow.alloc _) ⟨W.heap.size,0,none⟩ 1 1 [.string ⟨#[]⟩] rfl rfl (cell_one_new _ _ _) (by simp[Value.oneCell']) (by unfold maxLen;omega) (by omega) (by have:=hB.size;simp;omega) ?_;intro v' w1 hown' hgrow _;obtain ⟨g',cap',rfl⟩:=ownsRow_succ hown';obtain ⟨hv3,hv4,hr4,hk4,hb4⟩:=hv.appended (by decide) hrow hB.size (show w.heap.size≤wr.heap.size by omega) hown' hgrow;have hc1:=hv3.cell;have hf1:=hv3.frozen;have hc4:=hv4.cell)
     have hr5:(w1.setCell ⟨wr.heap.size,0,none⟩ (.slice (some ⟨g',0,none⟩) (kl.length+1) cap')).ownsRow w.heap.size 9 1 (.slice (some ⟨g',0,none⟩) kept.length cap') kept.length (kept.map .string):=by
      rw[←hkl1,HKR.out,List.map_append];exact hr4
     rw[hkl1] at hr5 hk4 hb4;have hK4:=hk4.same D _ HW.out rfl;have hB4:=hB.trans hb4;refine ⟨trivial,(callsIn_wide.2 (HC.out _ _ _ _ hr5)).mono ?_⟩;rintro e W2 ⟨rfl,b2⟩;have hK2:=(KeepsOthers.of_grownBy (zgJ b2) (fun j o e=>by cases e)).same D _ hK4 rfl;have hB2':=hB4.trans (b2.mono hB4.size);clear b2 hr5 hk4 hb4 hr4 hc1 hf1 hc4
     gi_wp2
     refine ⟨by simp,.inl ⟨_,_,rfl,run_takeDeferred hK2,?_⟩⟩;exact ⟨.tuple #[.string (⟨#[47]⟩++js),.int .i64 0],by simp[results,Tryz.results97,go_sem],by rw[HGT.out,HKP.out,HJ.out],hB2'.trans (belowK_b (w:=w) (Nat.le_refl _) W2 D _ _ (by simp at hD;omega) hK2 rfl rfl)⟩
   case stop=>
    rintro D c pre W _ _ h _;exact h.elim
theorem Normal_any (s:ByteArray) (w:World) (hs:s.size≤4194304) (hg:Glob w):
  Calls Tryz.prog 97 #[.string s] w fun e w'=>e= .returned (normVal s)∧Below w.heap.size w w':=by
 cases hp:isPathB s
 ·exact zr5 s w hs hp
 ·exact zqM s w hs hg hp
end Go.Proofs.YtbnafbdhomdcoaaGreatDoor.T5
namespace Go.Proofs.YtbnafbdhomdcoaaGreatDoor
open Go.RowKit Go.Shelf Go.Lib
theorem zbL {w w1:World} {o:Obj} {n:Nat} (h:Below n (w.alloc o) w1) (hn:n=(w.alloc o).heap.size):Below w.heap.size w w1:=by
 subst hn;exact ((Below.refl _ w).alloc (Nat.le_refl _) _).trans (h.mono (by simp))
def zbO (o:Option ByteArray):Value:=.tuple #[.string (o.getD ⟨#[]⟩),.bool o.isSome]
set_option maxRecDepth 20000 in
set_option maxHeartbeats 2000000 in
theorem zgq (r:Rq) (FA:Option Addr) (fc:Nat) (TA:Option Addr) (tc:Nat) (name:ByteArray) (w:World) (hr:Row w FA (zj r.fields)) (hf:zcO r) (hn:name.size≤maxLen):
  Calls Tryz.prog 104 #[rqV r FA fc TA tc,.string name] w fun e w'=>e= .returned (zbO (zaD r.fields name))∧Below w.heap.size w w':=by
 have hl:r.fields.length≤4398046511104:=by have:=zib r.fields;have:=hf.fields;omega
 have HA:=hid (fun (w':World) (hb:Below w.heap.size w w')=>zm3 FA fc r.fields name w' (hr.below hb) hl (zha hf.fields) hn);have hlen:=Nat.le_trans (zed r.fields name) hl;unfold rqV zaD;clear hl
 cases hV:za9 r.fields name with
 |nil=>
  rw[hV] at HA;clear hV hlen
  go_enter Tryz.func104,Tryz.ntmps104
  go_wp2_with fail
  refine (HA.out _ ((Below.refl _ w).alloc (Nat.le_refl _) _)).mono ?_;rintro e w1 ⟨A1,c1,rfl,_,b1⟩;have hbw:=zbL b1 rfl;clear b1
  go_wp2
  go_ret2
  exact ⟨rfl,hbw⟩
 |cons v vs=>
  rw[hV] at HA hlen;simp only[List.length_cons] at hlen;clear hV
  cases vs with
  |nil=>
   go_enter Tryz.func104,Tryz.ntmps104
   go_wp2_with fail
   refine (HA.out _ ((Below.refl _ w).alloc (Nat.le_refl _) _)).mono ?_;rintro e w1 ⟨A1,c1,rfl,own,b1⟩;obtain ⟨b,off,rfl,_,hc⟩:=(zak own).str (k:=0) (x:=v) rfl;have hbw:=zbL b1 rfl;clear b1 own;rw[Nat.add_zero] at hc
   go_wp2
   go_ret2
   exact ⟨rfl,hbw⟩
  |cons u vs=>
   have hne:((vs.length:Int)+1+1!=1)=true:=by simp;omega
   go_enter Tryz.func104,Tryz.ntmps104
   go_wp2_with fail
   refine (HA.out _ ((Below.refl _ w).alloc (Nat.le_refl _) _)).mono ?_;rintro e w1 ⟨A1,c1,rfl,_,b1⟩;have hbw:=zbL b1 rfl;clear b1;rw[List.length_cons,List.length_cons]
   go_wp2
   go_ret2
   exact ⟨rfl,hbw⟩
set_option maxRecDepth 20000 in
theorem zkC (m:zY) (A:Option Addr) (c:Nat) (w:World) (hm:zaY m) (hg:Glob w):
  Calls Tryz.prog 53 #[zL m A c] w fun e w'=>e= .returned (.bool (zbn m.name&&zbf m.value))∧Below w.heap.size w w':=by
 have HT:=hid (fun w hg=>zd9 m.name w hm.nameL hg);have HV:=hid (fun w=>zjh m.value w hm.valueL);unfold zL
 cases h1:zbn m.name
 ·rw[h1] at HT
  go_enter Tryz.func53,Tryz.ntmps53
  go_wp2_with fail
  refine (HT.out _ (hg.beyond ((Below.refl _ w).alloc (Nat.le_refl _) _))).mono ?_;rintro e w1 ⟨rfl,rfl⟩
  go_wp2
  go_ret
  exact ⟨rfl,(Below.refl _ w).alloc (Nat.le_refl _) _⟩
 ·rw[h1] at HT
  go_enter Tryz.func53,Tryz.ntmps53
  go_wp2_with fail
  refine (HT.out _ (hg.beyond ((Below.refl _ w).alloc (Nat.le_refl _) _))).mono ?_;rintro e w1 ⟨rfl,rfl⟩
  go_wp2_with fail
  refine (HV.out _).mono ?_;rintro e w1 ⟨rfl,b1⟩;have hbw:=zbL b1 rfl;clear b1
  go_wp2
  go_ret
  exact ⟨rfl,hbw⟩
set_option maxRecDepth 20000 in
theorem zqa (m:zY) (A:Option Addr) (c:Nat) (w:World) (hm:zaY m) (hg:Glob w):
  Calls Tryz.prog 58 #[zL m A c] w fun e w'=>e= .returned (.bool (zbn m.name))∧Below w.heap.size w w':=by
 have HT:=hid (fun w hg=>zd9 m.name w hm.nameL hg);unfold zL
 go_enter Tryz.func58,Tryz.ntmps58
 go_wp2_with fail
 refine (HT.out _ (hg.beyond ((Below.refl _ w).alloc (Nat.le_refl _) _))).mono ?_;rintro e w1 ⟨rfl,rfl⟩
 go_wp2
 go_ret
 exact ⟨rfl,(Below.refl _ w).alloc (Nat.le_refl _) _⟩
set_option maxRecDepth 20000 in
theorem zpF (m:zY) (A:Option Addr) (c:Nat) (w:World):
  Calls Tryz.prog 63 #[zL m A c] w fun e w'=>e= .returned (.bool (decide (0≤m.n)))∧Below w.heap.size w w':=by
 unfold zL
 go_enter Tryz.func63,Tryz.ntmps63
 go_wp2
 go_ret
 exact ⟨rfl,(Below.refl _ w).alloc (Nat.le_refl _) _⟩
set_option maxRecDepth 20000 in
theorem zpO (m:zY) (A:Option Addr) (c:Nat) (w:World) (hm:zaY m):
  Calls Tryz.prog 72 #[zL m A c] w fun e w'=>e= .returned (.bool (!decide (m.value.size=0)&&zbf m.value))∧Below w.heap.size w w':=by
 have HV:=hid (fun w=>zjh m.value w hm.valueL);have he:m.value.toList.isEmpty=decide (m.value.size=0):=zo m.value;unfold zL
 by_cases h0:m.value.size=0
 ·rw[decide_eq_true h0] at he ⊢
  go_enter Tryz.func72,Tryz.ntmps72
  go_wp2
  go_ret
  exact ⟨rfl,(Below.refl _ w).alloc (Nat.le_refl _) _⟩
 ·rw[decide_eq_false h0] at he ⊢
  go_enter Tryz.func72,Tryz.ntmps72
  go_wp2_with fail
  refine (HV.out _).mono ?_;rintro e w1 ⟨rfl,b1⟩;have hbw:=zbL b1 rfl;clear b1
  go_wp2
  go_ret
  exact ⟨rfl,hbw⟩
set_option maxRecDepth 20000 in
theorem znh (s:ByteArray) (w:World) (hs:s.size≤1048576) (hg:zdF w):
  Calls Tryz.prog 66 #[.string s] w fun e w'=>e= .returned (.bool (zaZ s))∧Below w.heap.size w w':=by
 have HN:=hid (fun w hg=>T5.Normal_any s w (by omega) hg);have HS:=hid (fun w=>T5.Suffix_any s 47 w (by omega));rw[show ((47:UInt8).toNat:Int)=47 from rfl,show T5.ends s 47=zj4 s 47 from rfl] at HS;unfold T5.normVal at HN;unfold zaZ;generalize hr:T5.normR s=r at *;obtain ⟨t,e0⟩:=r
 by_cases h0:e0=0
 ·subst h0
  by_cases ht:t=s
  ·subst ht
   cases hz:zj4 t 47
   all_goals
    rw[hz] at HS
    go_enter Tryz.func66,Tryz.ntmps66
    go_wp2_with fail
    refine (HN.out _ hg.five).mono ?_;rintro e w1 ⟨rfl,b1⟩
    go_wp2_with fail
    refine (HS.out _).mono ?_;rintro e w2 ⟨rfl,rfl⟩
    go_wp2
    go_ret
    exact ⟨by simp,b1⟩
  ·have hq:decide (((t,(0:Int)):ByteArray×Int)=(s,0))=false:=decide_eq_false fun h=>ht (Prod.mk.inj h).1
   have hl:(t.toList==s.toList)=false:=beq_eq_false_iff_ne.2 fun h=>ht (zV (by rw[←Lib.toList_data,←Lib.toList_data];exact h))
   go_enter Tryz.func66,Tryz.ntmps66
   go_wp2_with fail
   refine (HN.out _ hg.five).mono ?_;rintro e w1 ⟨rfl,b1⟩
   go_wp2
   go_ret
   exact ⟨by rw[hq];rfl,b1⟩
 ·have hq:decide (((t,e0):ByteArray×Int)=(s,0))=false:=decide_eq_false fun h=>h0 (Prod.mk.inj h).2
  have hb:(e0==0)=false:=beq_eq_false_iff_ne.2 h0
  go_enter Tryz.func66,Tryz.ntmps66
  go_wp2_with fail
  refine (HN.out _ hg.five).mono ?_;rintro e w1 ⟨rfl,b1⟩
  go_wp2
  go_ret
  exact ⟨by rw[hq];rfl,b1⟩
theorem zh1 {m:zY} {r:Rq} (h:m.kind=1∨m.kind=2∨m.kind=3∨m.kind=9):zx m r= .inl r:=by
 unfold zx;rw[if_neg (by omega),if_neg (by omega),if_neg (by omega),if_neg (by omega),if_neg (by omega),if_neg (by omega)]
theorem zfB {m:zY} {r:Rq} (y:Rs) (h:m.kind=4∨m.kind=5∨m.kind=6∨m.kind=7∨m.kind=10):zB m r y=y:=by
 unfold zB;rw[if_neg (by omega),if_neg (by omega),if_neg (by omega),if_neg (by omega),if_neg (by omega)]
theorem zv6 {m:zY} {r:Rq} (y:Rs) (h:m.kind=3):zB m r y={y with fields:=zF y.fields m.name}:=by
 unfold zB;rw[if_neg (by omega),if_neg (by omega),if_pos h]
theorem zvr {m:zY} (hk:m.kind=3):zjN m 59:=by
 refine ⟨fun args w=>Tryz.call59 args w,fun D Pre n0 N T f w r A c FA fc TA tc hE hP hX _ _ hN _ _ hF hT hm hr=>?_⟩;refine (znV D Pre n0 N T f w m r A c FA fc TA tc hE hP hX hN hF hT hm hr).mono fun e w' h=>h.imp (by omega) fun x A c h=>zbc (zh1 (.inr (.inr (.inl hk)))) ?_
 have e:zB m r=fun y=>{y with fields:=zF y.fields m.name}:=funext fun y=>zv6 y hk
 rw[e];exact h
theorem zdH {D:Nat→Prop} {Pre:World→Prop} {n0 N:Nat} {T:Ans} {w:World} {r:Rq} {FA TA:Option Addr} (fc tc:Nat) {g:FuncId} {lb:Array Value} (hE:Env D Pre w) (hP:Pre w)
  (hc:∀(W:World) (r:Rq) (FA:Option Addr) (fc:Nat) (TA:Option Addr) (tc:Nat),zb D w W→Pre W→zQ D W FA (zj r.fields)→zQ D W TA (zj r.trailers)→zcO r→Calls Tryz.prog g (#[rqV r FA fc TA tc]++lb) W (zcB D n0 N (T r) W))
  (hF:zQ D w FA (zj r.fields)) (hT:zQ D w TA (zj r.trailers)) (hr:zcO r) (W:World) (h:Below w.heap.size w W):Calls Tryz.prog g (#[rqV r FA fc TA tc]++lb) W (zcB D n0 N (T r) W):=
 hc W r FA fc TA tc (zb.of h) (hE.stays _ _ (zb.refl _ _) hP h) (hF.below h) (hT.below h) hr
theorem Env.globC {D:Nat→Prop} {Pre:World→Prop} {w W:World} (hE:Env D Pre w) (h:Below w.heap.size w W):zdF W:=hE.glob W (zb.of h)
theorem zbg {D:Nat→Prop} {w W w':World} {a b:Array Value} (hD:∀k,D k→k<w.heap.size) (h0:Below (X3 w a b).heap.size (X3 w a b) W) (h:zb D W w'):
  ((w'.cell? ⟨w.heap.size+1+1,0,none⟩=some (.int .i64 0)∧w'.cell? ⟨w.heap.size+1+1,1,none⟩=some (.string ⟨#[]⟩)∧w'.cell? ⟨w.heap.size+1+1,2,none⟩=some (.slice none 0 0)∧w'.cell? ⟨w.heap.size+1+1,3,none⟩=some (.string ⟨#[]⟩))∧
  (w'.frozen? ⟨w.heap.size+1+1,0,none⟩=false∧w'.frozen? ⟨w.heap.size+1+1,1,none⟩=false∧w'.frozen? ⟨w.heap.size+1+1,2,none⟩=false∧w'.frozen? ⟨w.heap.size+1+1,3,none⟩=false))∧w.heap.size+1+1<w'.heap.size:=by
 have hk:zb D (X3 w a b) w':=zb.ahead h0 h;refine ⟨⟨⟨(zdh hD hk 0).1,(zdh hD hk 1).1,(zdh hD hk 2).1,(zdh hD hk 3).1⟩,(zdh hD hk 0).2,(zdh hD hk 1).2,(zdh hD hk 2).2,(zdh hD hk 3).2⟩,?_⟩;have:=zbp hk
 omega
theorem zS {w W:World} {a b:Array Value} (h0:Below (X3 w a b).heap.size (X3 w a b) W):w.heap.size+1+1<W.heap.size:=by
 have:=h0.size;rw[zaA] at this
 omega
theorem zl {w W:World} {a b:Array Value} (h0:Below (X3 w a b).heap.size (X3 w a b) W):Below w.heap.size w W:=(zae w a b).trans (h0.mono (zae w a b).size)
theorem zg2 {l:List ByteArray} (h:(l.map fun s=>s.size+1).sum≤1048576):l.length≤1099511627776∧(l.map (·.size)).sum+l.length*3≤1099511627776:=by
 obtain ⟨h1,h2,_⟩:=zcD h;exact ⟨by omega,by omega⟩
theorem zwD {m:zY} {r:Rq} (hk:m.kind=4):zx m r=if zb5 m.list r.method=true then .inl r else .inr (zT 405 [(zcA,zaw m.list)]):=by
 unfold zx;rw[if_pos hk]
theorem zwR {m:zY} {r:Rq} (hk:m.kind=5):zx m r=if m.n<r.body.size then .inr (zT 413 []) else .inl r:=by
 unfold zx;rw[if_neg (by omega),if_pos hk]
set_option maxRecDepth 20000 in
set_option maxHeartbeats 2000000 in
theorem zwb {m:zY} (hkd:m.kind=5):zjN m 64:=by
 refine ⟨fun args w=>Tryz.call64 args w,fun D Pre n0 N T f w r A c FA fc TA tc hE hP hX hn0 hN8 hN hA hcap hF hT hm hr=>?_⟩;obtain ⟨g,lb,rfl,he,hc⟩:=hX;have HC:=hid (zdH fc tc hE hP hc hF hT hr);have HL:=hid hE.low;have HG:=hid (fun W h=>hE.globC (W:=W) h);have HN0:=hid hn0;have HN8:=hid hN8;have HA5:=hid (zwR (r:=r) hkd);have HB5:=hid (fun y=>zfB (r:=r) y (.inr (.inl hkd)));have HZ:=hid (hr.body);have hbz:(r.body.size:Int)≤9223372036854775807:=by have:=hr.body;unfold maxLen at this;omega
 clear hc hE hP hn0 hN8 hA hF hT hm hr hkd;unfold zL rqV
 by_cases hlt:m.n<r.body.size
 ·have HAI:=hid (show zx m r= .inr (zT 413 []) by rw[HA5.out,if_pos hlt])
  have HPL:=hid (fun W hg=>zdV 413 none 0 [] W (Row.nil _ _) (by decide) (by decide) (by decide) hg);have HBD:=hid (show zT 413 []=⟨413,⟨#[]⟩,[ctF],zao 413⟩ from rfl);generalize zao 413=bd at *;clear HC HA5 HB5
  go_enter Tryz.func64,Tryz.ntmps64
  go_wp2_with fail
  have hX0:=Below.refl (X3 w (zf m A c) (zu r FA fc TA tc)).heap.size (X3 w (zf m A c) (zu r FA fc TA tc));refine (HPL.out (X3 w (zf m A c) (zu r FA fc TA tc)) (HG.out _ (zl hX0))).mono ?_;rintro e w2 ⟨A1,c1,rfl,ho,hb⟩;obtain ⟨⟨⟨r0,r1,r2,r3⟩,f0,f1,f2,f3⟩,hz2⟩:=zbg HL.out hX0 (zb.of hb);have HO:=hid ho;have HBW:=hid (zl hb);clear ho hb hX0
  go_wp2
  exact bodyPost_ret (v:=rsV ⟨413,⟨#[]⟩,[ctF],bd⟩ A1 c1) (by simp[results,Tryz.results64,go_sem,rsV,r0,r1,r2,r3]) rfl
   (zbo (b:=w.heap.size+1+1) (x:=⟨413,⟨#[]⟩,[ctF],bd⟩) HL.out (zae w (zf m A c) (zu r FA fc TA tc)) (by omega) (by rw[zaA];omega) HBW.out HO.out (by rw[HAI.out,HBD.out]) ((show zbH 8 (⟨413,⟨#[]⟩,[ctF],bd⟩:Rs) by rw[←HBD.out];exact zaJ 413 zR (by simp)).more (by have:=HN8.out;omega)) _ _ _ _)
 ·have HAI:=hid (show zx m r= .inl r by rw[HA5.out,if_neg hlt])
  clear HA5
  go_enter Tryz.func64,Tryz.ntmps64
  go_wp2_with fail
  have hX0:=Below.refl (X3 w (zf m A c) (zu r FA fc TA tc)).heap.size (X3 w (zf m A c) (zu r FA fc TA tc));refine (HC.out (X3 w (zf m A c) (zu r FA fc TA tc)) (zl hX0)).mono ?_;rintro e w2 ⟨y,A1,c1,rfl,hrow,hfit,hTT,hk⟩;obtain ⟨⟨⟨r0,r1,r2,r3⟩,f0,f1,f2,f3⟩,hz2⟩:=zbg HL.out hX0 hk;have HE:=hid (zdN (F:=zB m r) (b:=w.heap.size+1+1) (M:=N+2) HN0.out (zl hX0) (by omega) (zS hX0) hrow hfit (by omega) hTT hk (HB5.out y) (.int .i64 y.status) (.string y.reason) (.slice A1 y.fields.length c1) (.string y.body));clear hrow hfit hTT hk hX0 HC;unfold rsV at *
  go_wp2
  exact bodyPost_ret (v:=rsV y A1 c1) (by simp[results,Tryz.results64,go_sem,rsV,r0,r1,r2,r3]) rfl (HE.out.imp (Nat.le_refl _) fun _ _ _ h=>zbc HAI.out h)
theorem zaV (w:World) (a b:ByteArray) {n:Nat} (hn:n=w.heap.size):Row (w.alloc (.cells #[.string a,.string b] 59)) (some ⟨n,0,none⟩) (zj [(a,b)]):=za1 w #[.string a,.string b] 59 hn
theorem zpk:zcA.size≤maxLen:=by unfold maxLen;decide +kernel
set_option maxRecDepth 20000 in
set_option maxHeartbeats 2000000 in
theorem zqH {m:zY} (hkd:m.kind=4):zjN m 62:=by
 refine ⟨fun args w=>Tryz.call62 args w,fun D Pre n0 N T f w r A c FA fc TA tc hE hP hX hn0 hN8 hN hA hcap hF hT hm hr=>?_⟩;obtain ⟨g,lb,rfl,he,hc⟩:=hX;have HC:=hid (zdH fc tc hE hP hc hF hT hr);have HL:=hid hE.low;have HG:=hid (fun W h=>hE.globC (W:=W) h);have HN0:=hid hn0;have HN8:=hid hN8;have HA4:=hid (zwD (r:=r) hkd);have HB4:=hid (fun y=>zfB (r:=r) y (.inl hkd));obtain ⟨hl1,hl2⟩:=zg2 hm.list;have HCT:=hid (fun (W:World) (h:Below w.heap.size w W)=>zcC A c m.list r.method W (hA.below h).row hl1);have HJ:=hid (fun (W:World) (h:Below w.heap.size w W)=>zkM A c m.list W (hA.below h).row hcap hl2);have HJZ:=hid (show (zaw m.list).size≤4194304 by
  obtain ⟨l1,l2,_⟩:=zcD hm.list;have:=zhX m.list
  omega)
 have hX0:=Below.refl (X3 w (zf m A c) (zu r FA fc TA tc)).heap.size (X3 w (zf m A c) (zu r FA fc TA tc));clear hc hE hP hn0 hN8 hA hcap hF hT hm hr hkd hl1 hl2;unfold zL rqV
 cases hin:zb5 m.list r.method
 ·have HAI:=hid (show zx m r= .inr (zT 405 [(zcA,zaw m.list)]) by rw[HA4.out,hin];rfl)
  rw[hin] at HCT;generalize zaw m.list=js at *;have HPL:=hid (fun W Z hr hg=>zdV 405 (some ⟨Z,0,none⟩) 1 [(zcA,js)] W hr (by simp) (by decide) (by decide) hg);have HBD:=hid (show zT 405 [(zcA,js)]=⟨405,⟨#[]⟩,[ctF,(zcA,js)],zao 405⟩ from rfl);generalize zao 405=bd at *;clear HC HA4 HB4 hin
  go_enter Tryz.func62,Tryz.ntmps62
  go_wp2_with fail
  refine (HCT.out (X3 w (zf m A c) (zu r FA fc TA tc)) (zl hX0)).mono ?_;rintro e w1 ⟨rfl,rfl⟩;obtain ⟨⟨⟨m0,m1,m2,m3,m4⟩,a0,a1,a2,a3,a4,a5,a6⟩,⟨r0,r1,r2,r3⟩,f0,f1,f2,f3⟩:=zh HL.out (zb.of (D:=D) hX0);have hz2:=zS hX0
  go_wp2_with fail
  refine (HJ.out (X3 w (zf m A c) (zu r FA fc TA tc)) (zl hX0)).mono ?_;rintro e w1 ⟨rfl,hb1⟩;clear m0 m1 m2 m3 m4 a0 a1 a2 a3 a4 a5 a6 r0 r1 r2 r3 f0 f1 f2 f3 hz2;have hb2:=hb1.alloc hb1.size (.cells #[.string zcA,.string js] 59);have hrf:=zaV w1 zcA js rfl;clear hb1;unfold zcA at hb2 hrf HPL
  go_wp2_with fail
  refine (HPL.out _ _ hrf (HG.out _ (zl hb2))).mono ?_;rintro e w2 ⟨A1,c1,rfl,ho,hb⟩;have hb3:=hb2.trans (hb.mono hb2.size);obtain ⟨⟨⟨r0,r1,r2,r3⟩,f0,f1,f2,f3⟩,hz2⟩:=zbg HL.out hX0 (zb.of hb3);have HO:=hid (zn (b':=(X3 w (zf m A c) (zu r FA fc TA tc)).heap.size) ho hb2.size);have HBW:=hid (zl hb3);clear ho hb hb2 hb3 hX0 hrf
  go_wp2
  exact bodyPost_ret (v:=rsV ⟨405,⟨#[]⟩,[ctF,(zcA,js)],bd⟩ A1 c1) (by simp[results,Tryz.results62,go_sem,rsV,r0,r1,r2,r3]) rfl
   (zbo (b:=w.heap.size+1+1) (x:=⟨405,⟨#[]⟩,[ctF,(zcA,js)],bd⟩) HL.out (zae w (zf m A c) (zu r FA fc TA tc)) (by omega) (by rw[zaA];omega) HBW.out HO.out (by rw[HAI.out,HBD.out]) ((show zbH 8 (⟨405,⟨#[]⟩,[ctF,(zcA,js)],bd⟩:Rs) by rw[←HBD.out];exact zaJ 405 (zah zpk (by have:=HJZ.out;unfold maxLen;show js.size≤_;omega) zR) (by simp)).more (by have:=HN8.out;omega)) _ _ _ _)
 ·have HAI:=hid (show zx m r= .inl r by rw[HA4.out,hin];rfl)
  rw[hin] at HCT;clear HA4 hin HJ HJZ
  go_enter Tryz.func62,Tryz.ntmps62
  go_wp2_with fail
  refine (HCT.out (X3 w (zf m A c) (zu r FA fc TA tc)) (zl hX0)).mono ?_;rintro e w1 ⟨rfl,rfl⟩;obtain ⟨⟨⟨m0,m1,m2,m3,m4⟩,a0,a1,a2,a3,a4,a5,a6⟩,⟨r0,r1,r2,r3⟩,f0,f1,f2,f3⟩:=zh HL.out (zb.of (D:=D) hX0);have hz2:=zS hX0
  go_wp2_with fail
  refine (HC.out (X3 w (zf m A c) (zu r FA fc TA tc)) (zl hX0)).mono ?_;rintro e w2 ⟨y,A1,c1,rfl,hrow,hfit,hTT,hk⟩;clear m0 m1 m2 m3 m4 a0 a1 a2 a3 a4 a5 a6 r0 r1 r2 r3 f0 f1 f2 f3 hz2;obtain ⟨⟨⟨r0,r1,r2,r3⟩,f0,f1,f2,f3⟩,hz2⟩:=zbg HL.out hX0 hk;have HE:=hid (zdN (F:=zB m r) (b:=w.heap.size+1+1) (M:=N+2) HN0.out (zl hX0) (by omega) (zS hX0) hrow hfit (by omega) hTT hk (HB4.out y) (.int .i64 y.status) (.string y.reason) (.slice A1 y.fields.length c1) (.string y.body));clear hrow hfit hTT hk hX0 HC;unfold rsV at *
  go_wp2
  exact bodyPost_ret (v:=rsV y A1 c1) (by simp[results,Tryz.results62,go_sem,rsV,r0,r1,r2,r3]) rfl (HE.out.imp (Nat.le_refl _) fun _ _ _ h=>zbc HAI.out h)
theorem zn3 {q:Rq} {F G:Rs→Rs} {T:Ans} {w w':World} {x:Rs} {A:Option Addr} {c:Nat} (h:zjK q G (fun q=>zjK q F T) w x A c w'):zjK q (fun y=>G (F y)) T w x A c w':=by
 obtain ⟨w1,y,A1,c1,w2,b,⟨v1,z,B1,d1,v2,b2,t,e,k,o⟩,e2,k2,o2⟩:=h;refine ⟨v1,z,B1,d1,v2,b.trans (b2.mono b.size),t,by rw[e2,e],zb.btw' b b2 k k2,?_⟩
 rcases o2 with o2|⟨o2,o3,o4⟩
 ·exact .inl o2
 ·subst o2 o3 o4
  rcases o with o|o
  ·exact .inl ((o.keep k2 (fun k hk=>hk.2)).less b.size)
  ·exact .inr o
theorem zad {m:zY} {r:Rq} (y:Rs) (h:m.kind=1):zB m r y={y with fields:=y.fields++[(m.name,m.value)]}:=by
 unfold zB;rw[if_pos h]
theorem zu4 {m:zY} {r:Rq} (y:Rs) (h:m.kind=2):zB m r y={y with fields:=zF y.fields m.name++[(m.name,m.value)]}:=by
 unfold zB;rw[if_neg (by omega),if_pos h]
theorem zaM {B:Nat} {w w':World} (h:Below B w w'):Below B w w'.drew:=⟨h.os,h.tape,h.output,h.size,h.block⟩
theorem zlh {D:Nat→Prop} {W w':World} {a b:ByteArray} (hD:∀k,D k→k<W.heap.size) (hk:zb D (W.alloc (.cells #[.string a,.string b] 59)) w'):Row w' (some ⟨W.heap.size,0,none⟩) (zj [(a,b)]):=by
 have h:zQ D (W.alloc (.cells #[.string a,.string b] 59)) (some ⟨W.heap.size,0,none⟩) (zj [(a,b)]):=fun hl=>by
  obtain ⟨b0,off,e,hb,hc⟩:=zaV W a b rfl hl;injection e with e;injection e with e e2;subst e;subst e2;exact ⟨_,_,rfl,hb,fun hd=>by have:=hD _ hd;omega,hc⟩
 exact (h.keep hk).row
theorem zid {N:Nat} {y:Rs} {m:zY} (h:zbH N y) (hm:zaY m):zbH (N+2) {y with fields:=y.fields++[(m.name,m.value)]}:=
 ⟨by show (y.fields++[(m.name,m.value)]).length≤_;have:=h.many;rw[List.length_append];simp;omega,zan h.wide (zah hm.nameL hm.valueL zR)⟩
set_option maxRecDepth 20000 in
set_option maxHeartbeats 4000000 in
theorem zvG (D:Nat→Prop) (Pre:World→Prop) (n0 N:Nat) (T:Ans) (f:Value) (w:World) (m:zY) (r:Rq) (A:Option Addr) (c:Nat) (FA:Option Addr) (fc:Nat) (TA:Option Addr) (tc:Nat)
  (hE:Env D Pre w) (hP:Pre w) (hX:Nx D Pre n0 N w f T) (hn0:n0≤w.heap.size) (hN:N≤1099511627776) (hF:zQ D w FA (zj r.fields)) (hT:zQ D w TA (zj r.trailers)) (hm:zaY m) (hr:zcO r):
  Calls Tryz.prog 56 #[zL m A c,rqV r FA fc TA tc,f] w (zcB D n0 (N+2) (zjK r (fun y=>{y with fields:=y.fields++[(m.name,m.value)]}) T) w):=by
 obtain ⟨g,lb,rfl,he,hc⟩:=hX;have HC:=hid (zdH fc tc hE hP hc hF hT hr);have HL:=hid hE.low;have HN0:=hid hn0;have HM:=hid hm;have HN:=hid hN;have HSC:=hid (fun (W:World) (h:zb D (X3 w (zf m A c) (zu r FA fc TA tc)) W)=>(⟨(zh hE.low h).1.1,(zh hE.low h).1.2⟩:(W.cell? ⟨w.heap.size,0,none⟩=some (.int .i64 m.kind)∧W.cell? ⟨w.heap.size,1,none⟩=some (.string m.name)∧W.cell? ⟨w.heap.size,2,none⟩=some (.string m.value)∧W.cell? ⟨w.heap.size,3,none⟩=some (.slice A m.list.length c)∧W.cell? ⟨w.heap.size,4,none⟩=some (.int .i64 m.n))∧
   (W.cell? ⟨w.heap.size+1,0,none⟩=some (.string r.method)∧W.cell? ⟨w.heap.size+1,1,none⟩=some (.string r.target)∧W.cell? ⟨w.heap.size+1,2,none⟩=some (.int .i64 r.major)∧W.cell? ⟨w.heap.size+1,3,none⟩=some (.int .i64 r.minor)∧W.cell? ⟨w.heap.size+1,4,none⟩=some (.slice FA r.fields.length fc)∧W.cell? ⟨w.heap.size+1,5,none⟩=some (.string r.body)∧W.cell? ⟨w.heap.size+1,6,none⟩=some (.slice TA r.trailers.length tc))))
 have HDR:=hid (zaM (Below.refl (X3 w (zf m A c) (zu r FA fc TA tc)).heap.size (X3 w (zf m A c) (zu r FA fc TA tc))));have hS0:=HSC.out _ (zb.of HDR.out);clear hc hE hP hn0 hN hF hT hm hr;unfold zL rqV
 go_enter Tryz.func56,Tryz.ntmps56
 go_wp2_with fail
 rw[zwf];refine zO (t:=10) (S:=fun W=>(W.cell? ⟨w.heap.size,0,none⟩=some (.int .i64 m.kind)∧W.cell? ⟨w.heap.size,1,none⟩=some (.string m.name)∧W.cell? ⟨w.heap.size,2,none⟩=some (.string m.value)∧W.cell? ⟨w.heap.size,3,none⟩=some (.slice A m.list.length c)∧W.cell? ⟨w.heap.size,4,none⟩=some (.int .i64 m.n))∧
   (W.cell? ⟨w.heap.size+1,0,none⟩=some (.string r.method)∧W.cell? ⟨w.heap.size+1,1,none⟩=some (.string r.target)∧W.cell? ⟨w.heap.size+1,2,none⟩=some (.int .i64 r.major)∧W.cell? ⟨w.heap.size+1,3,none⟩=some (.int .i64 r.minor)∧W.cell? ⟨w.heap.size+1,4,none⟩=some (.slice FA r.fields.length fc)∧W.cell? ⟨w.heap.size+1,5,none⟩=some (.string r.body)∧W.cell? ⟨w.heap.size+1,6,none⟩=some (.slice TA r.trailers.length tc))) (by kernel_rfl) hS0 (fun hHeld=>?_)
 refine za 0 (s:=hHeld) (h:=?_);refine za 1 (y:=fun w hSw=>by (try dsimp only at hSw);obtain ⟨⟨s0,s1,s2,s3,s4⟩,t0,t1,t2,t3,t4,t5,t6⟩:=hSw;exact yl) (s:=hHeld) (h:=?_);refine za 3 (s:=hHeld) (h:=?_);refine za 4 (y:=fun w hSw=>by (try dsimp only at hSw);obtain ⟨⟨s0,s1,s2,s3,s4⟩,t0,t1,t2,t3,t4,t5,t6⟩:=hSw;exact yl) (s:=hHeld) (h:=?_);refine za 5 (s:=hHeld) (h:=?_);refine za 6 (y:=fun w hSw=>by (try dsimp only at hSw);obtain ⟨⟨s0,s1,s2,s3,s4⟩,t0,t1,t2,t3,t4,t5,t6⟩:=hSw;exact yl) (s:=hHeld) (h:=?_);refine za 7 (s:=hHeld) (h:=?_);refine zbC (rs:=[2,8]) (by kernel_rfl) (by simp) ?_;refine (zJ.cons rfl (fun K hK=>?_) (zJ.cons rfl (fun K hK=>?_) zJ.nil))
 ·have hX1:Below w.heap.size w (X3 w (zf m A c) (zu r FA fc TA tc)).drew:=zaM (zae w (zf m A c) (zu r FA fc TA tc))
  go_simp
  refine (HC.out _ hX1).mono ?_;rintro e w2 ⟨y,A1,c1,rfl,hrow,hfit,hTT,hk⟩;obtain ⟨ys,yr,yf,yb⟩:=y;have hk0:zb D (X3 w (zf m A c) (zu r FA fc TA tc)) w2:=zb.ahead HDR.out hk;unfold rsV;dsimp only at hrow hfit ⊢
  (try go_wp2_with fail)
  refine hK.out _ _ (.inr (HSC.out _ hk0)) (fun _=>nm ?_);clear hK K;refine zc 8 (h:=fun K hK=>?_);have hb2:Below w2.heap.size w2 (w2.alloc (.cells #[.string m.name,.string m.value] 59)):=(Below.refl _ _).alloc (Nat.le_refl _) _
  go_simp
  refine hK.out _ _ (.inr (HSC.out _ (hk0.step hb2))) (fun _=>nm ?_);clear hK K;refine zc 9 (h:=fun K hK=>?_)
  go_simp
  go_at_call 93
  refine (zbV ys yr yb A1 (some ⟨w2.heap.size,0,none⟩) c1 1 yf [(m.name,m.value)] _ (hrow.row.below hb2) (zaV w2 m.name m.value rfl) (Nat.le_trans hfit.many (Nat.le_trans HN.out (by decide))) (by simp)).mono ?_;rintro e w3 ⟨A3,c3,rfl,ho,hb⟩;have hk3:zb D (X3 w (zf m A c) (zu r FA fc TA tc)) w3:=(hk0.step hb2).step hb;have HKZ:=hid (show zb (Btw w (X3 w (zf m A c) (zu r FA fc TA tc)).drew) w2 w3 from zb.of (hb2.trans (hb.mono hb2.size)));have hk4:=hk3
  (try go_wp2_with fail)
  refine hK.out _ _ (.inr (HSC.out _ hk3)) (fun _=>nm ?_);clear hK K;refine zc 10 (h:=fun K hK=>?_);obtain ⟨_,⟨r0,r1,r2,r3⟩,f0,f1,f2,f3⟩:=zh HL.out hk4;have hz2:w.heap.size+1+1<w3.heap.size:=by have:=zbp hk4;omega
  have HO:=hid (zn (b':=(X3 w (zf m A c) (zu r FA fc TA tc)).drew.heap.size) ho (Nat.le_trans hk.size hb2.size));have HFT:=hid (zid (m:=m) hfit HM.out);have HTT:=hid hTT;have HK2:=hid hk;clear hfit hTT hk hk0 hk3 hk4 ho hb hrow
  go_simp
  refine hK.out _ _ (.inl (by rfl)) (fun _=>nm ?_);clear hK K;refine zy (by kernel_rfl) ?_ _
  go_wp2
  exact bodyPost_ret (v:=rsV ⟨ys,yr,yf++[(m.name,m.value)],yb⟩ A3 c3) (by simp[results,Tryz.results56,go_sem,rsV,r0,r1,r2,r3]) rfl
   (zdb (F:=fun y=>{y with fields:=y.fields++[(m.name,m.value)]}) (b:=w.heap.size+1+1) HL.out hX1 (by omega) (by show _<(X3 w (zf m A c) (zu r FA fc TA tc)).heap.size;rw[zaA];omega) HTT.out HK2.out HKZ.out HO.out rfl HFT.out _ _ _ _)
 ·have hb1:Below (X3 w (zf m A c) (zu r FA fc TA tc)).heap.size (X3 w (zf m A c) (zu r FA fc TA tc)) ((X3 w (zf m A c) (zu r FA fc TA tc)).drew.alloc (.cells #[.string m.name,.string m.value] 59)):=HDR.out.alloc HDR.out.size _
  have hX1:Below w.heap.size w ((X3 w (zf m A c) (zu r FA fc TA tc)).drew.alloc (.cells #[.string m.name,.string m.value] 59)):=(zae w (zf m A c) (zu r FA fc TA tc)).trans (hb1.mono (zae w (zf m A c) (zu r FA fc TA tc)).size);have hDW:∀k,D k→k<(X3 w (zf m A c) (zu r FA fc TA tc)).drew.heap.size:=fun k hd=>Nat.lt_of_lt_of_le (HL.out k hd) (zae w (zf m A c) (zu r FA fc TA tc)).size
  go_simp
  refine hK.out _ _ (.inr (HSC.out _ (zb.of hb1))) (fun _=>nm ?_);clear hK K;refine zc 2 (h:=fun K hK=>?_)
  go_simp
  refine (HC.out _ hX1).mono ?_;rintro e w2 ⟨y,A1,c1,rfl,hrow,hfit,hTT,hk⟩;obtain ⟨ys,yr,yf,yb⟩:=y;have hk0:zb D (X3 w (zf m A c) (zu r FA fc TA tc)) w2:=zb.ahead hb1 hk;unfold rsV;dsimp only at hrow hfit ⊢
  (try go_wp2_with fail)
  refine hK.out _ _ (.inr (HSC.out _ hk0)) (fun _=>nm ?_);clear hK K;refine zc 9 (h:=fun K hK=>?_)
  go_simp
  go_at_call 93
  refine (zbV ys yr yb A1 (some ⟨(X3 w (zf m A c) (zu r FA fc TA tc)).drew.heap.size,0,none⟩) c1 1 yf [(m.name,m.value)] _ hrow.row (zlh hDW hk) (Nat.le_trans hfit.many (Nat.le_trans HN.out (by decide))) (by simp)).mono ?_;rintro e w3 ⟨A3,c3,rfl,ho,hb⟩;have hk3:zb D (X3 w (zf m A c) (zu r FA fc TA tc)) w3:=hk0.step hb;have HKZ:=hid (show zb (Btw w ((X3 w (zf m A c) (zu r FA fc TA tc)).drew.alloc (.cells #[.string m.name,.string m.value] 59))) w2 w3 from zb.of hb);have hk4:=hk3
  (try go_wp2_with fail)
  refine hK.out _ _ (.inr (HSC.out _ hk3)) (fun _=>nm ?_);clear hK K;refine zc 10 (h:=fun K hK=>?_);obtain ⟨_,⟨r0,r1,r2,r3⟩,f0,f1,f2,f3⟩:=zh HL.out hk4;have hz2:w.heap.size+1+1<w3.heap.size:=by have:=zbp hk4;omega
  have HO:=hid (zn (b':=((X3 w (zf m A c) (zu r FA fc TA tc)).drew.alloc (.cells #[.string m.name,.string m.value] 59)).heap.size) ho hk.size);have HFT:=hid (zid (m:=m) hfit HM.out);have HTT:=hid hTT;have HK2:=hid hk;clear hfit hTT hk hk0 hk3 hk4 ho hb hrow
  go_simp
  refine hK.out _ _ (.inl (by rfl)) (fun _=>nm ?_);clear hK K;refine zy (by kernel_rfl) ?_ _
  go_wp2
  exact bodyPost_ret (v:=rsV ⟨ys,yr,yf++[(m.name,m.value)],yb⟩ A3 c3) (by simp[results,Tryz.results56,go_sem,rsV,r0,r1,r2,r3]) rfl
   (zdb (F:=fun y=>{y with fields:=y.fields++[(m.name,m.value)]}) (b:=w.heap.size+1+1) HL.out hX1 (by omega) (by show _<((X3 w (zf m A c) (zu r FA fc TA tc)).drew.alloc (.cells #[.string m.name,.string m.value] 59)).heap.size;rw[World.size_alloc];show _<(X3 w (zf m A c) (zu r FA fc TA tc)).heap.size+1;rw[zaA];omega) HTT.out HK2.out HKZ.out HO.out rfl HFT.out _ _ _ _)
set_option maxRecDepth 20000 in
set_option maxHeartbeats 4000000 in
theorem zvf (D:Nat→Prop) (Pre:World→Prop) (n0 N:Nat) (T:Ans) (f:Value) (w:World) (m:zY) (r:Rq) (A:Option Addr) (c:Nat) (FA:Option Addr) (fc:Nat) (TA:Option Addr) (tc:Nat)
  (hE:Env D Pre w) (hP:Pre w) (hX:Nx D Pre n0 N w f T) (hn0:n0≤w.heap.size) (hN:N≤1099511627776) (hF:zQ D w FA (zj r.fields)) (hT:zQ D w TA (zj r.trailers)) (hm:zaY m) (hr:zcO r):
  Calls Tryz.prog 57 #[zL m A c,rqV r FA fc TA tc,f] w (zcB D n0 (N+2) (zjK r (fun y=>{y with fields:=zF y.fields m.name++[(m.name,m.value)]}) T) w):=by
 obtain ⟨g,lb,rfl,he,hc⟩:=hX;have hX:Nx D Pre n0 N w (.func (.func g) #[] lb) T:=⟨g,lb,rfl,he,hc⟩;have HC:=hid (fun (W:World) (h:Below w.heap.size w W)=>znV D Pre n0 N T (.func (.func g) #[] lb) W m r A c FA fc TA tc (hE.later (zb.of h)) (hE.stays _ _ (zb.refl _ _) hP h) (hX.later (zb.of h)) hN (hF.below h) (hT.below h) hm hr);have HL:=hid hE.low;have HN0:=hid hn0;have HM:=hid hm;have HN:=hid hN;have HSC:=hid (fun (W:World) (h:zb D (X3 w (zf m A c) (zu r FA fc TA tc)) W)=>(⟨(zh hE.low h).1.1,(zh hE.low h).1.2⟩:(W.cell? ⟨w.heap.size,0,none⟩=some (.int .i64 m.kind)∧W.cell? ⟨w.heap.size,1,none⟩=some (.string m.name)∧W.cell? ⟨w.heap.size,2,none⟩=some (.string m.value)∧W.cell? ⟨w.heap.size,3,none⟩=some (.slice A m.list.length c)∧W.cell? ⟨w.heap.size,4,none⟩=some (.int .i64 m.n))∧
   (W.cell? ⟨w.heap.size+1,0,none⟩=some (.string r.method)∧W.cell? ⟨w.heap.size+1,1,none⟩=some (.string r.target)∧W.cell? ⟨w.heap.size+1,2,none⟩=some (.int .i64 r.major)∧W.cell? ⟨w.heap.size+1,3,none⟩=some (.int .i64 r.minor)∧W.cell? ⟨w.heap.size+1,4,none⟩=some (.slice FA r.fields.length fc)∧W.cell? ⟨w.heap.size+1,5,none⟩=some (.string r.body)∧W.cell? ⟨w.heap.size+1,6,none⟩=some (.slice TA r.trailers.length tc))))
 have HDR:=hid (zaM (Below.refl (X3 w (zf m A c) (zu r FA fc TA tc)).heap.size (X3 w (zf m A c) (zu r FA fc TA tc))));have hS0:=HSC.out _ (zb.of HDR.out);clear hc hE hP hn0 hN hF hT hm hr hX;unfold zL rqV
 go_enter Tryz.func57,Tryz.ntmps57
 go_wp2_with fail
 rw[zwf];refine zO (t:=11) (S:=fun W=>(W.cell? ⟨w.heap.size,0,none⟩=some (.int .i64 m.kind)∧W.cell? ⟨w.heap.size,1,none⟩=some (.string m.name)∧W.cell? ⟨w.heap.size,2,none⟩=some (.string m.value)∧W.cell? ⟨w.heap.size,3,none⟩=some (.slice A m.list.length c)∧W.cell? ⟨w.heap.size,4,none⟩=some (.int .i64 m.n))∧
   (W.cell? ⟨w.heap.size+1,0,none⟩=some (.string r.method)∧W.cell? ⟨w.heap.size+1,1,none⟩=some (.string r.target)∧W.cell? ⟨w.heap.size+1,2,none⟩=some (.int .i64 r.major)∧W.cell? ⟨w.heap.size+1,3,none⟩=some (.int .i64 r.minor)∧W.cell? ⟨w.heap.size+1,4,none⟩=some (.slice FA r.fields.length fc)∧W.cell? ⟨w.heap.size+1,5,none⟩=some (.string r.body)∧W.cell? ⟨w.heap.size+1,6,none⟩=some (.slice TA r.trailers.length tc))) (by kernel_rfl) hS0 (fun hHeld=>?_)
 refine za 0 (y:=fun w hSw=>by (try dsimp only at hSw);obtain ⟨⟨s0,s1,s2,s3,s4⟩,t0,t1,t2,t3,t4,t5,t6⟩:=hSw;exact yl) (s:=hHeld) (h:=?_);refine za 1 (y:=fun w hSw=>by (try dsimp only at hSw);obtain ⟨⟨s0,s1,s2,s3,s4⟩,t0,t1,t2,t3,t4,t5,t6⟩:=hSw;exact yl) (s:=hHeld) (h:=?_);refine za 2 (s:=hHeld) (h:=?_);refine za 4 (s:=hHeld) (h:=?_);refine za 5 (y:=fun w hSw=>by (try dsimp only at hSw);obtain ⟨⟨s0,s1,s2,s3,s4⟩,t0,t1,t2,t3,t4,t5,t6⟩:=hSw;exact yl) (s:=hHeld) (h:=?_);refine za 6 (s:=hHeld) (h:=?_);refine za 7 (y:=fun w hSw=>by (try dsimp only at hSw);obtain ⟨⟨s0,s1,s2,s3,s4⟩,t0,t1,t2,t3,t4,t5,t6⟩:=hSw;exact yl) (s:=hHeld) (h:=?_);refine za 8 (s:=hHeld) (h:=?_);refine zbC (rs:=[3,9]) (by kernel_rfl) (by simp) ?_;refine (zJ.cons rfl (fun K hK=>?_) (zJ.cons rfl (fun K hK=>?_) zJ.nil))
 ·have hX1:Below w.heap.size w (X3 w (zf m A c) (zu r FA fc TA tc)).drew:=zaM (zae w (zf m A c) (zu r FA fc TA tc))
  go_simp
  go_at_call 59
  refine (HC.out _ hX1).mono ?_;rintro e w2 ⟨y,A1,c1,rfl,hrow,hfit,hTT,hk⟩;obtain ⟨ys,yr,yf,yb⟩:=y;have hk0:zb D (X3 w (zf m A c) (zu r FA fc TA tc)) w2:=zb.ahead HDR.out hk;unfold rsV;dsimp only at hrow hfit ⊢
  (try go_wp2_with fail)
  refine hK.out _ _ (.inr (HSC.out _ hk0)) (fun _=>nm ?_);clear hK K;refine zc 9 (h:=fun K hK=>?_);have hb2:Below w2.heap.size w2 (w2.alloc (.cells #[.string m.name,.string m.value] 59)):=(Below.refl _ _).alloc (Nat.le_refl _) _
  go_simp
  refine hK.out _ _ (.inr (HSC.out _ (hk0.step hb2))) (fun _=>nm ?_);clear hK K;refine zc 10 (h:=fun K hK=>?_)
  go_simp
  go_at_call 93
  refine (zbV ys yr yb A1 (some ⟨w2.heap.size,0,none⟩) c1 1 yf [(m.name,m.value)] _ (hrow.row.below hb2) (zaV w2 m.name m.value rfl) (Nat.le_trans hfit.many (Nat.le_trans HN.out (by decide))) (by simp)).mono ?_;rintro e w3 ⟨A3,c3,rfl,ho,hb⟩;have hk3:zb D (X3 w (zf m A c) (zu r FA fc TA tc)) w3:=(hk0.step hb2).step hb;have HKZ:=hid (show zb (Btw w (X3 w (zf m A c) (zu r FA fc TA tc)).drew) w2 w3 from zb.of (hb2.trans (hb.mono hb2.size)));have hk4:=hk3
  (try go_wp2_with fail)
  refine hK.out _ _ (.inr (HSC.out _ hk3)) (fun _=>nm ?_);clear hK K;refine zc 11 (h:=fun K hK=>?_);obtain ⟨_,⟨r0,r1,r2,r3⟩,f0,f1,f2,f3⟩:=zh HL.out hk4;have hz2:w.heap.size+1+1<w3.heap.size:=by have:=zbp hk4;omega
  have HO:=hid (zn (b':=(X3 w (zf m A c) (zu r FA fc TA tc)).drew.heap.size) ho (Nat.le_trans hk.size hb2.size));have HFT:=hid (zid (m:=m) hfit HM.out);have HTT:=hid hTT;have HK2:=hid hk;clear hfit hTT hk hk0 hk3 hk4 ho hb hrow
  go_simp
  refine hK.out _ _ (.inl (by rfl)) (fun _=>nm ?_);clear hK K;refine zy (by kernel_rfl) ?_ _
  go_wp2
  exact bodyPost_ret (v:=rsV ⟨ys,yr,yf++[(m.name,m.value)],yb⟩ A3 c3) (by simp[results,Tryz.results57,go_sem,rsV,r0,r1,r2,r3]) rfl
   ((zdb (F:=fun y=>{y with fields:=y.fields++[(m.name,m.value)]}) (T:=fun q=>zjK q (fun y=>{y with fields:=zF y.fields m.name}) T) (b:=w.heap.size+1+1) HL.out hX1 (by omega) (by show _<(X3 w (zf m A c) (zu r FA fc TA tc)).heap.size;rw[zaA];omega) HTT.out HK2.out HKZ.out HO.out rfl HFT.out _ _ _ _).imp (Nat.le_refl _) fun _ _ _ h=>zn3 h)
 ·have hb1:Below (X3 w (zf m A c) (zu r FA fc TA tc)).heap.size (X3 w (zf m A c) (zu r FA fc TA tc)) ((X3 w (zf m A c) (zu r FA fc TA tc)).drew.alloc (.cells #[.string m.name,.string m.value] 59)):=HDR.out.alloc HDR.out.size _
  have hX1:Below w.heap.size w ((X3 w (zf m A c) (zu r FA fc TA tc)).drew.alloc (.cells #[.string m.name,.string m.value] 59)):=(zae w (zf m A c) (zu r FA fc TA tc)).trans (hb1.mono (zae w (zf m A c) (zu r FA fc TA tc)).size);have hDW:∀k,D k→k<(X3 w (zf m A c) (zu r FA fc TA tc)).drew.heap.size:=fun k hd=>Nat.lt_of_lt_of_le (HL.out k hd) (zae w (zf m A c) (zu r FA fc TA tc)).size
  go_simp
  refine hK.out _ _ (.inr (HSC.out _ (zb.of hb1))) (fun _=>nm ?_);clear hK K;refine zc 3 (h:=fun K hK=>?_)
  go_simp
  go_at_call 59
  refine (HC.out _ hX1).mono ?_;rintro e w2 ⟨y,A1,c1,rfl,hrow,hfit,hTT,hk⟩;obtain ⟨ys,yr,yf,yb⟩:=y;have hk0:zb D (X3 w (zf m A c) (zu r FA fc TA tc)) w2:=zb.ahead hb1 hk;unfold rsV;dsimp only at hrow hfit ⊢
  (try go_wp2_with fail)
  refine hK.out _ _ (.inr (HSC.out _ hk0)) (fun _=>nm ?_);clear hK K;refine zc 10 (h:=fun K hK=>?_)
  go_simp
  go_at_call 93
  refine (zbV ys yr yb A1 (some ⟨(X3 w (zf m A c) (zu r FA fc TA tc)).drew.heap.size,0,none⟩) c1 1 yf [(m.name,m.value)] _ hrow.row (zlh hDW hk) (Nat.le_trans hfit.many (Nat.le_trans HN.out (by decide))) (by simp)).mono ?_;rintro e w3 ⟨A3,c3,rfl,ho,hb⟩;have hk3:zb D (X3 w (zf m A c) (zu r FA fc TA tc)) w3:=hk0.step hb;have HKZ:=hid (show zb (Btw w ((X3 w (zf m A c) (zu r FA fc TA tc)).drew.alloc (.cells #[.string m.name,.string m.value] 59))) w2 w3 from zb.of hb);have hk4:=hk3
  (try go_wp2_with fail)
  refine hK.out _ _ (.inr (HSC.out _ hk3)) (fun _=>nm ?_);clear hK K;refine zc 11 (h:=fun K hK=>?_);obtain ⟨_,⟨r0,r1,r2,r3⟩,f0,f1,f2,f3⟩:=zh HL.out hk4;have hz2:w.heap.size+1+1<w3.heap.size:=by have:=zbp hk4;omega
  have HO:=hid (zn (b':=((X3 w (zf m A c) (zu r FA fc TA tc)).drew.alloc (.cells #[.string m.name,.string m.value] 59)).heap.size) ho hk.size);have HFT:=hid (zid (m:=m) hfit HM.out);have HTT:=hid hTT;have HK2:=hid hk;clear hfit hTT hk hk0 hk3 hk4 ho hb hrow
  go_simp
  refine hK.out _ _ (.inl (by rfl)) (fun _=>nm ?_);clear hK K;refine zy (by kernel_rfl) ?_ _
  go_wp2
  exact bodyPost_ret (v:=rsV ⟨ys,yr,yf++[(m.name,m.value)],yb⟩ A3 c3) (by simp[results,Tryz.results57,go_sem,rsV,r0,r1,r2,r3]) rfl
   ((zdb (F:=fun y=>{y with fields:=y.fields++[(m.name,m.value)]}) (T:=fun q=>zjK q (fun y=>{y with fields:=zF y.fields m.name}) T) (b:=w.heap.size+1+1) HL.out hX1 (by omega) (by show _<((X3 w (zf m A c) (zu r FA fc TA tc)).drew.alloc (.cells #[.string m.name,.string m.value] 59)).heap.size;rw[World.size_alloc];show _<(X3 w (zf m A c) (zu r FA fc TA tc)).heap.size+1;rw[zaA];omega) HTT.out HK2.out HKZ.out HO.out rfl HFT.out _ _ _ _).imp (Nat.le_refl _) fun _ _ _ h=>zn3 h)
theorem zwW {m:zY} (hk:m.kind=1):zjN m 56:=by
 refine ⟨fun args w=>Tryz.call56 args w,fun D Pre n0 N T f w r A c FA fc TA tc hE hP hX hn0 _ hN _ _ hF hT hm hr=>?_⟩;refine (zvG D Pre n0 N T f w m r A c FA fc TA tc hE hP hX hn0 hN hF hT hm hr).mono fun e w' h=>h.imp (Nat.le_refl _) fun x A c h=>zbc (zh1 (.inl hk)) ?_
 rw[show zB m r=fun y=>{y with fields:=y.fields++[(m.name,m.value)]} from funext fun y=>zad y hk];exact h
theorem zwT {m:zY} (hk:m.kind=2):zjN m 57:=by
 refine ⟨fun args w=>Tryz.call57 args w,fun D Pre n0 N T f w r A c FA fc TA tc hE hP hX hn0 _ hN _ _ hF hT hm hr=>?_⟩;refine (zvf D Pre n0 N T f w m r A c FA fc TA tc hE hP hX hn0 hN hF hT hm hr).mono fun e w' h=>h.imp (Nat.le_refl _) fun x A c h=>zbc (zh1 (.inr (.inl hk))) ?_
 rw[show zB m r=fun y=>{y with fields:=zF y.fields m.name++[(m.name,m.value)]} from funext fun y=>zu4 y hk];exact h
theorem zre {m:zY} {r:Rq} (h:m.kind=9):zB m r=fun y=>if zcn r y=true then {y with fields:=y.fields++[(zbd,m.value)]} else y:=by
 funext y
 unfold zB;rw[if_neg (by omega),if_neg (by omega),if_neg (by omega),if_neg (by omega),if_pos h]
theorem zkH (l:List Fl) (name:ByteArray):(zgn l name).2=!decide (za9 l name=[]):=by
 unfold zgn
 cases h:za9 l name with
 |nil=>simp
 |cons v vs=>simp
theorem zi0 (s t:ByteArray):(s.toList==t.data.toList)=decide (s=t):=by
 rw[Bool.eq_iff_iff,beq_iff_eq,decide_eq_true_eq]
 constructor
 ·intro h
  exact zV (by rw[←Lib.toList_data];exact h)
 ·intro h
  rw[h,Lib.toList_data]
theorem zjB (r:Rq) (y:Rs):zcn r y=(!(zgn y.fields zbd).2&&((!(y.status !=200)||!(y.status !=304))&&((r.method.toList==[71,69,84])||(r.method.toList==[72,69,65,68])))):=by
 have h1:=zi0 r.method zwF;have h2:=zi0 r.method ztP;rw[show zwF.data.toList=[71,69,84] from rfl] at h1;rw[show ztP.data.toList=[72,69,65,68] from rfl] at h2;unfold zcn;have e1:(y.status !=(200:Int))=!decide (y.status=200):=by rw[bne];congr 1
 have e2:(y.status !=(304:Int))=!decide (y.status=304):=by rw[bne];congr 1
 rw[h1,h2,e1,e2,zkH];simp
set_option maxRecDepth 20000 in
set_option maxHeartbeats 8000000 in
theorem ztZ {m:zY} (hkd:m.kind=9):zjN m 73:=by
 refine ⟨fun args w=>Tryz.call73 args w,fun D Pre n0 N T f w r A c FA fc TA tc hE hP hX hn0 hN8 hN hA hcap hF hT hm hr=>?_⟩;obtain ⟨g,lb,rfl,he,hc⟩:=hX;have HC:=hid (zdH fc tc hE hP hc hF hT hr);have HL:=hid hE.low;have HN0:=hid hn0;have HN:=hid hN;have HV:=hid hm.valueL;have HAI:=hid (zh1 (r:=r) (.inr (.inr (.inr hkd))));have HBI:=hid (zre (r:=r) hkd);have HCK:=hid (fun y=>zjB r y);have hX0:=Below.refl (X3 w (zf m A c) (zu r FA fc TA tc)).heap.size (X3 w (zf m A c) (zu r FA fc TA tc));clear hc hE hP hn0 hN8 hN hA hcap hF hT hm hr hkd;unfold zL rqV
 go_enter Tryz.func73,Tryz.ntmps73
 go_wp2_with fail
 refine (HC.out (X3 w (zf m A c) (zu r FA fc TA tc)) (zl hX0)).mono ?_;rintro e w2 ⟨y,A1,c1,rfl,hrow,hfit,hTT,hk⟩;obtain ⟨⟨⟨m0,m1,m2,m3,m4⟩,a0,a1,a2,a3,a4,a5,a6⟩,⟨r0,r1,r2,r3⟩,f0,f1,f2,f3⟩:=zh HL.out hk;have hz:=zbp hk;have hz2:w.heap.size+1+1<w2.heap.size:=by omega
 have hz1:w.heap.size+1<w2.heap.size:=by omega
 have hz0:w.heap.size<w2.heap.size:=by omega
 have HFD:=hid (fun o=>zuo A1 c1 y.fields zbd (w2.alloc o) (hrow.row.alloc o) (Nat.le_trans hfit.many (Nat.le_trans HN.out (by decide))) hfit.wide zdz);have HCY:=hid (HCK.out y);generalize (zgn y.fields zbd).1=fv at *;generalize hth:(zgn y.fields zbd).2=th at *;generalize hck:zcn r y=ck at *;have HCK2:=hid hck;clear hth hck HCK HC hz;obtain ⟨ys,yr,yf,yb⟩:=y;unfold rsV;dsimp only at hrow hfit HFD HCY ⊢;unfold zbd at HFD
 go_wp2_with fail
 refine (HFD.out _).mono ?_;rintro e w3 ⟨rfl,hb⟩;have hb1:Below (w2.heap.size+1) (w2.alloc (.cells #[.int .i64 ys,.string yr,.slice A1 yf.length c1,.string yb] 29)) w3:=by simpa using hb
 obtain ⟨c0,_⟩:=zH hb1 0;obtain ⟨c1',_⟩:=zH hb1 1;obtain ⟨c2',_⟩:=zH hb1 2;obtain ⟨c3,_⟩:=zH hb1 3;have hz3:w2.heap.size<w3.heap.size:=zas hb1;obtain ⟨q0,p0⟩:=zd0 hb1 (p:=⟨w.heap.size+1+1,0,none⟩) hz2;obtain ⟨q1,p1⟩:=zd0 hb1 (p:=⟨w.heap.size+1+1,1,none⟩) hz2;obtain ⟨q2,p2⟩:=zd0 hb1 (p:=⟨w.heap.size+1+1,2,none⟩) hz2;obtain ⟨q3,p3⟩:=zd0 hb1 (p:=⟨w.heap.size+1+1,3,none⟩) hz2;rw[r0] at q0;rw[r1] at q1;rw[r2] at q2;rw[r3] at q3;rw[f0] at p0;rw[f1] at p1;rw[f2] at p2;rw[f3] at p3;have n2:=(zd0 hb1 (p:=⟨w.heap.size,2,none⟩) hz0).1;rw[m2] at n2;have e0:=(zd0 hb1 (p:=⟨w.heap.size+1,0,none⟩) hz1).1;rw[a0] at e0;have hz4:w.heap.size+1+1<w3.heap.size:=by omega
 have hz5:w.heap.size<w3.heap.size:=by omega
 have hz6:w.heap.size+1<w3.heap.size:=by omega
 have HB:=hid (zw hb1);have HTT:=hid hTT;have HK2:=hid hk;have HFIT:=hid hfit;have HROW:=hid hrow;clear hb hb1 r0 r1 r2 r3 f0 f1 f2 f3 m0 m1 m2 m3 m4 a0 a1 a2 a3 a4 a5 a6 hrow hfit hTT hk hz0 hz1 hz2 HFD;obtain ⟨ba,h1⟩:∃b,(ys !=200)=b:=⟨_,rfl⟩;obtain ⟨bb,h2⟩:∃b,(ys !=304)=b:=⟨_,rfl⟩;obtain ⟨bc,h3⟩:∃b,(r.method.toList==[71,69,84])=b:=⟨_,rfl⟩;obtain ⟨bd,h4⟩:∃b,(r.method.toList==[72,69,65,68])=b:=⟨_,rfl⟩;rw[h1,h2,h3,h4] at HCY
 cases th
 ·cases ba
  ·cases bc
   ·cases bd
    ·skip
     have HCF:=hid (show ck=false by have h:=HCY.out;simpa using h);clear HCY
     go_wp2
     exact bodyPost_ret (v:=rsV ⟨ys,yr,yf,yb⟩ A1 c1) (by simp[results,Tryz.results73,go_sem,rsV,q0,q1,q2,q3]) rfl ((zfT (y:=⟨ys,yr,yf,yb⟩) (F:=zB m r) (b:=w.heap.size+1+1) (M:=N+2) HN0.out (zl hX0) (by omega) (zS hX0) HROW.out HFIT.out (by omega) HTT.out HK2.out (zb.of HB.out) (by rw[HBI.out];show (if zcn r ⟨ys,yr,yf,yb⟩=true then _ else _)=_;rw[HCK2.out,HCF.out];rfl) _ _ _ _).imp (Nat.le_refl _) fun _ _ _ h=>zbc HAI.out h)
    ·skip
     have HCF:=hid (show ck=true by have h:=HCY.out;simpa using h);clear HCY
     go_wp2_with fail
     have hb7:Below w2.heap.size w2 (w3.alloc (.cells #[.string ⟨#[67,97,99,104,101,45,67,111,110,116,114,111,108]⟩,.string m.value] 59)):=HB.out.alloc HB.out.size _;refine (zbV ys yr yb A1 (some ⟨w3.heap.size,0,none⟩) c1 1 yf [(⟨#[67,97,99,104,101,45,67,111,110,116,114,111,108]⟩,m.value)] _ (HROW.out.row.below hb7) (zaV w3 _ m.value rfl) (Nat.le_trans HFIT.out.many (Nat.le_trans HN.out (by decide))) (by simp)).mono ?_;rintro e w4 ⟨A3,c3',rfl,ho,hb⟩;have hb8:=hb7.trans (hb.mono hb7.size);obtain ⟨_,⟨r0,r1,r2,r3⟩,f0,f1,f2,f3⟩:=zh HL.out (HK2.out.step hb8);have hz7:w.heap.size+1+1<w4.heap.size:=by have:=zbp (HK2.out.step hb8);omega
     have HKZ:=hid (show zb (Btw w (X3 w (zf m A c) (zu r FA fc TA tc))) w2 w4 from zb.of hb8);have HO:=hid (zn (b':=(X3 w (zf m A c) (zu r FA fc TA tc)).heap.size) ho (Nat.le_trans HK2.out.size hb7.size));clear ho hb hb7 hb8 q0 q1 q2 q3 p0 p1 p2 p3 c0 c1' c2' c3 n2 e0
     go_wp2
     exact bodyPost_ret (v:=rsV ⟨ys,yr,yf++[(zbd,m.value)],yb⟩ A3 c3') (by simp[results,Tryz.results73,go_sem,rsV,r0,r1,r2,r3]) rfl ((zdb (x:=⟨ys,yr,yf++[(zbd,m.value)],yb⟩) (F:=zB m r) (M:=N+2) (b:=w.heap.size+1+1) HL.out (zl hX0) (by omega) (zS hX0) HTT.out HK2.out HKZ.out HO.out (by rw[HBI.out];show _=(if zcn r ⟨ys,yr,yf,yb⟩=true then _ else _);rw[HCK2.out,HCF.out];rfl) ⟨by show (yf++[(zbd,m.value)]).length≤_;have:=HFIT.out.many;rw[List.length_append];simp;exact Nat.le_succ_of_le this,zan HFIT.out.wide (zah zdz HV.out zR)⟩ _ _ _ _).imp (Nat.le_refl _) fun _ _ _ h=>zbc HAI.out h)
   ·skip
    have HCF:=hid (show ck=true by have h:=HCY.out;simpa using h);clear HCY
    go_wp2_with fail
    have hb7:Below w2.heap.size w2 (w3.alloc (.cells #[.string ⟨#[67,97,99,104,101,45,67,111,110,116,114,111,108]⟩,.string m.value] 59)):=HB.out.alloc HB.out.size _;refine (zbV ys yr yb A1 (some ⟨w3.heap.size,0,none⟩) c1 1 yf [(⟨#[67,97,99,104,101,45,67,111,110,116,114,111,108]⟩,m.value)] _ (HROW.out.row.below hb7) (zaV w3 _ m.value rfl) (Nat.le_trans HFIT.out.many (Nat.le_trans HN.out (by decide))) (by simp)).mono ?_;rintro e w4 ⟨A3,c3',rfl,ho,hb⟩;have hb8:=hb7.trans (hb.mono hb7.size);obtain ⟨_,⟨r0,r1,r2,r3⟩,f0,f1,f2,f3⟩:=zh HL.out (HK2.out.step hb8);have hz7:w.heap.size+1+1<w4.heap.size:=by have:=zbp (HK2.out.step hb8);omega
    have HKZ:=hid (show zb (Btw w (X3 w (zf m A c) (zu r FA fc TA tc))) w2 w4 from zb.of hb8);have HO:=hid (zn (b':=(X3 w (zf m A c) (zu r FA fc TA tc)).heap.size) ho (Nat.le_trans HK2.out.size hb7.size));clear ho hb hb7 hb8 q0 q1 q2 q3 p0 p1 p2 p3 c0 c1' c2' c3 n2 e0
    go_wp2
    exact bodyPost_ret (v:=rsV ⟨ys,yr,yf++[(zbd,m.value)],yb⟩ A3 c3') (by simp[results,Tryz.results73,go_sem,rsV,r0,r1,r2,r3]) rfl ((zdb (x:=⟨ys,yr,yf++[(zbd,m.value)],yb⟩) (F:=zB m r) (M:=N+2) (b:=w.heap.size+1+1) HL.out (zl hX0) (by omega) (zS hX0) HTT.out HK2.out HKZ.out HO.out (by rw[HBI.out];show _=(if zcn r ⟨ys,yr,yf,yb⟩=true then _ else _);rw[HCK2.out,HCF.out];rfl) ⟨by show (yf++[(zbd,m.value)]).length≤_;have:=HFIT.out.many;rw[List.length_append];simp;exact Nat.le_succ_of_le this,zan HFIT.out.wide (zah zdz HV.out zR)⟩ _ _ _ _).imp (Nat.le_refl _) fun _ _ _ h=>zbc HAI.out h)
  ·cases bb
   ·cases bc
    ·cases bd
     ·skip
      have HCF:=hid (show ck=false by have h:=HCY.out;simpa using h);clear HCY
      go_wp2
      exact bodyPost_ret (v:=rsV ⟨ys,yr,yf,yb⟩ A1 c1) (by simp[results,Tryz.results73,go_sem,rsV,q0,q1,q2,q3]) rfl ((zfT (y:=⟨ys,yr,yf,yb⟩) (F:=zB m r) (b:=w.heap.size+1+1) (M:=N+2) HN0.out (zl hX0) (by omega) (zS hX0) HROW.out HFIT.out (by omega) HTT.out HK2.out (zb.of HB.out) (by rw[HBI.out];show (if zcn r ⟨ys,yr,yf,yb⟩=true then _ else _)=_;rw[HCK2.out,HCF.out];rfl) _ _ _ _).imp (Nat.le_refl _) fun _ _ _ h=>zbc HAI.out h)
     ·skip
      have HCF:=hid (show ck=true by have h:=HCY.out;simpa using h);clear HCY
      go_wp2_with fail
      have hb7:Below w2.heap.size w2 (w3.alloc (.cells #[.string ⟨#[67,97,99,104,101,45,67,111,110,116,114,111,108]⟩,.string m.value] 59)):=HB.out.alloc HB.out.size _;refine (zbV ys yr yb A1 (some ⟨w3.heap.size,0,none⟩) c1 1 yf [(⟨#[67,97,99,104,101,45,67,111,110,116,114,111,108]⟩,m.value)] _ (HROW.out.row.below hb7) (zaV w3 _ m.value rfl) (Nat.le_trans HFIT.out.many (Nat.le_trans HN.out (by decide))) (by simp)).mono ?_;rintro e w4 ⟨A3,c3',rfl,ho,hb⟩;have hb8:=hb7.trans (hb.mono hb7.size);obtain ⟨_,⟨r0,r1,r2,r3⟩,f0,f1,f2,f3⟩:=zh HL.out (HK2.out.step hb8);have hz7:w.heap.size+1+1<w4.heap.size:=by have:=zbp (HK2.out.step hb8);omega
      have HKZ:=hid (show zb (Btw w (X3 w (zf m A c) (zu r FA fc TA tc))) w2 w4 from zb.of hb8);have HO:=hid (zn (b':=(X3 w (zf m A c) (zu r FA fc TA tc)).heap.size) ho (Nat.le_trans HK2.out.size hb7.size));clear ho hb hb7 hb8 q0 q1 q2 q3 p0 p1 p2 p3 c0 c1' c2' c3 n2 e0
      go_wp2
      exact bodyPost_ret (v:=rsV ⟨ys,yr,yf++[(zbd,m.value)],yb⟩ A3 c3') (by simp[results,Tryz.results73,go_sem,rsV,r0,r1,r2,r3]) rfl ((zdb (x:=⟨ys,yr,yf++[(zbd,m.value)],yb⟩) (F:=zB m r) (M:=N+2) (b:=w.heap.size+1+1) HL.out (zl hX0) (by omega) (zS hX0) HTT.out HK2.out HKZ.out HO.out (by rw[HBI.out];show _=(if zcn r ⟨ys,yr,yf,yb⟩=true then _ else _);rw[HCK2.out,HCF.out];rfl) ⟨by show (yf++[(zbd,m.value)]).length≤_;have:=HFIT.out.many;rw[List.length_append];simp;exact Nat.le_succ_of_le this,zan HFIT.out.wide (zah zdz HV.out zR)⟩ _ _ _ _).imp (Nat.le_refl _) fun _ _ _ h=>zbc HAI.out h)
    ·skip
     have HCF:=hid (show ck=true by have h:=HCY.out;simpa using h);clear HCY
     go_wp2_with fail
     have hb7:Below w2.heap.size w2 (w3.alloc (.cells #[.string ⟨#[67,97,99,104,101,45,67,111,110,116,114,111,108]⟩,.string m.value] 59)):=HB.out.alloc HB.out.size _;refine (zbV ys yr yb A1 (some ⟨w3.heap.size,0,none⟩) c1 1 yf [(⟨#[67,97,99,104,101,45,67,111,110,116,114,111,108]⟩,m.value)] _ (HROW.out.row.below hb7) (zaV w3 _ m.value rfl) (Nat.le_trans HFIT.out.many (Nat.le_trans HN.out (by decide))) (by simp)).mono ?_;rintro e w4 ⟨A3,c3',rfl,ho,hb⟩;have hb8:=hb7.trans (hb.mono hb7.size);obtain ⟨_,⟨r0,r1,r2,r3⟩,f0,f1,f2,f3⟩:=zh HL.out (HK2.out.step hb8);have hz7:w.heap.size+1+1<w4.heap.size:=by have:=zbp (HK2.out.step hb8);omega
     have HKZ:=hid (show zb (Btw w (X3 w (zf m A c) (zu r FA fc TA tc))) w2 w4 from zb.of hb8);have HO:=hid (zn (b':=(X3 w (zf m A c) (zu r FA fc TA tc)).heap.size) ho (Nat.le_trans HK2.out.size hb7.size));clear ho hb hb7 hb8 q0 q1 q2 q3 p0 p1 p2 p3 c0 c1' c2' c3 n2 e0
     go_wp2
     exact bodyPost_ret (v:=rsV ⟨ys,yr,yf++[(zbd,m.value)],yb⟩ A3 c3') (by simp[results,Tryz.results73,go_sem,rsV,r0,r1,r2,r3]) rfl ((zdb (x:=⟨ys,yr,yf++[(zbd,m.value)],yb⟩) (F:=zB m r) (M:=N+2) (b:=w.heap.size+1+1) HL.out (zl hX0) (by omega) (zS hX0) HTT.out HK2.out HKZ.out HO.out (by rw[HBI.out];show _=(if zcn r ⟨ys,yr,yf,yb⟩=true then _ else _);rw[HCK2.out,HCF.out];rfl) ⟨by show (yf++[(zbd,m.value)]).length≤_;have:=HFIT.out.many;rw[List.length_append];simp;exact Nat.le_succ_of_le this,zan HFIT.out.wide (zah zdz HV.out zR)⟩ _ _ _ _).imp (Nat.le_refl _) fun _ _ _ h=>zbc HAI.out h)
   ·skip
    have HCF:=hid (show ck=false by have h:=HCY.out;simpa using h);clear HCY
    go_wp2
    exact bodyPost_ret (v:=rsV ⟨ys,yr,yf,yb⟩ A1 c1) (by simp[results,Tryz.results73,go_sem,rsV,q0,q1,q2,q3]) rfl ((zfT (y:=⟨ys,yr,yf,yb⟩) (F:=zB m r) (b:=w.heap.size+1+1) (M:=N+2) HN0.out (zl hX0) (by omega) (zS hX0) HROW.out HFIT.out (by omega) HTT.out HK2.out (zb.of HB.out) (by rw[HBI.out];show (if zcn r ⟨ys,yr,yf,yb⟩=true then _ else _)=_;rw[HCK2.out,HCF.out];rfl) _ _ _ _).imp (Nat.le_refl _) fun _ _ _ h=>zbc HAI.out h)
 ·skip
  have HCF:=hid (show ck=false by have h:=HCY.out;simpa using h);clear HCY
  go_wp2
  exact bodyPost_ret (v:=rsV ⟨ys,yr,yf,yb⟩ A1 c1) (by simp[results,Tryz.results73,go_sem,rsV,q0,q1,q2,q3]) rfl ((zfT (y:=⟨ys,yr,yf,yb⟩) (F:=zB m r) (b:=w.heap.size+1+1) (M:=N+2) HN0.out (zl hX0) (by omega) (zS hX0) HROW.out HFIT.out (by omega) HTT.out HK2.out (zb.of HB.out) (by rw[HBI.out];show (if zcn r ⟨ys,yr,yf,yb⟩=true then _ else _)=_;rw[HCK2.out,HCF.out];rfl) _ _ _ _).imp (Nat.le_refl _) fun _ _ _ h=>zbc HAI.out h)
end Go.Proofs.YtbnafbdhomdcoaaGreatDoor
