/-
  CkFz, CkM0, CkN0, CkQ0, without what the claim does not reach.
-/
import Derived.Test.YtbnafbdhomdcoaaGreatDoorZm11
import Derived.Test.YtbnafbdhomdcoaaGreatDoorZm12
import Derived.Test.YtbnafbdhomdcoaaGreatDoorZCkI
import Derived.Test.YtbnafbdhomdcoaaGreatDoorZm7
import Derived.Test.YtbnafbdhomdcoaaGreatDoorZCjDh
namespace Go.Proofs.YtbnafbdhomdcoaaGreatDoor
open Go.RowKit Go.Shelf Go.Lib
theorem za8 (m:zY) (A:Option Addr) (c:Nat) (w:World) (hr:Row w A (m.list.map .string)) (hc:m.list.length≤c) (hm:zaY m):
  Calls Tryz.prog 40 #[zL m A c] w fun e w'=>e= .returned (.int .i64 (zaq (zr m)))∧Below w.heap.size w w':=by
 cases hk:zcz m.kind
 ·exact zpd m A c w hk hr hc hm
 ·rcases zpb hk with h|h|h|h|h|h|h|h|h|h
  ·exact zoF m A c w h hr hc hm
  ·exact zof m A c w h hr hc hm
  ·exact zoR m A c w h hr hc hm
  ·exact znR m A c w h hr hc hm
  ·exact zpu m A c w h hr hc hm
  ·exact znL m A c w h hr hc hm
  ·exact zov m A c w h hr hc hm
  ·exact zon m A c w h hr hc hm
  ·exact zoH m A c w h hr hc hm
  ·exact zm8 m A c w h hr hc hm
def A5 (w:World) (a b:Array Value):World:=Bx w [.cells a 65,.cells b 44,.cells zhI 44,.cells zei 39,.cells zei 39]
theorem zem (w:World) (a b:Array Value):((((w.alloc (.cells a 65)).alloc (.cells b 44)).alloc (.cells #[.string ⟨#[]⟩,.string ⟨#[]⟩,.int .i64 0,.int .i64 0,.slice none 0 0,.string ⟨#[]⟩,.slice none 0 0] 44)).alloc (.cells #[.int .i64 0,.string ⟨#[]⟩,.slice none 0 0,.string ⟨#[]⟩] 39)).alloc (.cells #[.int .i64 0,.string ⟨#[]⟩,.slice none 0 0,.string ⟨#[]⟩] 39)=A5 w a b:=rfl
theorem zfe (w:World) (a b:Array Value):(A5 w a b).heap.size=w.heap.size+5:=zfZ w _
theorem z8 (w:World) (a b:Array Value):Below w.heap.size w (A5 w a b):=zd4 w _
section
variable {E:Nat→Prop} {w W:World} {m:zY} {A:Option Addr} {c:Nat} {r:Rq} {FA TA:Option Addr} {fc tc:Nat}
theorem zaL (h:zb E (A5 w (zf m A c) (zu r FA fc TA tc)) W) (hE:¬E w.heap.size):ziP W w.heap.size m A c:=
 ⟨(zg (i:=0) h rfl hE 0).1,(zg (i:=0) h rfl hE 1).1,(zg (i:=0) h rfl hE 2).1,(zg (i:=0) h rfl hE 3).1,(zg (i:=0) h rfl hE 4).1⟩
theorem zac (h:zb E (A5 w (zf m A c) (zu r FA fc TA tc)) W) (hE:¬E (w.heap.size+1)):zh5 W (w.heap.size+1) r FA fc TA tc:=
 ⟨(zg (i:=1) h rfl hE 0).1,(zg (i:=1) h rfl hE 1).1,(zg (i:=1) h rfl hE 2).1,(zg (i:=1) h rfl hE 3).1,(zg (i:=1) h rfl hE 4).1,(zg (i:=1) h rfl hE 5).1,(zg (i:=1) h rfl hE 6).1⟩
theorem zcK (h:zb E (A5 w (zf m A c) (zu r FA fc TA tc)) W) (hE:¬E (w.heap.size+1+1)):znk W (w.heap.size+1+1):=
 ⟨⟨(zg (i:=2) h rfl hE 0).1,(zg (i:=2) h rfl hE 1).1,(zg (i:=2) h rfl hE 2).1,(zg (i:=2) h rfl hE 3).1,(zg (i:=2) h rfl hE 4).1,(zg (i:=2) h rfl hE 5).1,(zg (i:=2) h rfl hE 6).1⟩,
  (zg (i:=2) h rfl hE 0).2,(zg (i:=2) h rfl hE 1).2,(zg (i:=2) h rfl hE 2).2,(zg (i:=2) h rfl hE 3).2,(zg (i:=2) h rfl hE 4).2,(zg (i:=2) h rfl hE 5).2,(zg (i:=2) h rfl hE 6).2⟩
theorem zcJ (h:zb E (A5 w (zf m A c) (zu r FA fc TA tc)) W) (hE:¬E (w.heap.size+1+1+1)):zic W (w.heap.size+1+1+1):=
 ⟨⟨(zg (i:=3) h rfl hE 0).1,(zg (i:=3) h rfl hE 1).1,(zg (i:=3) h rfl hE 2).1,(zg (i:=3) h rfl hE 3).1⟩,
  (zg (i:=3) h rfl hE 0).2,(zg (i:=3) h rfl hE 1).2,(zg (i:=3) h rfl hE 2).2,(zg (i:=3) h rfl hE 3).2⟩
theorem zge (h:zb E (A5 w (zf m A c) (zu r FA fc TA tc)) W) (hE:¬E (w.heap.size+1+1+1+1)):zhZ W (w.heap.size+1+1+1+1) (.int .i64 0) (.string ⟨#[]⟩) (.slice none 0 0) (.string ⟨#[]⟩):=
 ⟨(zg (i:=4) h rfl hE 0).1,(zg (i:=4) h rfl hE 1).1,(zg (i:=4) h rfl hE 2).1,(zg (i:=4) h rfl hE 3).1⟩
end
def rqP (w:World) (b:Nat) (r:Rq) (FA:Option Addr) (fc:Nat) (TA:Option Addr) (tc:Nat):World:=zeY w b (.string r.method) (.string r.target) (.int .i64 r.major) (.int .i64 r.minor) (.slice FA r.fields.length fc) (.string r.body) (.slice TA r.trailers.length tc)
theorem zbG {D:Nat→Prop} {base cur:World} {b4 b5:Nat} {r:Rq} {FA TA:Option Addr} {fc tc:Nat} (hB:zb D base cur) (h4:znk cur b4) (h5:zic cur b5) (d4:D b4) (d5:D b5) (hne:b4≠b5) (l4:b4<cur.heap.size) (l5:b5<cur.heap.size) (v0 v1 v2 v3:Value):
  zb D base (rqP cur b4 r FA fc TA tc)∧zic (rqP cur b4 r FA fc TA tc) b5∧zb (fun k=>k=b4∨k=b5) cur (zal (rqP cur b4 r FA fc TA tc) b5 v0 v1 v2 v3)∧zb D base (zal (rqP cur b4 r FA fc TA tc) b5 v0 v1 v2 v3)∧
   zh5 (zal (rqP cur b4 r FA fc TA tc) b5 v0 v1 v2 v3) b4 r FA fc TA tc∧zhZ (zal (rqP cur b4 r FA fc TA tc) b5 v0 v1 v2 v3) b5 v0 v1 v2 v3:=by
 have k1:zb (fun k=>k=b4) cur (rqP cur b4 r FA fc TA tc):=zbA (E:=fun k=>k=b4) cur rfl _ _ _ _ _ _ _;have k2:=z7 (E:=fun k=>k=b5) (rqP cur b4 r FA fc TA tc) rfl v0 v1 v2 v3;have z1:(rqP cur b4 r FA fc TA tc).heap.size=cur.heap.size:=zi4 _ _ _ _ _ _ _ _ _;have h6:=h5.keep k1 l5 (fun h=>hne h.symm);have k3:=hB.trans (k1.wider (fun k _ h=>h▸d4));refine ⟨k3,h6,(k1.wider (fun k _ h=>.inl h)).trans (k2.wider (fun k _ h=>.inr h)),k3.trans (k2.wider (fun k _ h=>h▸d5)),?_,h6.put v0 v1 v2 v3⟩;have r1:zh5 (rqP cur b4 r FA fc TA tc) b4 r FA fc TA tc:=h4.put;obtain ⟨a0,a1,a2,a3,a4,a5,a6⟩:=r1;have hb:b4<(rqP cur b4 r FA fc TA tc).heap.size:=by rw[z1];exact l4
 exact ⟨(k2.cell (p:=⟨b4,0,none⟩) hb hne).trans a0,(k2.cell (p:=⟨b4,1,none⟩) hb hne).trans a1,(k2.cell (p:=⟨b4,2,none⟩) hb hne).trans a2,(k2.cell (p:=⟨b4,3,none⟩) hb hne).trans a3,(k2.cell (p:=⟨b4,4,none⟩) hb hne).trans a4,(k2.cell (p:=⟨b4,5,none⟩) hb hne).trans a5,(k2.cell (p:=⟨b4,6,none⟩) hb hne).trans a6⟩
theorem zq2 {m:zY} (r:Rq) (h:m.kind=1∨m.kind=2∨m.kind=3∨m.kind=9):zx m r= .inl r:=by
 unfold zx;rw[if_neg (by omega),if_neg (by omega),if_neg (by omega),if_neg (by omega),if_neg (by omega),if_neg (by omega)]
theorem zsa {m:zY} {r:Rq} (hv:zaZ m.value=true):zhN m r=if zb9 m.value r.method r.target=true then .inl {r with target:=zdX m.value r.method r.target} else .inr (zT 404 []):=by
 unfold zhN;rw[zrO hv]
 by_cases h:zb9 m.value r.method r.target=true
 ·rw[if_pos h,if_pos h,zom hv h]
 ·rw[if_neg h,if_neg h]
theorem zb.stepL {D:Nat→Prop} {w w1 w2:World} (h:zb D w w1) (hb:Below w.heap.size w1 w2):zb D w w2:=
 ⟨hb.os.trans h.os,hb.tape.trans h.tape,hb.output.trans h.output,Nat.le_trans h.size hb.size,fun k hk hn=>(hb.block k hk).trans (h.block k hk hn)⟩
theorem zb.ofB {n:Nat} {w w':World} (hb:Below n w w'):zb (fun k=>n≤k) w w':=⟨hb.os,hb.tape,hb.output,hb.size,fun k _ hn=>hb.block k (by omega)⟩
theorem zty (l:List ByteArray):(l.map (·.size)).sum≤(l.map fun s=>s.size+1).sum:=by
 induction l with
 |nil=>exact Nat.le_refl _
 |cons x l ih=>simp only[List.map_cons,List.sum_cons];omega
structure zgs (w:World) (m:zY) (A:Option Addr) (c:Nat) (r:Rq) (FA:Option Addr):Prop where
 list:Row w A (m.list.map .string)
 cap:m.list.length≤c
 fields:Row w FA (zj r.fields)
 req:zcO r
 mid:zaY m
def rsC (x:Rs) (A:Option Addr) (c:Nat):Array Value:=#[.int .i64 x.status,.string x.reason,.slice A x.fields.length c,.string x.body]
def B4 (w:World) (a b d:Array Value):World:=Bx w [.cells a 65,.cells b 44,.cells d 39,.cells zei 39]
theorem zkO (w:World) (a b d:Array Value):(((w.alloc (.cells a 65)).alloc (.cells b 44)).alloc (.cells d 39)).alloc (.cells #[.int .i64 0,.string ⟨#[]⟩,.slice none 0 0,.string ⟨#[]⟩] 39)=B4 w a b d:=rfl
theorem zf0 (w:World) (a b d:Array Value):(B4 w a b d).heap.size=w.heap.size+4:=zfZ w _
theorem zca (w:World) (a b d:Array Value):Below w.heap.size w (B4 w a b d):=zd4 w _
section
variable {E:Nat→Prop} {w W:World} {m:zY} {A:Option Addr} {c:Nat} {r:Rq} {FA TA XA:Option Addr} {fc tc xc:Nat} {x:Rs}
theorem zb4 (h:zb E (B4 w (zf m A c) (zu r FA fc TA tc) (rsC x XA xc)) W) (hE:¬E w.heap.size):ziP W w.heap.size m A c:=
 ⟨(zg (i:=0) h rfl hE 0).1,(zg (i:=0) h rfl hE 1).1,(zg (i:=0) h rfl hE 2).1,(zg (i:=0) h rfl hE 3).1,(zg (i:=0) h rfl hE 4).1⟩
theorem zcL (h:zb E (B4 w (zf m A c) (zu r FA fc TA tc) (rsC x XA xc)) W) (hE:¬E (w.heap.size+1)):zh5 W (w.heap.size+1) r FA fc TA tc:=
 ⟨(zg (i:=1) h rfl hE 0).1,(zg (i:=1) h rfl hE 1).1,(zg (i:=1) h rfl hE 2).1,(zg (i:=1) h rfl hE 3).1,(zg (i:=1) h rfl hE 4).1,(zg (i:=1) h rfl hE 5).1,(zg (i:=1) h rfl hE 6).1⟩
theorem zbs (h:zb E (B4 w (zf m A c) (zu r FA fc TA tc) (rsC x XA xc)) W) (hE:¬E (w.heap.size+1+1)):
  zhZ W (w.heap.size+1+1) (.int .i64 x.status) (.string x.reason) (.slice XA x.fields.length xc) (.string x.body)∧W.frozen? ⟨w.heap.size+1+1,2,none⟩=false:=
 ⟨⟨(zg (i:=2) h rfl hE 0).1,(zg (i:=2) h rfl hE 1).1,(zg (i:=2) h rfl hE 2).1,(zg (i:=2) h rfl hE 3).1⟩,(zg (i:=2) h rfl hE 2).2⟩
theorem zcs (h:zb E (B4 w (zf m A c) (zu r FA fc TA tc) (rsC x XA xc)) W) (hE:¬E (w.heap.size+1+1+1)):zic W (w.heap.size+1+1+1):=
 ⟨⟨(zg (i:=3) h rfl hE 0).1,(zg (i:=3) h rfl hE 1).1,(zg (i:=3) h rfl hE 2).1,(zg (i:=3) h rfl hE 3).1⟩,
  (zg (i:=3) h rfl hE 0).2,(zg (i:=3) h rfl hE 1).2,(zg (i:=3) h rfl hE 2).2,(zg (i:=3) h rfl hE 3).2⟩
end
def zep (D:Nat→Prop) (w:World) (x:Rs) (e:Ending) (w':World):Prop:=∃A c,e= .returned (rsV x A c)∧zQ D w' A (zj x.fields)∧Below w.heap.size w w'
set_option maxRecDepth 20000 in
set_option maxHeartbeats 8000000 in
theorem zo9 (m:zY) (A:Option Addr) (c:Nat) (r:Rq) (FA:Option Addr) (fc:Nat) (TA:Option Addr) (tc:Nat) (x:Rs) (XA:Option Addr) (xc:Nat) (w:World) (hcm:zr m=false) (hs:zgs w m A c r FA) (D:Nat→Prop) (hx:zQ D w XA (zj x.fields)):
  Calls Tryz.prog 37 #[zL m A c,rqV r FA fc TA tc,rsV x XA xc] w (zep D w x):=by
 have HCK:=hid (za8 m A c (B4 w (zf m A c) (zu r FA fc TA tc) (rsC x XA xc)) (hs.list.below (zca w _ _ _)) hs.cap hs.mid);rw[hcm] at HCK;have HXB:=hid (zca w (zf m A c) (zu r FA fc TA tc) (rsC x XA xc));have HRX:=hid (fun (W:World) (h:Below w.heap.size w W)=>hx.below h);have HS0:=hid (zf0 w (zf m A c) (zu r FA fc TA tc) (rsC x XA xc));clear hcm hs hx;unfold zL rqV rsV at *
 go_enter Tryz.func37,Tryz.ntmps37
 go_wp2_with fail
 rw[zkO];refine HCK.out.mono ?_;rintro e w1 ⟨rfl,b1⟩;rw[show zaq false=190 from rfl];have HK1:=hid (show zb (fun _=>False) (B4 w (zf m A c) (zu r FA fc TA tc) (rsC x XA xc)) w1 from zb.of b1);have hz1:w.heap.size+4≤w1.heap.size:=by have h:=b1.size;rw[HS0.out] at h;exact h
 clear b1 HCK;have H4:=hid (zcs HK1.out (fun h=>h));obtain ⟨⟨r0,r1,r2,r3⟩,_⟩:=zbs HK1.out (fun h=>h);obtain ⟨⟨p0,p1,p2,p3⟩,z0,z1,z2,z3⟩:=H4.out
 go_wp2
 have HKP:=hid (z7 (E:=fun k=>w.heap.size≤k) w1 (show w.heap.size≤w.heap.size+1+1+1 by omega) (.int .i64 x.status) (.string x.reason) (.slice XA x.fields.length xc) (.string x.body));have HW:=hid (zt HKP.out (fun k h=>h) (zt HK1.out (fun k h=>h.elim) HXB.out));have H5:=hid (H4.out.put (.int .i64 x.status) (.string x.reason) (.slice XA x.fields.length xc) (.string x.body));clear p0 p1 p2 p3 z0 z1 z2 z3 r0 r1 r2 r3;obtain ⟨x0,x1,x2,x3⟩:=H5.out;exact bodyPost_ret (w:=zal w1 (w.heap.size+1+1+1) (.int .i64 x.status) (.string x.reason) (.slice XA x.fields.length xc) (.string x.body)) (v:=rsV x XA xc) (by simp[results,Tryz.results37,go_sem,rsV,x0,x1,x2,x3]) rfl ⟨XA,xc,rfl,HRX.out _ HW.out,HW.out⟩
def zdM (FA:Option Addr) (fc:Nat) (TA:Option Addr) (tc:Nat) (l:List Rq):List Value:=l.flatMap fun r=>(zu r FA fc TA tc).toList
section
variable {FA TA:Option Addr} {fc tc:Nat}
theorem znm (l m:List Rq):zdM FA fc TA tc (l++m)=zdM FA fc TA tc l++zdM FA fc TA tc m:=List.flatMap_append
theorem zmq (r:Rq):zdM FA fc TA tc [r]=(zu r FA fc TA tc).toList:=by simp[zdM]
theorem zpo:∀{l:List Rq} {k:Nat} {x:Rq},l[k]?=some x→∀j,j<7→(zdM FA fc TA tc l)[k*7+j]?=(zu x FA fc TA tc).toList[j]?
 |[],_,_,h,_,_=>by simp at h
 |y::l,0,x,h,j,hj=>by
  have e:y=x:=by simpa using h
  subst e;show ((zu y FA fc TA tc).toList++zdM FA fc TA tc l)[0*7+j]?=_;rw[Nat.zero_mul,Nat.zero_add,List.getElem?_append_left (by show j<7;exact hj)]
 |y::l,k+1,x,h,j,hj=>by
  have h':l[k]?=some x:=by simpa using h
  show ((zu y FA fc TA tc).toList++zdM FA fc TA tc l)[(k+1)*7+j]?=_;rw[List.getElem?_append_right (by show 7≤_;omega),show (k+1)*7+j - (zu y FA fc TA tc).toList.length=k*7+j by show (k+1)*7+j - 7=_;omega];exact zpo h' j hj
theorem znq (l:List Rq):(zdM FA fc TA tc l).length=l.length*7:=by
 induction l with
 |nil=>rfl
 |cons y l ih=>
  show ((zu y FA fc TA tc).toList++zdM FA fc TA tc l).length=_;rw[List.length_append,ih,List.length_cons];show 7+_=_
  omega
theorem Row.reqAt {w:World} {B:Option Addr} {l:List Rq} {k:Nat} {x:Rq} (h:Row w B (zdM FA fc TA tc l)) (hx:l[k]?=some x):
  ∃b off,B=some ⟨b,off,none⟩∧b<w.heap.size∧∀j v,(zu x FA fc TA tc).toList[j]?=some v→w.cell? ⟨b,off+k*7+j,none⟩=some v:=by
 have hl:0<(zdM FA fc TA tc l).length:=by
  rw[znq];have:=(List.getElem?_eq_some_iff.1 hx).1
  omega
 obtain ⟨b,off,e,hb,hc⟩:=h hl;refine ⟨b,off,e,hb,fun j v hv=>?_⟩;have hj:j<7:=(List.getElem?_eq_some_iff.1 hv).1;rw[Nat.add_assoc];exact hc _ _ ((zpo hx j hj).trans hv)
end
def zgl (p:Int) (QA:Option Addr) (qn qc:Nat) (o:Rs) (OA:Option Addr) (oc:Nat) (e:Bool):Array Value:=#[.int .i64 p,.slice QA qn qc,.int .i64 o.status,.string o.reason,.slice OA o.fields.length oc,.string o.body,.bool e]
def ze3:Rs:=⟨0,⟨#[]⟩,[],⟨#[]⟩⟩
def Y3 (w:World) (a b:Array Value):World:=Bx w [.cells a 41,.cells b 39,.cells zei 39]
theorem zjQ (w:World) (a b:Array Value):(Y3 w a b).heap.size=w.heap.size+3:=zfZ w _
theorem zoU (w:World) (a b:Array Value):Below w.heap.size w (Y3 w a b):=zd4 w _
structure zj6 (w:World) (a:Array Value) (ls:List Ma) (qs:List Rq) (n:Nat) (x0:Rs) (b0:Array Value) (wr:World) (k:Nat) (y:Rs) (A:Option Addr) (c:Nat):Prop where
 eq:y=ze6 ((ls.map (·.1)).drop k) (qs.drop k) x0
 fit:zbH (8+2*(n - k)) y
 keep:zb (fun b=>b=w.heap.size+1) (Y3 w a b0) wr
 rsp:zhZ wr (w.heap.size+1) (.int .i64 y.status) (.string y.reason) (.slice A y.fields.length c) (.string y.body)
 fr:wr.frozen? ⟨w.heap.size+1,0,none⟩=false∧wr.frozen? ⟨w.heap.size+1,1,none⟩=false∧wr.frozen? ⟨w.heap.size+1,2,none⟩=false∧wr.frozen? ⟨w.heap.size+1,3,none⟩=false
 row:zQ (fun b=>b=w.heap.size+1∨b=w.heap.size+1+1) wr A (zj y.fields)
theorem zfa (w:World) (b:Nat) (v0 v1 v2 v3:Value) (p:Addr):(zal w b v0 v1 v2 v3).frozen? p=w.frozen? p:=by
 unfold zal;rw[World.frozen?_setCell,World.frozen?_setCell,World.frozen?_setCell,World.frozen?_setCell]
def zrc (W:World) (b i:Nat) (m:zY) (A:Option Addr) (c:Nat):Prop:=W.cell? ⟨b,i,none⟩=some (.int .i64 m.kind)∧W.cell? ⟨b,i+1,none⟩=some (.string m.name)∧W.cell? ⟨b,i+2,none⟩=some (.string m.value)∧W.cell? ⟨b,i+3,none⟩=some (.slice A m.list.length c)∧W.cell? ⟨b,i+4,none⟩=some (.int .i64 m.n)
def zri (W:World) (b i:Nat) (r:Rq) (FA:Option Addr) (fc:Nat) (TA:Option Addr) (tc:Nat):Prop:=W.cell? ⟨b,i,none⟩=some (.string r.method)∧W.cell? ⟨b,i+1,none⟩=some (.string r.target)∧W.cell? ⟨b,i+2,none⟩=some (.int .i64 r.major)∧W.cell? ⟨b,i+3,none⟩=some (.int .i64 r.minor)∧
  W.cell? ⟨b,i+4,none⟩=some (.slice FA r.fields.length fc)∧W.cell? ⟨b,i+5,none⟩=some (.string r.body)∧W.cell? ⟨b,i+6,none⟩=some (.slice TA r.trailers.length tc)
theorem zrc.below {n:Nat} {W W':World} {b i:Nat} {m:zY} {A:Option Addr} {c:Nat} (h:zrc W b i m A c) (hb:b<n) (hB:Below n W W'):zrc W' b i m A c:=
 ⟨(hB.cell (p:=⟨b,i,none⟩) hb).trans h.1,(hB.cell (p:=⟨b,i+1,none⟩) hb).trans h.2.1,(hB.cell (p:=⟨b,i+2,none⟩) hb).trans h.2.2.1,(hB.cell (p:=⟨b,i+3,none⟩) hb).trans h.2.2.2.1,(hB.cell (p:=⟨b,i+4,none⟩) hb).trans h.2.2.2.2⟩
theorem zri.below {n:Nat} {W W':World} {b i:Nat} {r:Rq} {FA TA:Option Addr} {fc tc:Nat} (h:zri W b i r FA fc TA tc) (hb:b<n) (hB:Below n W W'):zri W' b i r FA fc TA tc:=by
 obtain ⟨h0,h1,h2,h3,h4,h5,h6⟩:=h;exact ⟨(hB.cell (p:=⟨b,i,none⟩) hb).trans h0,(hB.cell (p:=⟨b,i+1,none⟩) hb).trans h1,(hB.cell (p:=⟨b,i+2,none⟩) hb).trans h2,(hB.cell (p:=⟨b,i+3,none⟩) hb).trans h3,(hB.cell (p:=⟨b,i+4,none⟩) hb).trans h4,(hB.cell (p:=⟨b,i+5,none⟩) hb).trans h5,(hB.cell (p:=⟨b,i+6,none⟩) hb).trans h6⟩
theorem zpQ {W:World} {B:Option Addr} {l:List Ma} {k:Nat} {m:zY} {A:Option Addr} {c:Nat} (h:Row W B (zbU l)) (hx:l[k]?=some (m,A,c)):∃b off,B=some ⟨b,off,none⟩∧b<W.heap.size∧zrc W b (off+k*5) m A c:=by
 obtain ⟨b,off,e,hb,_,hc⟩:=(zQ.of_row h).mid hx;exact ⟨b,off,e,hb,hc 0 _ rfl,hc 1 _ rfl,hc 2 _ rfl,hc 3 _ rfl,hc 4 _ rfl⟩
theorem zwO {W:World} {B:Option Addr} {l:List Rq} {k:Nat} {r:Rq} {FA TA:Option Addr} {fc tc:Nat} (h:Row W B (zdM FA fc TA tc l)) (hx:l[k]?=some r):∃b off,B=some ⟨b,off,none⟩∧b<W.heap.size∧zri W b (off+k*7) r FA fc TA tc:=by
 obtain ⟨b,off,e,hb,hc⟩:=h.reqAt hx;exact ⟨b,off,e,hb,hc 0 _ rfl,hc 1 _ rfl,hc 2 _ rfl,hc 3 _ rfl,hc 4 _ rfl,hc 5 _ rfl,hc 6 _ rfl⟩
theorem znP (w:World) (a:Array Value) (x:Rs) (XA:Option Addr) (xc:Nat) (j:Nat):(Y3 w a (rsC x XA xc)).cell? ⟨w.heap.size+1,j,none⟩=(rsC x XA xc)[j]?∧(Y3 w a (rsC x XA xc)).frozen? ⟨w.heap.size+1,j,none⟩=false:=
 zhz w [.cells a 41,.cells (rsC x XA xc) 39,.cells zei 39] (i:=1) rfl j
theorem zj6.start {w:World} {a:Array Value} {ls:List Ma} {qs:List Rq} {n:Nat} {x:Rs} {XA:Option Addr} {xc:Nat} (hqn:qs.length=n+1) (hfx:zbH 8 x) (hx:Row w XA (zj x.fields)):zj6 w a ls qs n x (rsC x XA xc) (Y3 w a (rsC x XA xc)) n x XA xc where
 eq:=(zrM hqn x).symm
 fit:=hfx.more (by omega)
 keep:=zb.refl _ _
 rsp:=⟨(znP w a x XA xc 0).1,(znP w a x XA xc 1).1,(znP w a x XA xc 2).1,(znP w a x XA xc 3).1⟩
 fr:=⟨(znP w a x XA xc 0).2,(znP w a x XA xc 1).2,(znP w a x XA xc 2).2,(znP w a x XA xc 3).2⟩
 row:=fun hl=>by
  obtain ⟨b,off,e,hb,hc⟩:=hx hl;have hB:=zoU w a (rsC x XA xc);exact ⟨b,off,e,Nat.lt_of_lt_of_le hb hB.size,by rintro (h|h)<;>omega,fun j v hv=>(hB.cell (p:=⟨b,off+j,none⟩) hb).trans (hc j v hv)⟩
theorem zj6.step {w wr w2:World} {a:Array Value} {ls:List Ma} {qs:List Rq} {n j:Nat} {x0 y z:Rs} {b0:Array Value} {A A2 MA:Option Addr} {c c2 mc:Nat} {m:zY} {q:Rq} (h:zj6 w a ls qs n x0 b0 wr (j+1) y A c)
  (hx:ls[j]?=some (m,MA,mc)) (hq:qs[j]?=some q) (hjn:j+1≤n) (hqn:qs.length=n+1) (hm:zaY m) (hr:zcO q) (hz:z=zds m q y) (hb:Below wr.heap.size wr w2) (hrow:zQ (fun b=>b=w.heap.size+1∨b=w.heap.size+1+1) w2 A2 (zj z.fields)):
  zj6 w a ls qs n x0 b0 (zal w2 (w.heap.size+1) (.int .i64 z.status) (.string z.reason) (.slice A2 z.fields.length c2) (.string z.body)) j z A2 c2 where
 eq:=by
  have hm2:(ls.map (·.1))[j]?=some m:=by rw[List.getElem?_map,hx];rfl
  rw[hz,h.eq,zvi hm2 hq (by omega)]
 fit:=by
  have e:8+2*(n - j)=8+2*(n - (j+1))+2:=by omega
  rw[hz,e];exact zpa hm hr h.fit
 keep:=(h.keep.step hb).trans (z7 (E:=fun b=>b=w.heap.size+1) w2 rfl _ _ _ _)
 rsp:=by
  have hs:=h.keep.size;rw[zjQ] at hs;obtain ⟨r0,r1,r2,r3⟩:=h.rsp.keep (zb.of hb) (by omega) (fun h=>h) (E:=fun _=>False);exact zhM _ _ _ _ r0 r1 r2 r3
 fr:=by
  have hs:=h.keep.size;rw[zjQ] at hs;obtain ⟨f0,f1,f2,f3⟩:=h.fr;rw[zfa,zfa,zfa,zfa];exact ⟨(hb.frozen (p:=⟨w.heap.size+1,0,none⟩) (show w.heap.size+1<wr.heap.size by omega)).trans f0,(hb.frozen (p:=⟨w.heap.size+1,1,none⟩) (show w.heap.size+1<wr.heap.size by omega)).trans f1,(hb.frozen (p:=⟨w.heap.size+1,2,none⟩) (show w.heap.size+1<wr.heap.size by omega)).trans f2,(hb.frozen (p:=⟨w.heap.size+1,3,none⟩) (show w.heap.size+1<wr.heap.size by omega)).trans f3⟩
 row:=hrow.keep ((z7 (E:=fun k=>k=w.heap.size+1) w2 rfl _ _ _ _).wider (fun k _ h=>.inl h))
theorem zwn {E:Nat→Prop} {w W:World} {a b:Array Value} (h:zb E (Y3 w a b) W) (hE:¬E (w.heap.size+1+1)):zic W (w.heap.size+1+1):=
 ⟨⟨(zg (i:=2) h rfl hE 0).1,(zg (i:=2) h rfl hE 1).1,(zg (i:=2) h rfl hE 2).1,(zg (i:=2) h rfl hE 3).1⟩,
  (zg (i:=2) h rfl hE 0).2,(zg (i:=2) h rfl hE 1).2,(zg (i:=2) h rfl hE 2).2,(zg (i:=2) h rfl hE 3).2⟩
end Go.Proofs.YtbnafbdhomdcoaaGreatDoor
