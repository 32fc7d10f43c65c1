/-
  CjLa, CkS0, CjLb, CjOp, CkOp, without what the claim does not reach.
-/
import Derived.Test.YtbnafbdhomdcoaaGreatDoorZCjRun
import Derived.Test.YtbnafbdhomdcoaaGreatDoorZm3
import Derived.Test.YtbnafbdhomdcoaaGreatDoorZm7
import Derived.Test.YtbnafbdhomdcoaaGreatDoorZm9
namespace Go.Proofs.YtbnafbdhomdcoaaGreatDoor
open Go.RowKit Go.Shelf Go.Lib
set_option maxRecDepth 20000 in
set_option maxHeartbeats 2000000 in
theorem zsB (x:Rs) (A B:Option Addr) (c d:Nat) (w:World) (hr:Row w A (zj x.fields)) (hs:Row w B (zj x.fields)) (hl:x.fields.length≤4398046511104):
  Calls Tryz.prog 14 #[rsV x A c,rsV x B d] w fun e w'=>e= .returned (.bool true)∧Below w.heap.size w w':=by
 have HS:=hid (fun (w1:World) (hb:Below w.heap.size w w1)=>zkb A B c d x.fields x.fields w1 (hr.below hb) (hs.below hb) hl hl);rw[decide_eq_true (rfl:x.fields=x.fields)] at HS;clear hr hs hl;unfold rsV;have h1:(x.status==x.status)=true:=by simp
 have h2:(x.reason.toList==x.reason.toList)=true:=by simp
 have h3:(x.body.toList==x.body.toList)=true:=by simp
 go_enter Tryz.func14,Tryz.ntmps14
 go_wp2_with fail
 refine (HS.out _ (((Below.refl _ w).alloc (Nat.le_refl _) _).alloc (by simp) _)).mono ?_;rintro e w1 ⟨rfl,b1⟩;have hbw:Below w.heap.size w w1:=(((Below.refl _ w).alloc (Nat.le_refl _) _).alloc (by simp) _).trans (b1.mono (by simp;omega));clear b1
 go_wp2
 go_ret
 exact ⟨rfl,hbw⟩
def noD:Nat→Prop:=fun _=>False
def zw9:World→Prop:=fun _=>True
theorem zrv {w:World} (hg:zdF w):Env noD zw9 w:=⟨fun _ h=>h.elim,fun _ h=>hg.beyond h.below,fun _ _ _ _ _=>trivial⟩
theorem zj1 {w:World} {A:Option Addr} {xs:List Value} (h:Row w A xs):zQ noD w A xs:=zQ.of_row h
def zlY (l:List zY) (r:Rq):Rs:=(zbD l r).2.getD (zT 404 [])
def ztM (l:List zY) (r:Rq):Rs:=ze6 l (zbD l r).1 (zlY l r)
theorem zvB {l:List zY} {r:Rq} {w w':World} {x:Rs} {A:Option Addr} {c:Nat} (h:zg6 (zh2 l noT) r w x A c w'):x=ztM l r:=by
 obtain ⟨w1,w2,_,h2,_⟩:=h;have h3:=zkW noT l h2;unfold ztM zlY
 cases ho:(zbD l r).2 with
 |some o=>
  rw[ho] at h3;exact h3.1
 |none=>
  rw[ho] at h3;obtain ⟨_,y,_,_,_,_,hn,hx,_⟩:=h3;rw[hx,hn.1]
  rfl
theorem zlp:∀(l:List zY) (r:Rq),∀q∈(zbD l r).1,q.fields=r.fields
 |[],r,q,hq=>by
  rcases List.mem_singleton.1 hq with rfl
  rfl
 |m::l,r,q,hq=>by
  cases ha:zaG m r with
  |inr o=>
   rw[ziC ha] at hq
   rcases List.mem_singleton.1 hq with rfl
   rfl
  |inl p=>
   rw[zgF ha] at hq
   rcases List.mem_cons.1 hq with rfl|hq
   ·rfl
   ·exact (zlp l p q hq).trans (zk5 ha).1
theorem zjD:∀(l:List zY) {r:Rq},(∀m∈l,zaY m)→zcO r→∀o,(zbD l r).2=some o→zbH 8 o
 |[],r,_,_,o,h=>by cases h
 |m::l,r,hl,hr,o,h=>by
  cases ha:zaG m r with
  |inr p=>
   rw[ziC ha] at h
   cases h
   exact zvp (hl m List.mem_cons_self) hr ha
  |inl p=>
   rw[zgF ha] at h;refine zjD l (fun x hx=>hl x (List.mem_cons_of_mem _ hx)) ?_ o h;unfold zaG at ha
   split at ha
   ·rename_i hc
    exact zi9 hc hr ha
   ·cases ha;exact hr
theorem zuA {l:List zY} {r:Rq} (hl:∀m∈l,zaY m) (hr:zcO r):zbH 8 (zlY l r):=by
 unfold zlY
 cases ho:(zbD l r).2 with
 |some o=>exact zjD l hl hr o ho
 |none=>exact zaJ 404 zR (by simp)
def zwx (x:Rs) (w:World) (e:Ending) (w':World):Prop:=∃A c,e= .returned (rsV x A c)∧Row w' A (zj x.fields)∧x.fields.length≤4398046511104∧Below w.heap.size w w'
theorem zpf (ls:List Ma) (MA:Option Addr) (mc:Nat) (w:World) (r:Rq) (FA:Option Addr) (fc:Nat) (TA:Option Addr) (tc:Nat) (hg:zdF w)
  (hM:Row w MA (zbU ls)) (hO:∀y∈ls,Row w y.2.1 (y.1.list.map .string)∧y.1.list.length≤y.2.2∧zaY y.1) (hll:ls.length≤1048576) (hF:Row w FA (zj r.fields)) (hT:Row w TA (zj r.trailers)) (hr:zcO r):
  Calls Tryz.prog 15 #[.slice MA ls.length mc,rqV r FA fc TA tc,.nilFunc] w (zwx (ztM (ls.map (·.1)) r) w):=
 (zvy ls MA mc noD zw9 w.heap.size 8 noT .nilFunc (.func (.func 33) #[] #[]) true w r FA fc TA tc (.inl ⟨rfl,rfl,rfl⟩) (zrv hg) trivial (zvF (zrv hg) (Nat.le_refl _)) (Nat.le_refl _) (Nat.le_refl _) (by omega) (zj1 hM) (fun y hy=>⟨zj1 (hO y hy).1,(hO y hy).2⟩) hll (zj1 hF) (zj1 hT) hr).mono fun e w' h=>by
  obtain ⟨x,A,c,he,hx,hf,ht,hk⟩:=h;have e2:=zvB ht;subst e2;exact ⟨A,c,he,hx.row,by have:=hf.many;omega,hk.below⟩
end Go.Proofs.YtbnafbdhomdcoaaGreatDoor
namespace Go.Proofs.YtbnafbdhomdcoaaGreatDoor
open Go.RowKit Go.Shelf Go.Lib
open Go.ChangeShapes Go.WideShapes Go.Deep
theorem zsf {l:List Ma} {j:Nat} {v:Value} (h:(zbU l)[j]?=some v):∃(i k:Nat) (x:Ma),l[i]?=some x∧k<5∧j=i*5+k∧(maV x)[k]?=some v:=by
 induction l generalizing j with
 |nil=>simp[zbU] at h
 |cons p l ih=>
  have e:zbU (p::l)=maV p++zbU l:=rfl;have hl:(maV p).length=5:=rfl;rw[e] at h
  rcases Nat.lt_or_ge j 5 with hj|hj
  ·rw[List.getElem?_append_left (by omega)] at h
   exact ⟨0,j,p,rfl,hj,by omega,h⟩
  ·rw[List.getElem?_append_right (by omega),hl] at h
   obtain ⟨i,k,x,h1,h2,h3,h4⟩:=ih h;exact ⟨i+1,k,x,by simpa using h1,h2,by omega,h4⟩
def zff (l:List Ma):Nat:=(l.map fun x=>zgp x.1).sum
theorem zsP {l:List Ma} {x:Ma} (h:x∈l):zgp x.1≤zff l:=by
 unfold zff
 induction l with
 |nil=>cases h
 |cons y l ih=>
  rw[List.map_cons,List.sum_cons]
  rcases List.mem_cons.1 h with rfl|h
  ·omega
  ·have:=ih h
   omega
theorem zlP (l:List Ma):l.length*6≤zff l:=by
 unfold zff
 induction l with
 |nil=>exact Nat.le_refl _
 |cons y l ih=>
  rw[List.map_cons,List.sum_cons,List.length_cons];have:6≤zgp y.1:=by unfold zgp;omega
  omega
theorem zmG (l:List Fl):l.length*3≤zbT l:=by
 unfold zbT
 induction l with
 |nil=>exact Nat.le_refl _
 |cons y l ih=>
  rw[List.map_cons,List.sum_cons,List.length_cons]
  omega
theorem zme {H:Type} {f:Nat→DataW H} {Q:Nat→Ma}:∀(l:List Nat),(∀i∈l,zgp (Q i).1≤Rows.uptoBulk (f i))→zff (l.map Q)≤Rows.uptoBulkAll (l.map f)
 |[],_=>Nat.zero_le _
 |i::l,h=>by
  have h1:=zme l fun j hj=>h j (List.mem_cons_of_mem _ hj)
  have h2:=h i List.mem_cons_self;simp only[zff,List.map_cons,List.sum_cons,Rows.uptoBulkAll] at h1 ⊢
  omega
instance:Inhabited Ma:=⟨(⟨0,⟨#[]⟩,⟨#[]⟩,[],0⟩,none,0)⟩
def zvo (W:World) (l:List Ma):Prop:=∀x∈l,zvv W x∧(zho x.1.kind∧zho x.1.n)
theorem zvo.fit {W:World} {l:List Ma} (h:zvo W l) (hb:zff l≤1048576):∀y∈l,Row W y.2.1 (y.1.list.map .string)∧y.1.list.length≤y.2.2∧zaY y.1:=fun y hy=>
 ⟨(h y hy).1.1,(h y hy).1.2,zvK (Nat.le_trans (zsP hy) hb) (h y hy).2.1 (h y hy).2.2⟩
set_option maxRecDepth 100000 in
theorem zsA {H:Type} {enc:TypeId×Value→H} {W:World} {base:Nat} {v:Value} {d:DataW H} {p:List MemPlace} (hv:Value.okWide Tryz.prog W .any base 32 v) (h:DataW.Trod enc Tryz.prog W 0 (fun _=>true) true 32 v d p):
  ∃(A:Option Addr) (c:Nat) (l:List Ma),v= .slice A l.length c∧Row W A (zbU l)∧zvo W l∧l.length≤c∧zff l+1≤Rows.uptoBulk d:=by
 obtain ⟨a0,len0,cap0,rfl⟩:=okWide_slice Tryz.underlying32 hv;obtain ⟨fuel,hf⟩:=h;have h9:Tryz.prog.cellsOf 24=5:=by kernel_rfl
 rcases open_slice Tryz.underlying32 hf with ⟨hcs,hx⟩|⟨a,len,cap,m,n,D,Pl,hcs,_,hl,hm,hmm,hx,hi⟩
 ·simp[Value.cells] at hcs
  obtain ⟨rfl,rfl,rfl⟩:=hcs;simp at hx;obtain ⟨rfl,rfl⟩:=hx;exact ⟨none,0,[],rfl,Row.nil _ _,(fun x hx=>by cases hx),Nat.le_refl _,Nat.le_refl _⟩
 ·have hA:(Value.slice a0 len0 cap0)= .slice (some a) len cap:=by simpa [Value.cells] using hcs
  injection hA with e0 e1 e2;subst e0 e1 e2;simp only[if_true] at hmm;subst hmm;rw[h9] at hi;have hall:∀i,i<m→∃r:Ma,(∀k v,k<5→(maV r)[k]?=some v→W.cell? (a.add (i*5+k))=some v)∧(zvv W r∧(zho r.1.kind∧zho r.1.n))∧zgp r.1≤Rows.uptoBulk (D i):=by
   intro i him;obtain ⟨cs',hc,ht⟩:=hi i him;obtain ⟨r,rfl,hm1,hk1,hb1⟩:=zsn ht;obtain ⟨_,hcl,hat⟩:=World.cells?_some hc;refine ⟨r,fun k v hk hv=>?_,⟨hm1,hk1⟩,hb1⟩;rw[←Go.Deep.add_add,hat k hk,hv]
  obtain ⟨Q,hQ⟩:=choose_lt (α:=Ma) (p:=fun i (r:Ma)=>(∀k v,k<5→(maV r)[k]?=some v→W.cell? (a.add (i*5+k))=some v)∧(zvv W r∧(zho r.1.kind∧zho r.1.n))∧zgp r.1≤Rows.uptoBulk (D i)) hall;have hget:∀(i:Nat) (q:Ma),((List.range len0).map Q)[i]?=some q→i<len0∧Q i=q:=by
   intro i q hq;have hi:i<len0:=by simpa using (List.getElem?_eq_some_iff.1 hq).1
   simp[hi] at hq;exact ⟨hi,hq⟩
  refine ⟨some a,m,(List.range len0).map Q,by rw[List.length_map,List.length_range],zfX fun j v hv=>?_,fun x hx=>?_,by rw[List.length_map,List.length_range];exact hl,?_⟩
  ·obtain ⟨i,k,x,hi,hk,rfl,hkv⟩:=zsf hv
   obtain ⟨hil,hq⟩:=hget _ _ hi;subst hq;exact (hQ i (by omega)).1 k v hk hkv
  ·obtain ⟨i,hi,rfl⟩:=List.mem_map.1 hx
   have:=List.mem_range.1 hi;exact (hQ i (by omega)).2.1
  ·have hd:d= .slice ((List.range len0).map D) ((List.range (m - len0)).map fun j=>D (len0+j)):=congrArg Prod.fst hx
   have hb:=zme (f:=D) (Q:=Q) (List.range len0) fun i hi=>(hQ i (by have:=List.mem_range.1 hi;omega)).2.2
   rw[hd];simp only[Rows.uptoBulk]
   omega
set_option maxRecDepth 100000 in
theorem zm6 {H:Type} {enc:TypeId×Value→H} {W:World} {base:Nat} {v:Value} {d:DataW H} {p:List MemPlace} (hv:Value.okWide Tryz.prog W .any base 27 v) (h:DataW.Trod enc Tryz.prog W 0 (fun _=>true) true 27 v d p):
  ∃(r:Rq) (FA:Option Addr) (fc:Nat) (TA:Option Addr) (tc:Nat),v=rqV r FA fc TA tc∧(Row W FA (zj r.fields)∧Row W TA (zj r.trailers))∧r.method.size+r.target.size+zbT r.fields+r.body.size+zbT r.trailers+8≤Rows.uptoBulk d:=by
 obtain ⟨cs,rfl,hcs⟩:=okWide_struct Tryz.underlying27 hv;obtain ⟨fuel,hf⟩:=h;obtain ⟨r,FA,fc,TA,tc,e,hr,_,hb⟩:=zrX (cs:=cs.toList) (x:=(d,p)) hf;refine ⟨r,FA,fc,TA,tc,?_,hr,hb⟩;have e2:cs=#[.string r.method,.string r.target,.int .i64 r.major,.int .i64 r.minor,.slice FA r.fields.length fc,.string r.body,.slice TA r.trailers.length tc]:=Array.toList_inj.1 e;rw[e2]
 rfl
end Go.Proofs.YtbnafbdhomdcoaaGreatDoor
