/-
  CkMz, CkQb, without what the claim does not reach.
-/
import Derived.Test.YtbnafbdhomdcoaaGreatDoorZm7
import Derived.Test.YtbnafbdhomdcoaaGreatDoorZn2
import Derived.Test.YtbnafbdhomdcoaaGreatDoorZCkMg
import Derived.Test.YtbnafbdhomdcoaaGreatDoorZn1
import Derived.Test.YtbnafbdhomdcoaaGreatDoorZm4
import Derived.Deep.DeepCutAuto
namespace Go.Proofs.YtbnafbdhomdcoaaGreatDoor
open Go.RowKit Go.Shelf Go.Lib
theorem zta {m:zY} {r:Rq} (h:zr m=true):zaG m r=zx m r:=if_pos h
theorem zpI {m:zY} {r:Rq} (h:zr m=false):zaG m r= .inl r:=if_neg (by rw[h];decide)
theorem zqy (m:zY) (A:Option Addr) (c:Nat) (r:Rq) (FA:Option Addr) (fc:Nat) (TA:Option Addr) (tc:Nat) (w:World) (hs:zgs w m A c r FA):
  Calls Tryz.prog 30 #[zL m A c,rqV r FA fc TA tc] w (zcR FA fc TA tc w r (zaG m r)):=by
 cases hcm:zr m
 ·rw[zpI hcm]
  exact zq3 m A c r FA fc TA tc w hcm hs
 ·rw[zta hcm]
  by_cases h4:m.kind=4
  ·exact zvW m A c r FA fc TA tc w hcm h4 hs
  by_cases h5:m.kind=5
  ·exact zu5 m A c r FA fc TA tc w hcm h5 hs
  by_cases h6:m.kind=6
  ·exact zu2 m A c r FA fc TA tc w hcm h6 hs
  by_cases h7:m.kind=7
  ·exact zvL m A c r FA fc TA tc w hcm h7 hs
  by_cases h8:m.kind=8
  ·exact zvZ m A c r FA fc TA tc w hcm h8 hs
  by_cases h10:m.kind=10
  ·exact zuM m A c r FA fc TA tc w hcm h10 hs
  have hko:zcz m.kind=true:=by
   unfold zr at hcm;exact (Bool.and_eq_true_iff.1 hcm).1
  have hkk:m.kind=1∨m.kind=2∨m.kind=3∨m.kind=9:=by
   unfold zcz at hko;simp at hko
   omega
  exact zs4 m A c r FA fc TA tc w hcm hkk hs
def zoB (W:World) (b:Nat):Prop:=W.frozen? ⟨b,0,none⟩=false∧W.frozen? ⟨b,1,none⟩=false∧W.frozen? ⟨b,2,none⟩=false∧W.frozen? ⟨b,3,none⟩=false∧W.frozen? ⟨b,4,none⟩=false∧W.frozen? ⟨b,5,none⟩=false∧W.frozen? ⟨b,6,none⟩=false
structure zeX (W:World) (b:Nat) (v0 v1 v2 v3 v4 v5 v6:Value):Prop where
 c0:W.cell? ⟨b,0,none⟩=some v0
 c1:W.cell? ⟨b,1,none⟩=some v1
 c2:W.cell? ⟨b,2,none⟩=some v2
 c3:W.cell? ⟨b,3,none⟩=some v3
 c4:W.cell? ⟨b,4,none⟩=some v4
 c5:W.cell? ⟨b,5,none⟩=some v5
 c6:W.cell? ⟨b,6,none⟩=some v6
 fr:zoB W b
theorem zoB.set {W:World} {b:Nat} (h:zoB W b) (p:Addr) (v:Value):zoB (W.setCell p v) b:=by
 unfold zoB;simp only[World.frozen?_setCell];exact h
theorem zoB.of {W W':World} {b:Nat} (h:zoB W b) (hk:W'.heap[b]?=W.heap[b]?):zoB W' b:=
 ⟨(World.frozen?_of_block hk).trans h.1,(World.frozen?_of_block hk).trans h.2.1,(World.frozen?_of_block hk).trans h.2.2.1,(World.frozen?_of_block hk).trans h.2.2.2.1,(World.frozen?_of_block hk).trans h.2.2.2.2.1,(World.frozen?_of_block hk).trans h.2.2.2.2.2.1,(World.frozen?_of_block hk).trans h.2.2.2.2.2.2⟩
section
variable {W W':World} {b:Nat} {v0 v1 v2 v3 v4 v5 v6:Value}
theorem zeX.of (h:zeX W b v0 v1 v2 v3 v4 v5 v6) (hk:W'.heap[b]?=W.heap[b]?):zeX W' b v0 v1 v2 v3 v4 v5 v6:=
 ⟨(World.cell?_of_block hk).trans h.c0,(World.cell?_of_block hk).trans h.c1,(World.cell?_of_block hk).trans h.c2,(World.cell?_of_block hk).trans h.c3,(World.cell?_of_block hk).trans h.c4,(World.cell?_of_block hk).trans h.c5,(World.cell?_of_block hk).trans h.c6,h.fr.of hk⟩
theorem zeX.keep {E:Nat→Prop} (h:zeX W b v0 v1 v2 v3 v4 v5 v6) (hk:zb E W W') (hb:b<W.heap.size) (hn:¬E b):zeX W' b v0 v1 v2 v3 v4 v5 v6:=h.of (hk.block b hb hn)
theorem zeX.below {n:Nat} (h:zeX W b v0 v1 v2 v3 v4 v5 v6) (hk:Below n W W') (hb:b<n):zeX W' b v0 v1 v2 v3 v4 v5 v6:=h.of (hk.block b hb)
theorem zeX.put (h:zeX W b v0 v1 v2 v3 v4 v5 v6) (u0 u1 u2 u3 u4 u5 u6:Value):zeX (zeY W b u0 u1 u2 u3 u4 u5 u6) b u0 u1 u2 u3 u4 u5 u6:=by
 obtain ⟨h0,h1,h2,h3,h4,h5,h6⟩:=zkR u0 u1 u2 u3 u4 u5 u6 h.c0 h.c1 h.c2 h.c3 h.c4 h.c5 h.c6;exact ⟨h0,h1,h2,h3,h4,h5,h6,(((((((h.fr.set _ _).set _ _).set _ _).set _ _).set _ _).set _ _).set _ _)⟩
theorem zeX.set (h:zeX W b v0 v1 v2 v3 v4 v5 v6) (j:Nat) (v:Value):zeX (W.setCell ⟨b,j,none⟩ v) b (if 0=j then v else v0) (if 1=j then v else v1) (if 2=j then v else v2) (if 3=j then v else v3) (if 4=j then v else v4) (if 5=j then v else v5) (if 6=j then v else v6):=
 ⟨zi h.c0,zi h.c1,zi h.c2,zi h.c3,zi h.c4,zi h.c5,zi h.c6,h.fr.set _ _⟩
theorem zog (W:World) (t:TypeId) (v0 v1 v2 v3 v4 v5 v6:Value):zeX (W.alloc (.cells #[v0,v1,v2,v3,v4,v5,v6] t)) W.heap.size v0 v1 v2 v3 v4 v5 v6:=by
 have h:=fun j=>zhz W [.cells #[v0,v1,v2,v3,v4,v5,v6] t] (i:=0) rfl j
 exact ⟨(h 0).1,(h 1).1,(h 2).1,(h 3).1,(h 4).1,(h 5).1,(h 6).1,(h 0).2,(h 1).2,(h 2).2,(h 3).2,(h 4).2,(h 5).2,(h 6).2⟩
end
theorem zuN (W:World):zic (W.alloc (.cells zei 39)) W.heap.size:=by
 have h:=fun j=>zhz W [.cells zei 39] (i:=0) rfl j
 exact ⟨⟨(h 0).1,(h 1).1,(h 2).1,(h 3).1⟩,(h 0).2,(h 1).2,(h 2).2,(h 3).2⟩
abbrev zvw (W:World) (b:Nat) (r:Rq) (FA:Option Addr) (fc:Nat) (TA:Option Addr) (tc:Nat):Prop:=zeX W b (.string r.method) (.string r.target) (.int .i64 r.major) (.int .i64 r.minor) (.slice FA r.fields.length fc) (.string r.body) (.slice TA r.trailers.length tc)
abbrev zp6 (W:World) (b:Nat) (k:Int) (A:Option Addr) (n c:Nat) (o:Rs) (OA:Option Addr) (oc:Nat) (e:Bool):Prop:=zeX W b (.int .i64 k) (.slice A n c) (.int .i64 o.status) (.string o.reason) (.slice OA o.fields.length oc) (.string o.body) (.bool e)
def Off (B N k:Nat):Prop:=¬(B≤k∧k<N)
theorem zvP {w:World} {B n c:Nat} {E:TypeId} {A:Option Addr} {xs:List Value} (h:w.ownsRow B E 2 (.slice A n c) n xs):zQ (Off B w.heap.size) w A xs:=fun hl=>by
 obtain ⟨b,off,e,hb,hc⟩:=zak h hl;refine ⟨b,off,e,hb,fun hd=>hd ⟨h.lt b (by rw[e];rfl) |>.1,hb⟩,hc⟩
theorem zox {FA TA:Option Addr} {fc tc:Nat} {w w':World} {m:zY} {r:Rq} {e:Ending} (h:zcR FA fc TA tc w r (zaG m r) e w'):
  ∃(q:Rq) (x:Rs) (XA:Option Addr) (xc:Nat) (b:Bool),e= .returned (.tuple #[rqV q FA fc TA tc,rsV x XA xc,.bool b])∧Below w.heap.size w w'∧(b=false→zaG m r= .inl q)∧(b=true→zaG m r= .inr x∧zQ (Off w.heap.size w'.heap.size) w' XA (zj x.fields)):=by
 cases ha:zaG m r with
 |inl q=>
  rw[ha] at h;exact ⟨q,ze3,none,0,false,h.1,h.2,fun _=>rfl,fun h=>by cases h⟩
 |inr x=>
  rw[ha] at h;obtain ⟨A,c,he,ho,hb⟩:=h;exact ⟨r,x,A,c,true,he,hb,fun h=>(by cases h),fun _=>⟨rfl,zvP ho⟩⟩
def zoK (FA:Option Addr) (fc:Nat) (TA:Option Addr) (tc:Nat) (w:World) (qs:List Rq) (o:Option Rs) (e:Ending) (w':World):Prop:=
 ∃(n:Nat) (QA:Option Addr) (qc:Nat) (x:Rs) (OA:Option Addr) (oc:Nat),qs.length=n+1∧e= .returned (.agg (zgl n QA qs.length qc x OA oc o.isSome))∧Row w' QA (zdM FA fc TA tc qs)∧Below w.heap.size w w'∧(∀y,o=some y→x=y∧Row w' OA (zj x.fields))
structure GoI (FA:Option Addr) (fc:Nat) (TA:Option Addr) (tc:Nat) (w:World) (ls:List Ma) (r0:Rq) (wr:World) (k:Nat) (done:List Rq) (r:Rq) (A:Option Addr) (c:Nat):Prop where
 way:zgt (ls.map (·.1)) r0 k done r
 low:Below w.heap.size w wr
 size:w.heap.size+4≤wr.heap.size
 req:zvw wr w.heap.size r FA fc TA tc
 res:zp6 wr (w.heap.size+1) 0 none 0 0 ze3 none 0 false
 box:zp6 wr (w.heap.size+1+1+1) k A (k+1) c ze3 none 0 false
 own:wr.ownsRow (w.heap.size+1+1) 44 7 (.slice A (k+1) c) (k+1) (zdM FA fc TA tc (done++[r]))
 apart:(Value.slice A (k+1) c).ownBlock≠some (w.heap.size+1+1+1)
def GoR (FA:Option Addr) (fc:Nat) (TA:Option Addr) (tc:Nat) (w:World) (m:zY) (r:Rq) (a b c:Value) (W:World):Prop:=
 ∃(p s:Nat) (q:Rq) (x:Rs) (XA:Option Addr) (xc:Nat) (e:Bool),a= .pointer (some ⟨p,0,none⟩)∧b= .pointer (some ⟨s,0,none⟩)∧c= .bool e∧w.heap.size≤p∧w.heap.size≤s∧p<W.heap.size∧s<W.heap.size∧Below w.heap.size w W∧zvw W p q FA fc TA tc∧
  zhZ W s (.int .i64 x.status) (.string x.reason) (.slice XA x.fields.length xc) (.string x.body)∧(e=false→zaG m r= .inl q)∧(e=true→zaG m r= .inr x∧zQ (fun k=>k<w.heap.size) W XA (zj x.fields))
structure GoO where
 q:Rq
 x:Rs
 XA:Option Addr
 xc:Nat
 b:Bool
 B:Nat
 N:Nat
structure GoS (FA:Option Addr) (fc:Nat) (TA:Option Addr) (tc:Nat) (wr:World) (m:zY) (r:Rq) (W:World) (p s:Option Nat) (o:Option GoO):Prop where
 low:Below wr.heap.size wr W
 hp:∀P,p=some P→wr.heap.size≤P∧P<W.heap.size∧zeX W P (.string ⟨#[]⟩) (.string ⟨#[]⟩) (.int .i64 0) (.int .i64 0) (.slice none 0 0) (.string ⟨#[]⟩) (.slice none 0 0)
 hs:∀S,s=some S→wr.heap.size≤S∧S<W.heap.size∧zic W S
 ne:∀P S,p=some P→s=some S→P≠S
 ho:∀a,o=some a→(a.b=false→zaG m r= .inl a.q)∧(a.b=true→zaG m r= .inr a.x∧zQ (Off a.B a.N) W a.XA (zj a.x.fields))∧wr.heap.size≤a.B∧a.N≤W.heap.size
 po:∀a P,o=some a→p=some P→Off a.B a.N P
 so:∀a S,o=some a→s=some S→Off a.B a.N S
section
variable {FA TA:Option Addr} {fc tc:Nat} {wr:World} {m:zY} {r:Rq} {W W':World} {p s:Option Nat} {o:Option GoO}
theorem GoS.start (h:Below wr.heap.size wr W):GoS FA fc TA tc wr m r W none none none:=
 ⟨h,fun _ h=>(by cases h),fun _ h=>(by cases h),fun _ _ h=>(by cases h),fun _ h=>(by cases h),fun _ _ h=>(by cases h),fun _ _ h=>(by cases h)⟩
theorem GoS.later (h:GoS FA fc TA tc wr m r W p s o) (hb:Below W.heap.size W W'):GoS FA fc TA tc wr m r W' p s o:=
 ⟨h.low.trans (hb.mono h.low.size),fun P e=>⟨(h.hp P e).1,Nat.lt_of_lt_of_le (h.hp P e).2.1 hb.size,(h.hp P e).2.2.below hb (h.hp P e).2.1⟩,
  fun S e=>⟨(h.hs S e).1,Nat.lt_of_lt_of_le (h.hs S e).2.1 hb.size,(h.hs S e).2.2.keep (zb.of (D:=fun _=>False) hb) (h.hs S e).2.1 (fun h=>h)⟩,h.ne,
  fun a e=>⟨(h.ho a e).1,fun hb1=>⟨((h.ho a e).2.1 hb1).1,((h.ho a e).2.1 hb1).2.below hb⟩,(h.ho a e).2.2.1,Nat.le_trans (h.ho a e).2.2.2 hb.size⟩,h.po,h.so⟩
theorem GoS.a7 (h:GoS FA fc TA tc wr m r W none s o):GoS FA fc TA tc wr m r (W.alloc (.cells zhI 44)) (some W.heap.size) s o:=by
 have h2:=h.later ((Below.refl _ W).alloc (Nat.le_refl _) (.cells zhI 44));refine ⟨h2.low,?_,h2.hs,?_,h2.ho,?_,h2.so⟩
 ·rintro P e0
  cases e0
  exact ⟨h.low.size,by simp,zog _ _ _ _ _ _ _ _ _⟩
 ·rintro P S e0 e
  cases e0
  exact Nat.ne_of_gt (h.hs S e).2.1
 ·rintro a P e e0 g
  cases e0
  exact absurd g.2 (Nat.not_lt.2 (h.ho a e).2.2.2)
theorem GoS.a4 (h:GoS FA fc TA tc wr m r W p none o):GoS FA fc TA tc wr m r (W.alloc (.cells zei 39)) p (some W.heap.size) o:=by
 have h2:=h.later ((Below.refl _ W).alloc (Nat.le_refl _) (.cells zei 39));refine ⟨h2.low,h2.hp,?_,?_,h2.ho,h2.po,?_⟩
 ·rintro S e0
  cases e0
  exact ⟨h.low.size,by simp,zuN _⟩
 ·rintro P S e e0
  cases e0
  exact Nat.ne_of_lt (h.hp P e).2.1
 ·rintro a S e e0 g
  cases e0
  exact absurd g.2 (Nat.not_lt.2 (h.ho a e).2.2.2)
theorem GoS.call {e:Ending} (h:GoS FA fc TA tc wr m r W p s none) (ha:zcR FA fc TA tc W r (zaG m r) e W'):
  ∃(q:Rq) (x:Rs) (XA:Option Addr) (xc:Nat) (b:Bool),e= .returned (.tuple #[rqV q FA fc TA tc,rsV x XA xc,.bool b])∧GoS FA fc TA tc wr m r W' p s (some ⟨q,x,XA,xc,b,W.heap.size,W'.heap.size⟩):=by
 obtain ⟨q,x,XA,xc,b,he,hb,h1,h2⟩:=zox ha;have h3:=h.later hb;refine ⟨q,x,XA,xc,b,he,h3.low,h3.hp,h3.hs,h3.ne,?_,?_,?_⟩
 ·rintro a e0
  cases e0
  exact ⟨h1,h2,h.low.size,Nat.le_refl _⟩
 ·rintro a P e0 e g
  cases e0
  exact absurd g.1 (Nat.not_le.2 (h.hp P e).2.1)
 ·rintro a S e0 e g
  cases e0
  exact absurd g.1 (Nat.not_le.2 (h.hs S e).2.1)
variable {P S:Nat} {q:Rq} {x:Rs} {XA:Option Addr} {xc B N:Nat} {b:Bool}
theorem GoS.low7 (h:GoS FA fc TA tc wr m r W (some P) s o) (q:Rq):Below wr.heap.size wr (rqP W P q FA fc TA tc):=zt (zbA (E:=fun k=>k=P) W rfl _ _ _ _ _ _ _) (fun _ e=>e▸(h.hp P rfl).1) h.low
theorem GoS.mid (h:GoS FA fc TA tc wr m r W (some P) (some S) o) (q:Rq):zic (rqP W P q FA fc TA tc) S:=(h.hs S rfl).2.2.keep (zbA (E:=fun k=>k=P) W rfl _ _ _ _ _ _ _) (h.hs S rfl).2.1 (fun e=>h.ne P S rfl rfl e.symm)
theorem GoS.low4 (h:GoS FA fc TA tc wr m r W (some P) (some S) o) (q:Rq) (u0 u1 u2 u3:Value):Below wr.heap.size wr (zal (rqP W P q FA fc TA tc) S u0 u1 u2 u3):=zt (z7 (E:=fun k=>k=S) _ rfl _ _ _ _) (fun _ e=>e▸(h.hs S rfl).1) (h.low7 q)
theorem GoS.fin (h:GoS FA fc TA tc wr m r W (some P) (some S) (some ⟨q,x,XA,xc,b,B,N⟩)):
  GoR FA fc TA tc wr m r (.pointer (some ⟨P,0,none⟩)) (.pointer (some ⟨S,0,none⟩)) (.bool b) (zal (rqP W P q FA fc TA tc) S (.int .i64 x.status) (.string x.reason) (.slice XA x.fields.length xc) (.string x.body)):=by
 obtain ⟨o1,o2,o3,o4⟩:=h.ho _ rfl;have k1:zb (fun k=>k=P) W (rqP W P q FA fc TA tc):=zbA (E:=fun k=>k=P) W rfl _ _ _ _ _ _ _;have k2:=z7 (E:=fun k=>k=S) (rqP W P q FA fc TA tc) rfl (.int .i64 x.status) (.string x.reason) (.slice XA x.fields.length xc) (.string x.body);have hz:(zal (rqP W P q FA fc TA tc) S (.int .i64 x.status) (.string x.reason) (.slice XA x.fields.length xc) (.string x.body)).heap.size=W.heap.size:=by rw[zrQ];exact zi4 _ _ _ _ _ _ _ _ _
 have hpz:P<(rqP W P q FA fc TA tc).heap.size:=by rw[show (rqP W P q FA fc TA tc).heap.size=W.heap.size from zi4 _ _ _ _ _ _ _ _ _];exact (h.hp P rfl).2.1
 refine ⟨P,S,q,x,XA,xc,b,rfl,rfl,rfl,(h.hp P rfl).1,(h.hs S rfl).1,by rw[hz];exact (h.hp P rfl).2.1,by rw[hz];exact (h.hs S rfl).2.1,h.low4 q _ _ _ _,(show zvw (rqP W P q FA fc TA tc) P q FA fc TA tc from (h.hp P rfl).2.2.put _ _ _ _ _ _ _).keep k2 hpz (h.ne P S rfl rfl),(h.mid q).put _ _ _ _,o1,fun hb=>⟨(o2 hb).1,?_⟩⟩;have h3:=(o2 hb).2.keep ((k1.wider (fun k _ e=>e▸h.po _ P rfl rfl)).trans (k2.wider (fun k _ e=>e▸h.so _ S rfl rfl)));exact h3.narrow (fun k hk g=>by have h1:=g.1;dsimp only at h1 o3;omega)
end
theorem ziT {D:Nat→Prop} {w w':World} {base:Nat} {E:TypeId} {sz n:Nat} {v:Value} {xs:List Value} (h:w.ownsRow base E sz v n xs) (hk:zb D w w') (hD:∀g,v.ownBlock=some g→¬D g):w'.ownsRow base E sz v n xs:=by
 obtain ⟨h1,h2⟩:=h;refine ⟨h1,?_⟩
 rcases h2 with h2|⟨g,cap,cur,hv,hg,hh,r⟩
 ·exact Or.inl h2
 ·refine Or.inr ⟨g,cap,cur,hv,hg,?_,r⟩
  rw[hk.block g (Array.getElem?_eq_some_iff.1 hh).1 (hD g (by rw[hv];rfl))];exact hh
theorem zoh (q:Rq) (FA:Option Addr) (fc:Nat) (TA:Option Addr) (tc:Nat):∀u∈(zu q FA fc TA tc).toList,u.oneCell'=true:=by
 intro u hu;simp[zu] at hu
 rcases hu with rfl|rfl|rfl|rfl|rfl|rfl|rfl<;>rfl
theorem ztS:(Tryz.prog.info? 44).map (fun i=>(i.zero,i.size,i.bytes))=some (some (.agg #[.string ⟨#[]⟩,.string ⟨#[]⟩,.int .i64 0,.int .i64 0,.slice none 0 0,.string ⟨#[]⟩,.slice none 0 0]),7,112):=by kernel_rfl
def G5 (w:World) (r:Rq) (FA:Option Addr) (fc:Nat) (TA:Option Addr) (tc:Nat):World:=Bx w [.cells (zu r FA fc TA tc) 44,.cells (zgl 0 none 0 0 ze3 none 0 false) 41,.cells (zu r FA fc TA tc) 44,.cells (zgl 0 (some ⟨w.heap.size+1+1,0,none⟩) 1 1 ze3 none 0 false) 41]
theorem ztL (w:World) (ls:List Ma) (r:Rq) (FA:Option Addr) (fc:Nat) (TA:Option Addr) (tc:Nat) (hr:zcO r):GoI FA fc TA tc w ls r (G5 w r FA fc TA tc) 0 [] r (some ⟨w.heap.size+1+1,0,none⟩) 1:=by
 have hS:(G5 w r FA fc TA tc).heap.size=w.heap.size+4:=zfZ w _;have hb:∀(i:Nat) (v0 v1 v2 v3 v4 v5 v6:Value) (t:TypeId),[Obj.cells (zu r FA fc TA tc) 44,.cells (zgl 0 none 0 0 ze3 none 0 false) 41,.cells (zu r FA fc TA tc) 44,.cells (zgl 0 (some ⟨w.heap.size+1+1,0,none⟩) 1 1 ze3 none 0 false) 41][i]?=some (.cells #[v0,v1,v2,v3,v4,v5,v6] t)→zeX (G5 w r FA fc TA tc) (w.heap.size+i) v0 v1 v2 v3 v4 v5 v6:=fun i v0 v1 v2 v3 v4 v5 v6 t h=>by
  have g:=fun j=>zhz w _ h j
  exact ⟨(g 0).1,(g 1).1,(g 2).1,(g 3).1,(g 4).1,(g 5).1,(g 6).1,(g 0).2,(g 1).2,(g 2).2,(g 3).2,(g 4).2,(g 5).2,(g 6).2⟩
 refine ⟨zgt.start _ hr,zd4 w _,by omega,hb 0 _ _ _ _ _ _ _ _ rfl,hb 1 _ _ _ _ _ _ _ _ rfl,hb 3 _ _ _ _ _ _ _ _ rfl,?_,fun h=>by have h2:w.heap.size+1+1=w.heap.size+1+1+1:=Option.some.inj h;omega⟩;have h1:(((w.alloc (.cells (zu r FA fc TA tc) 44)).alloc (.cells (zgl 0 none 0 0 ze3 none 0 false) 41)).alloc (.cells (zu r FA fc TA tc) 44)).ownsRow (w.heap.size+1+1) 44 7 (.slice (some ⟨w.heap.size+1+1,0,none⟩) 1 1) 1 (zu r FA fc TA tc).toList:=by
  have h:=World.ownsRow_lit (base:=w.heap.size+1+1) (e:=44) (size:=7) ((w.alloc (.cells (zu r FA fc TA tc) 44)).alloc (.cells (zgl 0 none 0 0 ze3 none 0 false) 41)) (zu r FA fc TA tc) 1 (by simp) (by unfold maxLen;omega) rfl;simp at h;exact h
 have h2:=h1.alloc (.cells (zgl 0 (some ⟨w.heap.size+1+1,0,none⟩) 1 1 ze3 none 0 false) 41);rw[List.nil_append,zmq];exact h2
theorem GoI.on {FA TA:Option Addr} {fc tc:Nat} {w wr w5:World} {ls:List Ma} {r0 r q:Rq} {k:Nat} {done:List Rq} {A A':Option Addr} {c c':Nat} {m:zY} (h:GoI FA fc TA tc w ls r0 wr k done r A c) (hm:(ls.map (·.1))[k]?=some m) (ha:zaG m r= .inl q)
  (low:Below w.heap.size w w5) (size:w.heap.size+4≤w5.heap.size) (req:zvw w5 w.heap.size q FA fc TA tc) (res:zp6 w5 (w.heap.size+1) 0 none 0 0 ze3 none 0 false) (box:zp6 w5 (w.heap.size+1+1+1) ((k:Int)+1) A' (k+1+1) c' ze3 none 0 false)
  (own:w5.ownsRow (w.heap.size+1+1) 44 7 (.slice A' (k+1+1) c') (k+1+1) (zdM FA fc TA tc (done++[r])++(zu q FA fc TA tc).toList)) (apart:(Value.slice A' (k+1+1) c').ownBlock≠some (w.heap.size+1+1+1)):
  GoI FA fc TA tc w ls r0 w5 (k+1) (done++[r]) q A' c':=
 ⟨h.way.on hm ha,low,size,req,res,box,by rw[znm (done++[r]) [q],zmq];exact own,apart⟩
theorem zl7 {FA TA:Option Addr} {fc tc:Nat} {w wr W:World} {ls:List Ma} {r0 r:Rq} {k:Nat} {done:List Rq} {A:Option Addr} {c:Nat} {o:Option Rs} {x:Rs} {XA:Option Addr} {xc:Nat} (h:GoI FA fc TA tc w ls r0 wr k done r A c) (hw:zbD (ls.map (·.1)) r0=(done++[r],o))
  (ho:W.ownsRow (w.heap.size+1+1) 44 7 (.slice A (k+1) c) (k+1) (zdM FA fc TA tc (done++[r]))) (hb:Below w.heap.size w W) (hx:∀y,o=some y→x=y∧Row W XA (zj x.fields)):
  zoK FA fc TA tc w (zbD (ls.map (·.1)) r0).1 (zbD (ls.map (·.1)) r0).2 (.returned (.agg (zgl k A (k+1) c x XA xc o.isSome))) W:=by
 rw[hw];have hl:(done++[r]).length=k+1:=by rw[List.length_append,h.way.len];rfl
 refine ⟨k,A,c,x,XA,xc,hl,?_,zak ho,hb,hx⟩;dsimp only;rw[hl]
set_option maxRecDepth 20000 in
set_option maxHeartbeats 16000000 in
theorem zvx (ls:List Ma) (MA:Option Addr) (mc:Nat) (r0:Rq) (FA:Option Addr) (fc:Nat) (TA:Option Addr) (tc:Nat) (w:World)
  (hM:Row w MA (zbU ls)) (hO:∀y∈ls,Row w y.2.1 (y.1.list.map .string)∧y.1.list.length≤y.2.2∧zaY y.1) (hF:Row w FA (zj r0.fields)) (hr:zcO r0) (hll:ls.length≤1048576):
  Calls Tryz.prog 11 #[.slice MA ls.length mc,rqV r0 FA fc TA tc] w (zoK FA fc TA tc w (zbD (ls.map (·.1)) r0).1 (zbD (ls.map (·.1)) r0).2):=by
 have HM:=hid (fun (W:World) (h:Below w.heap.size w W)=>hM.below h);have HO:=hid (fun (W:World) (h:Below w.heap.size w W) y (hy:y∈ls)=>(⟨(hO y hy).1.below h,(hO y hy).2⟩:Row W y.2.1 (y.1.list.map .string)∧y.1.list.length≤y.2.2∧zaY y.1));have HF:=hid (fun (W:World) (h:Below w.heap.size w W)=>hF.below h);have HI0:=hid (ztL w ls r0 FA fc TA tc hr);obtain ⟨i0,hi0',hz0',hz1',hz2'⟩:=info_parts ztS;clear hM hO hF hr;unfold rqV
 go_enter Tryz.func11,Tryz.ntmps11
 go_wp2_with fail
 go_loopw [6] (fun i wr=>∃(k:Nat) (done:List Rq) (r:Rq) (A:Option Addr) (c:Nat),k≤ls.length∧i= .int .i64 k∧Hid (GoI FA fc TA tc w ls r0 wr k done r A c)) (fun i _=>ls.length - (RowKit.intOf i).toNat)
 case atStart=>exact ⟨0,[],r0,some ⟨w.heap.size+1+1,0,none⟩,1,by omega,rfl,HI0⟩
 case round=>
  clear HI0;obtain ⟨k,done,r,A,c,hk,rfl,HI⟩:=hrel;have hz4:=HI.out.size;have hb3:w.heap.size+1+1+1<wr.heap.size:=by omega
  have hb1:w.heap.size+1<wr.heap.size:=by omega
  have hb0:w.heap.size<wr.heap.size:=by omega
  by_cases hlt:k<ls.length
  ·have hlt':(k:Int)<(ls.length:Int):=by omega
   obtain ⟨⟨m,MB,mc1⟩,hmj⟩:=zD hlt;obtain ⟨b,off,rfl,hb,hd⟩:=zpQ (HM.out wr HI.out.low) hmj;obtain ⟨o1,o2,o3⟩:=HO.out wr HI.out.low _ (List.mem_of_getElem? hmj);have hrow:Row wr FA (zj r.fields):=by rw[HI.out.way.fields];exact HF.out wr HI.out.low
   have HML:=hid (show (ls.map (·.1))[k]?=some m by rw[List.getElem?_map,hmj];rfl);have HAH:=hid (fun (W:World) (h:Below wr.heap.size wr W)=>zqy m MB mc1 r FA fc TA tc W ⟨o1.below h,o2,hrow.below h,HI.out.way.fit,o3⟩);have HD:=hid hd;have HRB:=hid (fun (W:World) (h:Below wr.heap.size wr W)=>HI.out.req.below h hb0);have hHeld0:=zaM (Below.refl wr.heap.size wr);have hk0:(0:Int)≤(k:Int):=by omega
   clear hd o1 o2 o3 hmj hrow HM HO HF;unfold zL rqV at HAH
   go_upto_region 5 with (fail)
   go_cut [7,8,9] (fun a b c wx=>GoR FA fc TA tc wr m r a b c wx)
   case first=>
    refine zO (t:=14) (S:=fun W=>Below wr.heap.size wr W) (by kernel_rfl) hHeld0 (fun hHeld=>?_);generalize wr.drew=w0 at *;have HG:=hid (GoS.start (FA:=FA) (fc:=fc) (TA:=TA) (tc:=tc) (m:=m) (r:=r) hHeld);clear hHeld hHeld0 HI;refine za 0 (s:=HG.out.low) (h:=?_);refine za 1 (s:=HG.out.low) (h:=?_);refine za 2 (s:=HG.out.low) (h:=?_);refine za 3 (y:=fun v hSw=>by (try dsimp only at hSw);obtain ⟨d0,d1,d2,d3,d4⟩:=HD.out.below hb hSw;exact yl) (s:=HG.out.low) (h:=?_);refine za 4 (y:=fun v hSw=>by (try dsimp only at hSw);obtain ⟨d0,d1,d2,d3,d4,d5,d6,_⟩:=HRB.out v hSw;exact yl) (s:=HG.out.low) (h:=?_);refine zbC (rs:=[5,10,11]) (by kernel_rfl) (by simp) ?_;refine (zJ.cons rfl (fun K hK=>?_) (zJ.cons rfl (fun K hK=>?_) (zJ.cons rfl (fun K hK=>?_) zJ.nil)))
    ·skip
     (try rw[if_pos (by rfl)])
     go_simp
     go_at_call 30
     refine (HAH.out _ HG.out.low).mono ?_;rintro e wn1 h;obtain ⟨q,x,XA,xc,b0,rfl,hg⟩:=HG.out.call h;clear h HG;have HG:=hid hg;clear hg;unfold rqV rsV
     (try go_wp2_with fail)
     refine hK.out _ _ (.inr HG.out.low) (fun _=>nm ?_);clear hK K;refine za 6 (s:=HG.out.low) (h:=?_);refine za 7 (s:=HG.out.low) (h:=?_);refine za 8 (s:=HG.out.low) (h:=?_);refine za 9 (s:=HG.out.low) (h:=?_);refine zbC (rs:=[10,11]) (by kernel_rfl) (by simp) ?_;refine (zJ.cons rfl (fun K hK=>?_) (zJ.cons rfl (fun K hK=>?_) zJ.nil))
     ·skip
      go_simp
      show K _ (wn1.alloc (.cells zhI 44));have HG2:=hid HG.out.a7;clear HG;have HG:=HG2;clear HG2;generalize wn1.alloc (.cells zhI 44)=wn2 at *;refine hK.out _ _ (.inr HG.out.low) (fun _=>nm ?_);clear hK K;refine zc 11 (h:=fun K hK=>?_)
      go_simp
      show K _ (wn2.alloc (.cells zei 39));have HG2:=hid HG.out.a4;clear HG;have HG:=HG2;clear HG2;generalize wn2.alloc (.cells zei 39)=wn3 at *;refine hK.out _ _ (.inr HG.out.low) (fun _=>nm ?_);clear hK K;refine zc 12 (h:=fun K hK=>?_);obtain ⟨_,_,d0,d1,d2,d3,d4,d5,d6,f0,f1,f2,f3,f4,f5,f6⟩:=HG.out.hp _ rfl
      go_simp
      clear d0 d1 d2 d3 d4 d5 d6 f0 f1 f2 f3 f4 f5 f6;show K _ (rqP wn3 (wn1.heap.size) q FA fc TA tc);have HM:=hid (HG.out.mid q);have HF:=hid HG.out.fin;have H7:=hid (HG.out.low7 q);have HL:=hid (HG.out.low4 q (.int .i64 x.status) (.string x.reason) (.slice XA x.fields.length xc) (.string x.body));clear HG;generalize rqP wn3 (wn1.heap.size) q FA fc TA tc=wp at *;refine hK.out _ _ (.inr H7.out) (fun _=>nm ?_);clear hK K;refine zc 13 (h:=fun K hK=>?_);obtain ⟨⟨d0,d1,d2,d3⟩,f0,f1,f2,f3⟩:=HM.out
      go_simp
      clear d0 d1 d2 d3 f0 f1 f2 f3;show K _ (zal wp (wn2.heap.size) (.int .i64 x.status) (.string x.reason) (.slice XA x.fields.length xc) (.string x.body));refine hK.out _ _ (.inr HL.out) (fun _=>nm ?_);clear hK K;refine zc 14 (h:=fun K hK=>?_)
      (try go_simp)
      refine hK.out _ _ (.inl (by rfl)) (fun _=>nm ?_);clear hK K;refine zy (by kernel_rfl) ?_ _
      go_wp2
      go_meet
      exact HF.out
     ·skip
      go_simp
      show K _ (wn1.alloc (.cells zei 39));have HG2:=hid HG.out.a4;clear HG;have HG:=HG2;clear HG2;generalize wn1.alloc (.cells zei 39)=wn4 at *;refine hK.out _ _ (.inr HG.out.low) (fun _=>nm ?_);clear hK K;refine zc 10 (h:=fun K hK=>?_)
      go_simp
      show K _ (wn4.alloc (.cells zhI 44));have HG2:=hid HG.out.a7;clear HG;have HG:=HG2;clear HG2;generalize wn4.alloc (.cells zhI 44)=wn5 at *;refine hK.out _ _ (.inr HG.out.low) (fun _=>nm ?_);clear hK K;refine zc 12 (h:=fun K hK=>?_);obtain ⟨_,_,d0,d1,d2,d3,d4,d5,d6,f0,f1,f2,f3,f4,f5,f6⟩:=HG.out.hp _ rfl
      go_simp
      clear d0 d1 d2 d3 d4 d5 d6 f0 f1 f2 f3 f4 f5 f6;show K _ (rqP wn5 (wn4.heap.size) q FA fc TA tc);have HM:=hid (HG.out.mid q);have HF:=hid HG.out.fin;have H7:=hid (HG.out.low7 q);have HL:=hid (HG.out.low4 q (.int .i64 x.status) (.string x.reason) (.slice XA x.fields.length xc) (.string x.body));clear HG;generalize rqP wn5 (wn4.heap.size) q FA fc TA tc=wp at *;refine hK.out _ _ (.inr H7.out) (fun _=>nm ?_);clear hK K;refine zc 13 (h:=fun K hK=>?_);obtain ⟨⟨d0,d1,d2,d3⟩,f0,f1,f2,f3⟩:=HM.out
      go_simp
      clear d0 d1 d2 d3 f0 f1 f2 f3;show K _ (zal wp (wn1.heap.size) (.int .i64 x.status) (.string x.reason) (.slice XA x.fields.length xc) (.string x.body));refine hK.out _ _ (.inr HL.out) (fun _=>nm ?_);clear hK K;refine zc 14 (h:=fun K hK=>?_)
      (try go_simp)
      refine hK.out _ _ (.inl (by rfl)) (fun _=>nm ?_);clear hK K;refine zy (by kernel_rfl) ?_ _
      go_wp2
      go_meet
      exact HF.out
    ·skip
     go_simp
     show K _ (w0.alloc (.cells zhI 44));have HG2:=hid HG.out.a7;clear HG;have HG:=HG2;clear HG2;generalize w0.alloc (.cells zhI 44)=wn6 at *;refine hK.out _ _ (.inr HG.out.low) (fun _=>nm ?_);clear hK K;refine zbC (rs:=[5,11]) (by kernel_rfl) (by simp) ?_;refine (zJ.cons rfl (fun K hK=>?_) (zJ.cons rfl (fun K hK=>?_) zJ.nil))
     ·skip
      (try rw[if_pos (by rfl)])
      go_simp
      go_at_call 30
      refine (HAH.out _ HG.out.low).mono ?_;rintro e wn7 h;obtain ⟨q,x,XA,xc,b0,rfl,hg⟩:=HG.out.call h;clear h HG;have HG:=hid hg;clear hg;unfold rqV rsV
      (try go_wp2_with fail)
      refine hK.out _ _ (.inr HG.out.low) (fun _=>nm ?_);clear hK K;refine za 6 (s:=HG.out.low) (h:=?_);refine za 7 (s:=HG.out.low) (h:=?_);refine za 8 (s:=HG.out.low) (h:=?_);refine za 9 (s:=HG.out.low) (h:=?_);refine zc 11 (h:=fun K hK=>?_)
      go_simp
      show K _ (wn7.alloc (.cells zei 39));have HG2:=hid HG.out.a4;clear HG;have HG:=HG2;clear HG2;generalize wn7.alloc (.cells zei 39)=wn8 at *;refine hK.out _ _ (.inr HG.out.low) (fun _=>nm ?_);clear hK K;refine zc 12 (h:=fun K hK=>?_);obtain ⟨_,_,d0,d1,d2,d3,d4,d5,d6,f0,f1,f2,f3,f4,f5,f6⟩:=HG.out.hp _ rfl
      go_simp
      clear d0 d1 d2 d3 d4 d5 d6 f0 f1 f2 f3 f4 f5 f6;show K _ (rqP wn8 (w0.heap.size) q FA fc TA tc);have HM:=hid (HG.out.mid q);have HF:=hid HG.out.fin;have H7:=hid (HG.out.low7 q);have HL:=hid (HG.out.low4 q (.int .i64 x.status) (.string x.reason) (.slice XA x.fields.length xc) (.string x.body));clear HG;generalize rqP wn8 (w0.heap.size) q FA fc TA tc=wp at *;refine hK.out _ _ (.inr H7.out) (fun _=>nm ?_);clear hK K;refine zc 13 (h:=fun K hK=>?_);obtain ⟨⟨d0,d1,d2,d3⟩,f0,f1,f2,f3⟩:=HM.out
      go_simp
      clear d0 d1 d2 d3 f0 f1 f2 f3;show K _ (zal wp (wn7.heap.size) (.int .i64 x.status) (.string x.reason) (.slice XA x.fields.length xc) (.string x.body));refine hK.out _ _ (.inr HL.out) (fun _=>nm ?_);clear hK K;refine zc 14 (h:=fun K hK=>?_)
      (try go_simp)
      refine hK.out _ _ (.inl (by rfl)) (fun _=>nm ?_);clear hK K;refine zy (by kernel_rfl) ?_ _
      go_wp2
      go_meet
      exact HF.out
     ·skip
      go_simp
      show K _ (wn6.alloc (.cells zei 39));have HG2:=hid HG.out.a4;clear HG;have HG:=HG2;clear HG2;generalize wn6.alloc (.cells zei 39)=wn9 at *;refine hK.out _ _ (.inr HG.out.low) (fun _=>nm ?_);clear hK K;refine zc 5 (h:=fun K hK=>?_)
      (try rw[if_pos (by rfl)])
      go_simp
      go_at_call 30
      refine (HAH.out _ HG.out.low).mono ?_;rintro e wn10 h;obtain ⟨q,x,XA,xc,b0,rfl,hg⟩:=HG.out.call h;clear h HG;have HG:=hid hg;clear hg;unfold rqV rsV
      (try go_wp2_with fail)
      refine hK.out _ _ (.inr HG.out.low) (fun _=>nm ?_);clear hK K;refine za 6 (s:=HG.out.low) (h:=?_);refine za 7 (s:=HG.out.low) (h:=?_);refine za 8 (s:=HG.out.low) (h:=?_);refine za 9 (s:=HG.out.low) (h:=?_);refine zc 12 (h:=fun K hK=>?_);obtain ⟨_,_,d0,d1,d2,d3,d4,d5,d6,f0,f1,f2,f3,f4,f5,f6⟩:=HG.out.hp _ rfl
      go_simp
      clear d0 d1 d2 d3 d4 d5 d6 f0 f1 f2 f3 f4 f5 f6;show K _ (rqP wn10 (w0.heap.size) q FA fc TA tc);have HM:=hid (HG.out.mid q);have HF:=hid HG.out.fin;have H7:=hid (HG.out.low7 q);have HL:=hid (HG.out.low4 q (.int .i64 x.status) (.string x.reason) (.slice XA x.fields.length xc) (.string x.body));clear HG;generalize rqP wn10 (w0.heap.size) q FA fc TA tc=wp at *;refine hK.out _ _ (.inr H7.out) (fun _=>nm ?_);clear hK K;refine zc 13 (h:=fun K hK=>?_);obtain ⟨⟨d0,d1,d2,d3⟩,f0,f1,f2,f3⟩:=HM.out
      go_simp
      clear d0 d1 d2 d3 f0 f1 f2 f3;show K _ (zal wp (wn6.heap.size) (.int .i64 x.status) (.string x.reason) (.slice XA x.fields.length xc) (.string x.body));refine hK.out _ _ (.inr HL.out) (fun _=>nm ?_);clear hK K;refine zc 14 (h:=fun K hK=>?_)
      (try go_simp)
      refine hK.out _ _ (.inl (by rfl)) (fun _=>nm ?_);clear hK K;refine zy (by kernel_rfl) ?_ _
      go_wp2
      go_meet
      exact HF.out
    ·skip
     go_simp
     show K _ (w0.alloc (.cells zei 39));have HG2:=hid HG.out.a4;clear HG;have HG:=HG2;clear HG2;generalize w0.alloc (.cells zei 39)=wn11 at *;refine hK.out _ _ (.inr HG.out.low) (fun _=>nm ?_);clear hK K;refine zbC (rs:=[5,10]) (by kernel_rfl) (by simp) ?_;refine (zJ.cons rfl (fun K hK=>?_) (zJ.cons rfl (fun K hK=>?_) zJ.nil))
     ·skip
      (try rw[if_pos (by rfl)])
      go_simp
      go_at_call 30
      refine (HAH.out _ HG.out.low).mono ?_;rintro e wn12 h;obtain ⟨q,x,XA,xc,b0,rfl,hg⟩:=HG.out.call h;clear h HG;have HG:=hid hg;clear hg;unfold rqV rsV
      (try go_wp2_with fail)
      refine hK.out _ _ (.inr HG.out.low) (fun _=>nm ?_);clear hK K;refine za 6 (s:=HG.out.low) (h:=?_);refine za 7 (s:=HG.out.low) (h:=?_);refine za 8 (s:=HG.out.low) (h:=?_);refine za 9 (s:=HG.out.low) (h:=?_);refine zc 10 (h:=fun K hK=>?_)
      go_simp
      show K _ (wn12.alloc (.cells zhI 44));have HG2:=hid HG.out.a7;clear HG;have HG:=HG2;clear HG2;generalize wn12.alloc (.cells zhI 44)=wn13 at *;refine hK.out _ _ (.inr HG.out.low) (fun _=>nm ?_);clear hK K;refine zc 12 (h:=fun K hK=>?_);obtain ⟨_,_,d0,d1,d2,d3,d4,d5,d6,f0,f1,f2,f3,f4,f5,f6⟩:=HG.out.hp _ rfl
      go_simp
      clear d0 d1 d2 d3 d4 d5 d6 f0 f1 f2 f3 f4 f5 f6;show K _ (rqP wn13 (wn12.heap.size) q FA fc TA tc);have HM:=hid (HG.out.mid q);have HF:=hid HG.out.fin;have H7:=hid (HG.out.low7 q);have HL:=hid (HG.out.low4 q (.int .i64 x.status) (.string x.reason) (.slice XA x.fields.length xc) (.string x.body));clear HG;generalize rqP wn13 (wn12.heap.size) q FA fc TA tc=wp at *;refine hK.out _ _ (.inr H7.out) (fun _=>nm ?_);clear hK K;refine zc 13 (h:=fun K hK=>?_);obtain ⟨⟨d0,d1,d2,d3⟩,f0,f1,f2,f3⟩:=HM.out
      go_simp
      clear d0 d1 d2 d3 f0 f1 f2 f3;show K _ (zal wp (w0.heap.size) (.int .i64 x.status) (.string x.reason) (.slice XA x.fields.length xc) (.string x.body));refine hK.out _ _ (.inr HL.out) (fun _=>nm ?_);clear hK K;refine zc 14 (h:=fun K hK=>?_)
      (try go_simp)
      refine hK.out _ _ (.inl (by rfl)) (fun _=>nm ?_);clear hK K;refine zy (by kernel_rfl) ?_ _
      go_wp2
      go_meet
      exact HF.out
     ·skip
      go_simp
      show K _ (wn11.alloc (.cells zhI 44));have HG2:=hid HG.out.a7;clear HG;have HG:=HG2;clear HG2;generalize wn11.alloc (.cells zhI 44)=wn14 at *;refine hK.out _ _ (.inr HG.out.low) (fun _=>nm ?_);clear hK K;refine zc 5 (h:=fun K hK=>?_)
      (try rw[if_pos (by rfl)])
      go_simp
      go_at_call 30
      refine (HAH.out _ HG.out.low).mono ?_;rintro e wn15 h;obtain ⟨q,x,XA,xc,b0,rfl,hg⟩:=HG.out.call h;clear h HG;have HG:=hid hg;clear hg;unfold rqV rsV
      (try go_wp2_with fail)
      refine hK.out _ _ (.inr HG.out.low) (fun _=>nm ?_);clear hK K;refine za 6 (s:=HG.out.low) (h:=?_);refine za 7 (s:=HG.out.low) (h:=?_);refine za 8 (s:=HG.out.low) (h:=?_);refine za 9 (s:=HG.out.low) (h:=?_);refine zc 12 (h:=fun K hK=>?_);obtain ⟨_,_,d0,d1,d2,d3,d4,d5,d6,f0,f1,f2,f3,f4,f5,f6⟩:=HG.out.hp _ rfl
      go_simp
      clear d0 d1 d2 d3 d4 d5 d6 f0 f1 f2 f3 f4 f5 f6;show K _ (rqP wn15 (wn11.heap.size) q FA fc TA tc);have HM:=hid (HG.out.mid q);have HF:=hid HG.out.fin;have H7:=hid (HG.out.low7 q);have HL:=hid (HG.out.low4 q (.int .i64 x.status) (.string x.reason) (.slice XA x.fields.length xc) (.string x.body));clear HG;generalize rqP wn15 (wn11.heap.size) q FA fc TA tc=wp at *;refine hK.out _ _ (.inr H7.out) (fun _=>nm ?_);clear hK K;refine zc 13 (h:=fun K hK=>?_);obtain ⟨⟨d0,d1,d2,d3⟩,f0,f1,f2,f3⟩:=HM.out
      go_simp
      clear d0 d1 d2 d3 f0 f1 f2 f3;show K _ (zal wp (w0.heap.size) (.int .i64 x.status) (.string x.reason) (.slice XA x.fields.length xc) (.string x.body));refine hK.out _ _ (.inr HL.out) (fun _=>nm ?_);clear hK K;refine zc 14 (h:=fun K hK=>?_)
      (try go_simp)
      refine hK.out _ _ (.inl (by rfl)) (fun _=>nm ?_);clear hK K;refine zy (by kernel_rfl) ?_ _
      go_wp2
      go_meet
      exact HF.out
   obtain ⟨p,s,q,x,XA,xc,e,hu7,hu8,hu9,hp1,hs1,hp2,hs2,hbc,hqb,hsb,hin,hout⟩:=hcut;rw[hu7,hu8,hu9];clear hu7 hu8 hu9 HAH HD HRB hHeld0;have hzc:=hbc.size;have hlow:=HI.out.low.trans (hbc.mono HI.out.low.size);have HOWN:=hid (zW HI.out.own hbc);have HBOX:=hid (HI.out.box.below hbc hb3);have HRES:=hid (HI.out.res.below hbc hb1);have HREQ:=hid (HI.out.req.below hbc hb0);have HQB:=hid hqb;have HSB:=hid hsb;clear hqb hsb
   cases e
   ·have HIN:=hid (hin rfl)
    clear hin hout;obtain ⟨x0,x1,x2,x3,x4,x5,x6,y0,y1,y2,y3,y4,y5,y6⟩:=HQB.out;obtain ⟨e0,e1,e2,e3,e4,e5,e6,g0,g1,g2,g3,g4,g5,g6⟩:=HREQ.out
    go_upto_region 10 with (fail)
    clear x0 x1 x2 x3 x4 x5 x6 y0 y1 y2 y3 y4 y5 y6;clear e0 e1 e2 e3 e4 e5 e6 g0 g1 g2 g3 g4 g5 g6;change Code.wp _ _ _ _ (zeY wc w.heap.size (.string q.method) (.string q.target) (.int .i64 q.major) (.int .i64 q.minor) (.slice FA q.fields.length fc) (.string q.body) (.slice TA q.trailers.length tc));have HK:=hid (zbA (E:=fun k=>k=w.heap.size) wc rfl (.string q.method) (.string q.target) (.int .i64 q.major) (.int .i64 q.minor) (.slice FA q.fields.length fc) (.string q.body) (.slice TA q.trailers.length tc));have HREQ:=hid (HREQ.out.put (.string q.method) (.string q.target) (.int .i64 q.major) (.int .i64 q.minor) (.slice FA q.fields.length fc) (.string q.body) (.slice TA q.trailers.length tc));have HBOX:=hid (HBOX.out.keep HK.out (by omega) (by omega));have HRES:=hid (HRES.out.keep HK.out (by omega) (by omega));have HOWN:=hid (zP HOWN.out HK.out (fun k h=>by omega));have hlow:=zt HK.out (fun k h=>by omega) hlow;have hzc:=Nat.le_trans hzc HK.out.size;clear HK HQB HSB;generalize zeY wc w.heap.size (.string q.method) (.string q.target) (.int .i64 q.major) (.int .i64 q.minor) (.slice FA q.fields.length fc) (.string q.body) (.slice TA q.trailers.length tc)=w5 at *;obtain ⟨x0,x1,x2,x3,x4,x5,x6,y0,y1,y2,y3,y4,y5,y6⟩:=HBOX.out
    go_upto_region 11 with (fail)
    clear x0 x1 x2 x3 x4 x5 x6 y0 y1 y2 y3 y4 y5 y6;have HK:=hid (zag (E:=fun k=>k=w.heap.size+1+1+1) w5 rfl 0 (.int .i64 ((k:Int)+1)));have HBOX:=hid (show zp6 (w5.setCell ⟨w.heap.size+1+1+1,0,none⟩ (.int .i64 ((k:Int)+1))) (w.heap.size+1+1+1) ((k:Int)+1) A (k+1) c ze3 none 0 false from HBOX.out.set 0 _);have HREQ:=hid (HREQ.out.keep HK.out (by omega) (by omega));have HRES:=hid (HRES.out.keep HK.out (by omega) (by omega));have HOWN:=hid (ziT HOWN.out HK.out (fun g hg h=>by subst h;exact HI.out.apart hg));have hlow:=zt HK.out (fun k h=>by omega) hlow;have hzc:=Nat.le_trans hzc HK.out.size;clear HK;generalize w5.setCell ⟨w.heap.size+1+1+1,0,none⟩ (.int .i64 ((k:Int)+1))=w6 at *;obtain ⟨x0,x1,x2,x3,x4,x5,x6,y0,y1,y2,y3,y4,y5,y6⟩:=HBOX.out;obtain ⟨e0,e1,e2,e3,e4,e5,e6,g0,g1,g2,g3,g4,g5,g6⟩:=HREQ.out;have hro:=HOWN.out
    go_wp2_with (at_builtin;refine zq _ rfl _ _ 36 rfl (w.heap.size+1+1) 44 i0 (.agg #[.string ⟨#[]⟩,.string ⟨#[]⟩,.int .i64 0,.int .i64 0,.slice none 0 0,.string ⟨#[]⟩,.slice none 0 0]) 7 112 Tryz.underlying36 hi0' hz0' hz1' hz2' rfl (by decide) _ (k+1) (zdM FA fc TA tc (done++[r])) rfl (hro.alloc _) _ (some ⟨w6.heap.size,0,none⟩) 1 1 (zu q FA fc TA tc).toList rfl (zv (za1 w6 (zu q FA fc TA tc) 44 rfl) rfl (by decide)) (zoh q FA fc TA tc) (by unfold maxLen;omega) (by omega) (by simp;omega) ?_)
    intro v' w7 hown hg halt;clear x0 x1 x2 x3 x4 x5 x6 y0 y1 y2 y3 y4 y5 y6;clear e0 e1 e2 e3 e4 e5 e6 g0 g1 g2 g3 g4 g5 g6;have hown':=hown;have hlow:=(hlow.alloc hlow.size (.cells (zu q FA fc TA tc) 44)).grown hg (Nat.le_trans hlow.size (by simp)) (fun g h=>by have:=zI hro g h;omega);have hbig:w6.heap.size+1≤w7.heap.size:=by have:=hg.size;simpa using this
    have hblk:∀g,g<w6.heap.size→(Value.slice A (k+1) c).ownBlock≠some g→w7.heap[g]?=w6.heap[g]?:=fun g h1 h2=>by
     rw[hg.block g (by simp;omega) (fun h=>h2 h.symm)];exact (Below.alloc (Below.refl w6.heap.size w6) (Nat.le_refl _) (.cells (zu q FA fc TA tc) 44)).block g h1
    have HBOX:=hid (HBOX.out.of (hblk _ (by omega) HI.out.apart));have HREQ:=hid (HREQ.out.of (hblk _ (by omega) (fun h=>by have:=zI hro _ h;omega)));have HRES:=hid (HRES.out.of (hblk _ (by omega) (fun h=>by have:=zI hro _ h;omega)));obtain ⟨A7,c7,rfl⟩:=zC hown;have hap:(Value.slice A7 (k+1+1) c7).ownBlock≠some (w.heap.size+1+1+1):=by
     rcases halt with h|h
     ·rw[h];exact HI.out.apart
     ·rw[h];intro h2;have h3:=Option.some.inj h2;simp at h3;omega
    have HOW7:=hid hown;clear hown hown' hg halt hblk hro HOWN;obtain ⟨x0,x1,x2,x3,x4,x5,x6,y0,y1,y2,y3,y4,y5,y6⟩:=HBOX.out;have HK:=hid (zag (E:=fun k=>k=w.heap.size+1+1+1) w7 rfl 1 (.slice A7 (k+1+1) c7));have HG:=hid (GoI.on HI.out HML.out HIN.out (zt HK.out (fun k h=>by omega) hlow) (Nat.le_trans (by omega) HK.out.size) (HREQ.out.keep HK.out (by omega) (by omega)) (HRES.out.keep HK.out (by omega) (by omega)) (HBOX.out.set 1 (.slice A7 (k+1+1) c7)) (ziT HOW7.out HK.out (fun g hg h=>by subst h;exact hap hg)) hap);clear HI HREQ HRES HBOX HOW7 HK hap hlow
    go_wp2
    clear x0 x1 x2 x3 x4 x5 x6 y0 y1 y2 y3 y4 y5 y6
    go_roundw
    case rel=>exact ⟨k+1,done++[r],q,A7,c7,by omega,by simp,HG⟩
    case measure=>simp[RowKit.intOf];omega
   ·obtain ⟨ha,hrw⟩:=hout rfl
    have HRW:=hid hrw;have HAE:=hid (HI.out.way.own_at HML.out ha);clear hin hout ha hrw HREQ HQB;obtain ⟨s0,s1,s2,s3⟩:=HSB.out;obtain ⟨x0,x1,x2,x3,x4,x5,x6,y0,y1,y2,y3,y4,y5,y6⟩:=HBOX.out
    go_upto_region 8 with (fail)
    clear s0 s1 s2 s3;clear x0 x1 x2 x3 x4 x5 x6 y0 y1 y2 y3 y4 y5 y6;have HBOX:=hid (show zp6 (((((wc.setCell ⟨w.heap.size+1+1+1,2,none⟩ (.int .i64 x.status)).setCell ⟨w.heap.size+1+1+1,3,none⟩ (.string x.reason)).setCell ⟨w.heap.size+1+1+1,4,none⟩ (.slice XA x.fields.length xc)).setCell ⟨w.heap.size+1+1+1,5,none⟩ (.string x.body)).setCell ⟨w.heap.size+1+1+1,6,none⟩ (.bool true)) (w.heap.size+1+1+1) k A (k+1) c x XA xc true from ((((HBOX.out.set 2 _).set 3 _).set 4 _).set 5 _).set 6 _);have HK:=hid (show zb (fun k=>k=w.heap.size+1+1+1) wc (((((wc.setCell ⟨w.heap.size+1+1+1,2,none⟩ (.int .i64 x.status)).setCell ⟨w.heap.size+1+1+1,3,none⟩ (.string x.reason)).setCell ⟨w.heap.size+1+1+1,4,none⟩ (.slice XA x.fields.length xc)).setCell ⟨w.heap.size+1+1+1,5,none⟩ (.string x.body)).setCell ⟨w.heap.size+1+1+1,6,none⟩ (.bool true)) from
     ((((zag (E:=fun k=>k=w.heap.size+1+1+1) _ rfl _ _).trans (zag (E:=fun k=>k=w.heap.size+1+1+1) _ rfl _ _)).trans (zag (E:=fun k=>k=w.heap.size+1+1+1) _ rfl _ _)).trans (zag (E:=fun k=>k=w.heap.size+1+1+1) _ rfl _ _)).trans (zag (E:=fun k=>k=w.heap.size+1+1+1) _ rfl _ _))
    have HRES:=hid (HRES.out.keep HK.out (by omega) (by omega));have HOWN:=hid (ziT HOWN.out HK.out (fun g hg h=>by subst h;exact HI.out.apart hg));have hlow:=zt HK.out (fun k h=>by omega) hlow;have HRW:=hid (HRW.out.keep (HK.out.wider (fun k _ h=>by omega)));clear HK HSB;generalize ((((wc.setCell ⟨w.heap.size+1+1+1,2,none⟩ (.int .i64 x.status)).setCell ⟨w.heap.size+1+1+1,3,none⟩ (.string x.reason)).setCell ⟨w.heap.size+1+1+1,4,none⟩ (.slice XA x.fields.length xc)).setCell ⟨w.heap.size+1+1+1,5,none⟩ (.string x.body)).setCell ⟨w.heap.size+1+1+1,6,none⟩ (.bool true)=w5 at *;obtain ⟨x0,x1,x2,x3,x4,x5,x6,y0,y1,y2,y3,y4,y5,y6⟩:=HBOX.out;obtain ⟨e0,e1,e2,e3,e4,e5,e6,g0,g1,g2,g3,g4,g5,g6⟩:=HRES.out;have HP:=hid (zbA (E:=fun k=>k=w.heap.size+1) w5 rfl (.int .i64 k) (.slice A (k+1) c) (.int .i64 x.status) (.string x.reason) (.slice XA x.fields.length xc) (.string x.body) (.bool true));have HR:=hid (HRES.out.put (.int .i64 k) (.slice A (k+1) c) (.int .i64 x.status) (.string x.reason) (.slice XA x.fields.length xc) (.string x.body) (.bool true));have HG:=hid (zl7 (x:=x) (XA:=XA) (xc:=xc) HI.out HAE.out (zP HOWN.out HP.out (fun k h=>by omega)) (zt HP.out (fun k h=>by omega) hlow) (fun y hy=>by cases hy;exact ⟨rfl,(HRW.out.keep (HP.out.wider (fun k _ h=>by omega))).row⟩));clear HOWN HRW HAE HML hlow;clear HI HP HRES
    go_wp2
    clear x0 x1 x2 x3 x4 x5 x6 y0 y1 y2 y3 y4 y5 y6;clear e0 e1 e2 e3 e4 e5 e6 g0 g1 g2 g3 g4 g5 g6;obtain ⟨x0,x1,x2,x3,x4,x5,x6,_⟩:=HR.out;exact bodyPost_ret (w:=zeY w5 (w.heap.size+1) (.int .i64 k) (.slice A (k+1) c) (.int .i64 x.status) (.string x.reason) (.slice XA x.fields.length xc) (.string x.body) (.bool true)) (v:=.agg #[.int .i64 k,.slice A (k+1) c,.int .i64 x.status,.string x.reason,.slice XA x.fields.length xc,.string x.body,.bool true]) (by simp[results,Tryz.results11,go_sem,x0,x1,x2,x3,x4,x5,x6]) rfl HG.out
  ·have hke:k=ls.length:=by omega
   have HAE:=hid (HI.out.way.at_end (by rw[List.length_map];exact hke));have hnlt:¬(k:Int)<(ls.length:Int):=by omega
   have HBOX:=hid (show zeX wr (w.heap.size+1+1+1) (.int .i64 k) (.slice A (k+1) c) (.int .i64 0) (.string ⟨#[]⟩) (.slice none 0 0) (.string ⟨#[]⟩) (.bool false) from HI.out.box);have HRES:=hid (show zeX wr (w.heap.size+1) (.int .i64 0) (.slice none 0 0) (.int .i64 0) (.string ⟨#[]⟩) (.slice none 0 0) (.string ⟨#[]⟩) (.bool false) from HI.out.res);clear hke;obtain ⟨x0,x1,x2,x3,x4,x5,x6,y0,y1,y2,y3,y4,y5,y6⟩:=HBOX.out;obtain ⟨e0,e1,e2,e3,e4,e5,e6,g0,g1,g2,g3,g4,g5,g6⟩:=HRES.out;have HP:=hid (zbA (E:=fun k=>k=w.heap.size+1) wr rfl (.int .i64 k) (.slice A (k+1) c) (.int .i64 0) (.string ⟨#[]⟩) (.slice none 0 0) (.string ⟨#[]⟩) (.bool false));have HR:=hid (HRES.out.put (.int .i64 k) (.slice A (k+1) c) (.int .i64 0) (.string ⟨#[]⟩) (.slice none 0 0) (.string ⟨#[]⟩) (.bool false));have HG:=hid (zl7 (x:=ze3) (XA:=none) (xc:=0) HI.out HAE.out (zP HI.out.own HP.out (fun k h=>by omega)) (zt HP.out (fun k h=>by omega) HI.out.low) (fun y hy=>by cases hy));clear HI HP HRES
   go_wp2
   clear x0 x1 x2 x3 x4 x5 x6 y0 y1 y2 y3 y4 y5 y6;clear e0 e1 e2 e3 e4 e5 e6 g0 g1 g2 g3 g4 g5 g6;obtain ⟨x0,x1,x2,x3,x4,x5,x6,_⟩:=HR.out;exact bodyPost_ret (w:=zeY wr (w.heap.size+1) (.int .i64 k) (.slice A (k+1) c) (.int .i64 0) (.string ⟨#[]⟩) (.slice none 0 0) (.string ⟨#[]⟩) (.bool false)) (v:=.agg #[.int .i64 k,.slice A (k+1) c,.int .i64 0,.string ⟨#[]⟩,.slice none 0 0,.string ⟨#[]⟩,.bool false]) (by simp[results,Tryz.results11,go_sem,x0,x1,x2,x3,x4,x5,x6]) rfl HG.out
end Go.Proofs.YtbnafbdhomdcoaaGreatDoor
