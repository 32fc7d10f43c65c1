/-
  CkR, without what the claim does not reach.
-/
import Derived.Test.YtbnafbdhomdcoaaGreatDoorZn1
import Derived.Test.YtbnafbdhomdcoaaGreatDoorZm4
import Derived.Test.YtbnafbdhomdcoaaGreatDoorZm3
import Derived.Deep.DeepCutAuto
namespace Go.Proofs.YtbnafbdhomdcoaaGreatDoor
open Go.RowKit Go.Shelf Go.Lib
theorem zr3:(Tryz.prog.info? 65).map (fun i=>(i.zero,i.size,i.bytes))=some (some (.agg #[.int .i64 0,.string ⟨#[]⟩,.string ⟨#[]⟩,.slice none 0 0,.int .i64 0]),5,72):=by kernel_rfl
theorem zun:(Tryz.prog.info? 9).map (fun i=>(i.zero,i.size,i.bytes))=some (some (.string ⟨#[]⟩),1,16):=by kernel_rfl
theorem zlK (l:List Ma):∀u∈zbU l,u.oneCell'=true:=by
 intro u hu;simp only[zbU,List.mem_flatMap] at hu;obtain ⟨p,_,hp⟩:=hu;simp[maV] at hp
 rcases hp with rfl|rfl|rfl|rfl|rfl<;>rfl
theorem zuf (w:World) (t:TypeId) (m:zY) (A:Option Addr) (c:Nat):ziP (w.alloc (.cells (zf m A c) t)) w.heap.size m A c:=by
 have h:=fun j=>(zhz w [.cells (zf m A c) t] (i:=0) rfl j).1
 exact ⟨h 0,h 1,h 2,h 3,h 4⟩
theorem ziP.of {W W':World} {b:Nat} {m:zY} {A:Option Addr} {c:Nat} (h:ziP W b m A c) (hk:W'.heap[b]?=W.heap[b]?):ziP W' b m A c:=
 ⟨(World.cell?_of_block hk).trans h.1,(World.cell?_of_block hk).trans h.2.1,(World.cell?_of_block hk).trans h.2.2.1,(World.cell?_of_block hk).trans h.2.2.2.1,(World.cell?_of_block hk).trans h.2.2.2.2⟩
theorem zkF {w w':World} {v v':Value} {A:Option Addr} {xs:List Value} (h:zQ (fun b=>v.ownBlock=some b) w A xs) (hg:w.grownBy w' v.ownBlock) (alt:v'.ownBlock=v.ownBlock∨v'.ownBlock=some w.heap.size):zQ (fun b=>v'.ownBlock=some b) w' A xs:=fun hl=>by
 obtain ⟨b,off,e,hb,hd,hc⟩:=h hl;refine ⟨b,off,e,Nat.lt_of_lt_of_le hb hg.size,?_,fun j u hu=>(World.cell?_of_block (hg.block b hb (fun e=>hd e.symm))).trans (hc j u hu)⟩
 rcases alt with a|a
 ·rw[a];exact hd
 ·rw[a]
  intro h;have:=Option.some.inj h
  omega
structure MiI (w:World) (ls:List Ma) (wr:World) (k:Nat) (v:Value) (ts:List Ma):Prop where
 len:ts.length=k
 same:ts.map (·.1)=(ls.take k).map (·.1)
 own:wr.ownsRow w.heap.size 65 5 v k (zbU ts)
 rows:∀y∈ts,zQ (fun b=>v.ownBlock=some b) wr y.2.1 (y.1.list.map .string)∧y.1.list.length≤y.2.2∧zaY y.1
 low:Below w.heap.size w wr
theorem MiI.start (w:World) (ls:List Ma):MiI w ls (w.alloc (.cells #[] 65)) 0 (.slice (some ⟨w.heap.size,0,none⟩) 0 0) []:=
 ⟨rfl,by simp,World.ownsRow_lit w #[] 0 (Nat.le_refl _) (by unfold maxLen;omega) rfl,fun y hy=>(by cases hy),(Below.refl _ _).alloc (Nat.le_refl _) _⟩
theorem MiI.step {w wr W2 W4:World} {ls ts:List Ma} {k B2:Nat} {v v':Value} {m:zY} {MB A2:Option Addr} {mc c2:Nat} {o:Obj} {E:TypeId} (h:MiI w ls wr k v ts) (hx:ls[k]?=some (m,MB,mc)) (hm:zaY m) (hb:Below wr.heap.size wr W2)
  (ho:W2.ownsRow B2 E 1 (.slice A2 m.list.length c2) m.list.length (m.list.map .string)) (hB:wr.heap.size≤B2) (hown:W4.ownsRow w.heap.size 65 5 v' (k+1) (zbU ts++maV (m,A2,c2))) (hg:(W2.alloc o).grownBy W4 v.ownBlock) (alt:v'.ownBlock=v.ownBlock∨v'.ownBlock=some (W2.alloc o).heap.size):
  MiI w ls W4 (k+1) v' (ts++[(m,A2,c2)]):=by
 have h1:Below W2.heap.size W2 (W2.alloc o):=(Below.refl _ _).alloc (Nat.le_refl _) o;refine ⟨by rw[List.length_append,h.len];rfl,?_,?_,?_,?_⟩
 ·rw[zb6 hx,List.map_append,List.map_append,h.same]
  rfl
 ·have e:zbU (ts++[(m,A2,c2)])=zbU ts++maV (m,A2,c2):=by simp[zbU]
  rw[e];exact hown
 ·intro y hy
  rcases List.mem_append.1 hy with hy|hy
  ·obtain ⟨r1,r2⟩:=h.rows y hy
   exact ⟨zkF ((r1.below hb).below h1) hg alt,r2⟩
  ·rcases List.mem_singleton.1 hy with rfl
   have hr:zQ (fun b=>v.ownBlock=some b) W2 A2 (m.list.map .string):=zQ.of_own ho ho (fun b hv=>Nat.lt_of_lt_of_le (h.own.lt b hv).2 hB);exact ⟨zkF (hr.below h1) hg alt,zdq ho,hm⟩
 ·exact (h.low.trans ((hb.trans (h1.mono hb.size)).mono h.low.size)).grown hg (Nat.le_trans h.low.size (Nat.le_trans hb.size h1.size)) (fun g e=>(h.own.lt g e).1)
def zrj (w:World) (ls:List Ma) (e:Ending) (w':World):Prop:=
 ∃(A:Option Addr) (c:Nat) (ts:List Ma),e= .returned (.slice A ts.length c)∧ts.map (·.1)=ls.map (·.1)∧Row w' A (zbU ts)∧(∀y∈ts,Row w' y.2.1 (y.1.list.map .string)∧y.1.list.length≤y.2.2∧zaY y.1)∧Below w.heap.size w w'
theorem MiI.gives {w wr:World} {ls ts:List Ma} {A:Option Addr} {c:Nat} (h:MiI w ls wr ls.length (.slice A ls.length c) ts):zrj w ls (.returned (.slice A ls.length c)) wr:=by
 refine ⟨A,c,ts,by rw[h.len],?_,zak h.own,fun y hy=>⟨(h.rows y hy).1.row,(h.rows y hy).2⟩,h.low⟩;rw[h.same,List.take_length]
set_option maxRecDepth 20000 in
set_option maxHeartbeats 8000000 in
theorem zpr (ls:List Ma) (MA:Option Addr) (mc:Nat) (w:World) (hM:Row w MA (zbU ls)) (hO:∀y∈ls,Row w y.2.1 (y.1.list.map .string)∧y.1.list.length≤y.2.2∧zaY y.1) (hll:ls.length≤1048576):
  Calls Tryz.prog 10 #[.slice MA ls.length mc] w (zrj w ls):=by
 have HM:=hid (fun (W:World) (h:Below w.heap.size w W)=>hM.below h);have HO:=hid (fun (W:World) (h:Below w.heap.size w W) y (hy:y∈ls)=>(⟨(hO y hy).1.below h,(hO y hy).2⟩:Row W y.2.1 (y.1.list.map .string)∧y.1.list.length≤y.2.2∧zaY y.1));have HI0:=hid (MiI.start w ls);obtain ⟨i0,hi0,hz0,hz1,hz2'⟩:=info_parts zr3;obtain ⟨i1,hi1,hy0,hy1,hy2⟩:=info_parts zun;clear hM hO
 go_enter Tryz.func10,Tryz.ntmps10
 go_wp2_with fail
 go_loopw [3,4] (fun v i wr=>∃(k:Nat) (ts:List Ma),k≤ls.length∧i= .int .i64 k∧Hid (MiI w ls wr k v ts)) (fun _ i _=>ls.length - (RowKit.intOf i).toNat)
 case atStart=>exact ⟨0,[],by omega,rfl,HI0⟩
 case round=>
  obtain ⟨k,ts,hk,rfl,HI⟩:=hrel;clear HI0;obtain ⟨VA,vc,rfl⟩:=zC HI.out.own
  by_cases hlt:k<ls.length
  ·have hlt':(k:Int)<(ls.length:Int):=by omega
   obtain ⟨⟨m,MB,mc1⟩,hmj⟩:=zD hlt;obtain ⟨b,off,rfl,hb,hd⟩:=zpQ (HM.out wr HI.out.low) hmj;obtain ⟨o1,o2,o3⟩:=HO.out wr HI.out.low _ (List.mem_of_getElem? hmj);dsimp only at o1 o2 o3;have HSTEP:=hid (fun (W2 W4:World) (B2:Nat) (v':Value) (A2:Option Addr) (c2:Nat) (o:Obj) (hb:Below wr.heap.size wr W2) (ho:W2.ownsRow B2 9 1 (.slice A2 m.list.length c2) m.list.length (m.list.map .string)) (hB:wr.heap.size≤B2) (hown:W4.ownsRow w.heap.size 65 5 v' (k+1) (zbU ts++maV (m,A2,c2))) (hg:(W2.alloc o).grownBy W4 (Value.slice VA k vc).ownBlock) (alt:v'.ownBlock=(Value.slice VA k vc).ownBlock∨v'.ownBlock=some (W2.alloc o).heap.size)=>HI.out.step (v':=v') hmj o3 hb ho hB hown hg alt);have HL:=hid (zcD o3.list).2.1;have HR:=hid (fun (W:World) (h:Below wr.heap.size wr W)=>zv (o1.below h) (by rw[List.length_map,Nat.mul_one]) (by decide :(0:Nat)<1));have HOW:=hid HI.out.own;have hwl:=HI.out.low.size;obtain ⟨d0,d1,d2,d3,d4⟩:=hd;clear o1 o2 o3 hmj HI HM HO
   go_upto_region 6 with (fail)
   have HB:=hid ((Below.refl wr.heap.size wr).alloc (Nat.le_refl _) (.cells (zf m MB mc1) 24));have HMI:=hid (zuf wr 24 m MB mc1);have HZ:=hid (show wr.heap.size<(wr.alloc (.cells (zf m MB mc1) 24)).heap.size by simp);clear d0 d1 d2 d3 d4;unfold zf at HB HMI HZ;generalize wr.alloc (.cells #[.int .i64 m.kind,.string m.name,.string m.value,.slice MB m.list.length mc1,.int .i64 m.n] 24)=W1 at *;refine zO (t:=16) (S:=fun W=>ziP W wr.heap.size m MB mc1) (by kernel_rfl) (show ziP W1.drew wr.heap.size m MB mc1 from HMI.out) (fun hHeld=>?_);have hB0:=zaM (Below.refl W1.heap.size W1);generalize W1.drew=w0 at *;refine za 0 (s:=hHeld) (h:=?_);refine za 1 (s:=hHeld) (h:=?_);refine za 2 (y:=fun v hSw=>by (try dsimp only at hSw);obtain ⟨d0,d1,d2,d3,d4⟩:=hSw;exact yl) (s:=hHeld) (h:=?_);refine za 3 (s:=hHeld) (h:=?_);refine za 4 (y:=fun v hSw=>by (try dsimp only at hSw);obtain ⟨d0,d1,d2,d3,d4⟩:=hSw;exact yl) (s:=hHeld) (h:=?_);refine za 5 (s:=hHeld) (h:=?_);refine za 6 (y:=fun v hSw=>by (try dsimp only at hSw);obtain ⟨d0,d1,d2,d3,d4⟩:=hSw;exact yl) (s:=hHeld) (h:=?_);refine za 8 (s:=hHeld) (h:=?_);refine za 9 (y:=fun v hSw=>by (try dsimp only at hSw);obtain ⟨d0,d1,d2,d3,d4⟩:=hSw;exact yl) (s:=hHeld) (h:=?_);refine za 11 (s:=hHeld) (h:=?_);refine za 12 (y:=fun v hSw=>by (try dsimp only at hSw);obtain ⟨d0,d1,d2,d3,d4⟩:=hSw;exact yl) (s:=hHeld) (h:=?_);refine zc 7 (h:=fun K hK=>?_);have hb1:=hB0.alloc hB0.size (.cells #[] 9);have OL:=hid (World.ownsRow_lit (base:=w0.heap.size) (e:=9) (size:=1) w0 #[] 0 (Nat.le_refl _) (by unfold maxLen;omega) rfl);have hsz0:=hB0.size;have hlw:w0.heap.size≤(w0.alloc (.cells #[] 9)).heap.size:=by simp
   go_simp
   refine hK.out _ _ (.inr (HMI.out.keep (E:=fun _=>False) (zb.of hb1) HZ.out (fun h=>h))) (fun _=>nm ?_);clear hK K;refine zc 10 (h:=fun K hK=>?_);refine zaO _ rfl (.tmp 24) (.tmp 26) 22 rfl w0.heap.size 9 i1 (.string ⟨#[]⟩) 1 16 Tryz.underlying22 hi1 hy0 hy1 hy2 rfl (by decide) _ 0 [] (by rfl) OL.out _ MB m.list.length mc1 (m.list.map .string) (by rfl) (HR.out _ (HB.out.trans (hb1.mono HB.out.size))) (za5 _) (by have:=HL.out;unfold maxLen;omega) (by have:=HL.out;omega) hlw ?_;intro v2 W2 hown2 hg2 _;have hb2:Below W1.heap.size W1 W2:=hb1.grown hg2 hb1.size (fun g h=>Nat.le_trans hsz0 (zI OL.out g h));have ho2:W2.ownsRow w0.heap.size 9 1 v2 m.list.length (m.list.map .string):=by rw[Nat.zero_add,List.nil_append] at hown2;exact hown2
   obtain ⟨A2,c2,rfl⟩:=zC ho2;have HO2:=hid ho2;have HB2:=hid (HB.out.trans (hb2.mono HB.out.size));have HM2:=hid (HMI.out.keep (E:=fun _=>False) (zb.of hb2) HZ.out (fun h=>h));have hw0:wr.heap.size≤w0.heap.size:=Nat.le_trans (Nat.le_of_lt HZ.out) hsz0;have hz2:wr.heap.size<W2.heap.size:=Nat.lt_of_lt_of_le HZ.out hb2.size;clear hown2 hg2 ho2 hb1 hb2 OL hsz0 hlw hHeld hB0;refine hK.out _ _ (.inr HM2.out) (fun _=>nm ?_);clear hK K;refine za 13 (s:=HM2.out) (h:=?_);refine zc 14 (h:=fun K hK=>?_);have HM3:=hid (HM2.out.keep (E:=fun _=>False) (zb.of ((Below.refl W2.heap.size W2).alloc (Nat.le_refl _) (.cells #[.int .i64 m.kind,.string m.name,.string m.value,.slice A2 m.list.length c2,.int .i64 m.n] 65))) hz2 (fun h=>h))
   go_simp
   refine hK.out _ _ (.inr HM3.out) (fun _=>nm ?_);clear hK K;refine zc 15 (h:=fun K hK=>?_);have HO3:=hid ((zW HOW.out HB2.out).alloc (.cells #[.int .i64 m.kind,.string m.name,.string m.value,.slice A2 m.list.length c2,.int .i64 m.n] 65));have hlw:w.heap.size≤(W2.alloc (.cells #[.int .i64 m.kind,.string m.name,.string m.value,.slice A2 m.list.length c2,.int .i64 m.n] 65)).heap.size:=by simp;omega
   refine zaO _ rfl (.tmp 17) (.tmp 31) 34 rfl w.heap.size 65 i0 (.agg #[.int .i64 0,.string ⟨#[]⟩,.string ⟨#[]⟩,.slice none 0 0,.int .i64 0]) 5 72 Tryz.underlying34 hi0 hz0 hz1 hz2' rfl (by decide) _ k (zbU ts) (by rfl) HO3.out _ (some ⟨W2.heap.size,0,none⟩) 1 1 (maV (m,A2,c2)) (by rfl) (zv (za1 W2 #[.int .i64 m.kind,.string m.name,.string m.value,.slice A2 m.list.length c2,.int .i64 m.n] 65 rfl) rfl (by decide)) (by have h:=zlK [(m,A2,c2)];simpa [zbU] using h) (by unfold maxLen;omega) (by omega) hlw ?_;intro v' W4 hown hg alt;have HI2:=hid (HSTEP.out W2 W4 w0.heap.size v' A2 c2 _ HB2.out HO2.out hw0 hown hg alt);have HM4:=hid (HM3.out.of (hg.block wr.heap.size (by simp;omega) (fun h=>by have:=(HOW.out.lt _ h.symm).2;omega)));clear hown hg alt HO2 HO3 HM2 HM3 HB2 hlw hz2 hw0 HSTEP HR HL HOW HB HMI HZ hwl;refine hK.out _ _ (.inr HM4.out) (fun _=>nm ?_);clear hK K;refine zc 16 (h:=fun K hK=>?_)
   (try go_simp)
   refine hK.out _ _ (.inl (by rfl)) (fun _=>?_);clear hK K HM4;refine nm ?_;refine zy (by kernel_rfl) ?_ _
   go_wp2
   go_roundw
   case rel=>exact ⟨k+1,ts++[(m,A2,c2)],by omega,by simp,HI2⟩
   case measure=>simp[RowKit.intOf];omega
  ·obtain rfl:k=ls.length:=by omega
   have HG:=hid HI.out.gives;clear HI HM HO
   go_wp2
   go_ret
   exact HG.out
def zu9 (r:Rq) (w:World) (e:Ending) (w':World):Prop:=∃A c B d,e= .returned (rqV r A c B d)∧Row w' A (zj r.fields)∧Row w' B (zj r.trailers)∧Below w.heap.size w w'
def R2 (w:World) (a:Array Value):World:=Bx w [.cells a 27,.cells zhI 44]
theorem zxk (w:World) (a:Array Value):(w.alloc (.cells a 27)).alloc (.cells #[.string ⟨#[]⟩,.string ⟨#[]⟩,.int .i64 0,.int .i64 0,.slice none 0 0,.string ⟨#[]⟩,.slice none 0 0] 44)=R2 w a:=rfl
theorem zvb (w:World) (a:Array Value):(R2 w a).heap.size=w.heap.size+2:=zfZ w _
theorem zuT (w:World) (a:Array Value):Below w.heap.size w (R2 w a):=zd4 w _
theorem zuz {w W:World} {r:Rq} {FA TA:Option Addr} {fc tc:Nat} (h:Below (R2 w (zu r FA fc TA tc)).heap.size (R2 w (zu r FA fc TA tc)) W):zh5 W w.heap.size r FA fc TA tc∧znk W (w.heap.size+1):=by
 have f:=fun j=>zg (i:=0) (E:=fun _=>False) (zb.of h) rfl (fun h=>h) j
 have g:=fun j=>zg (i:=1) (E:=fun _=>False) (zb.of h) rfl (fun h=>h) j
 exact ⟨⟨(f 0).1,(f 1).1,(f 2).1,(f 3).1,(f 4).1,(f 5).1,(f 6).1⟩,⟨(g 0).1,(g 1).1,(g 2).1,(g 3).1,(g 4).1,(g 5).1,(g 6).1⟩,(g 0).2,(g 1).2,(g 2).2,(g 3).2,(g 4).2,(g 5).2,(g 6).2⟩
set_option maxRecDepth 20000 in
set_option maxHeartbeats 8000000 in
theorem znY (r:Rq) (FA:Option Addr) (fc:Nat) (TA:Option Addr) (tc:Nat) (w:World) (hF:Row w FA (zj r.fields)) (hT:Row w TA (zj r.trailers)) (hl:r.fields.length≤4398046511104) (hl2:r.trailers.length≤4398046511104):
  Calls Tryz.prog 12 #[rqV r FA fc TA tc] w (zu9 r w):=by
 have HZ:=hid (zuT w (zu r FA fc TA tc));have HS:=hid (zvb w (zu r FA fc TA tc));have HFL:=hid (fun (W:World) (h:Below w.heap.size w W)=>zkc FA fc r.fields W (hF.below h) hl);have HTL:=hid (fun (W:World) (h:Below w.heap.size w W)=>zkc TA tc r.trailers W (hT.below h) hl2);have HBX:=hid (fun (W:World) (h:Below (R2 w (zu r FA fc TA tc)).heap.size (R2 w (zu r FA fc TA tc)) W)=>zuz h);clear hF hT hl hl2;unfold rqV
 go_enter Tryz.func12,Tryz.ntmps12
 go_wp2_with fail
 rw[zxk];have hHeld0:=zaM (Below.refl (R2 w (zu r FA fc TA tc)).heap.size (R2 w (zu r FA fc TA tc)));refine zO (t:=17) (S:=fun W=>Below (R2 w (zu r FA fc TA tc)).heap.size (R2 w (zu r FA fc TA tc)) W) (by kernel_rfl) hHeld0 (fun hHeld=>?_);clear hHeld0;generalize (R2 w (zu r FA fc TA tc)).drew=w0 at *;refine za 0 (s:=hHeld) (h:=?_);refine za 1 (y:=fun v hSw=>by (try dsimp only at hSw);obtain ⟨⟨a0,a1,a2,a3,a4,a5,a6⟩,_⟩:=HBX.out v hSw;exact yl) (s:=hHeld) (h:=?_);refine za 2 (s:=hHeld) (h:=?_);refine za 3 (y:=fun v hSw=>by (try dsimp only at hSw);obtain ⟨⟨a0,a1,a2,a3,a4,a5,a6⟩,_⟩:=HBX.out v hSw;exact yl) (s:=hHeld) (h:=?_);refine za 4 (s:=hHeld) (h:=?_);refine za 5 (y:=fun v hSw=>by (try dsimp only at hSw);obtain ⟨⟨a0,a1,a2,a3,a4,a5,a6⟩,_⟩:=HBX.out v hSw;exact yl) (s:=hHeld) (h:=?_);refine za 6 (s:=hHeld) (h:=?_);refine za 7 (y:=fun v hSw=>by (try dsimp only at hSw);obtain ⟨⟨a0,a1,a2,a3,a4,a5,a6⟩,_⟩:=HBX.out v hSw;exact yl) (s:=hHeld) (h:=?_);refine za 8 (s:=hHeld) (h:=?_);refine za 9 (y:=fun v hSw=>by (try dsimp only at hSw);obtain ⟨⟨a0,a1,a2,a3,a4,a5,a6⟩,_⟩:=HBX.out v hSw;exact yl) (s:=hHeld) (h:=?_);refine za 11 (s:=hHeld) (h:=?_);refine za 12 (y:=fun v hSw=>by (try dsimp only at hSw);obtain ⟨⟨a0,a1,a2,a3,a4,a5,a6⟩,_⟩:=HBX.out v hSw;exact yl) (s:=hHeld) (h:=?_);refine za 13 (s:=hHeld) (h:=?_);refine za 14 (y:=fun v hSw=>by (try dsimp only at hSw);obtain ⟨⟨a0,a1,a2,a3,a4,a5,a6⟩,_⟩:=HBX.out v hSw;exact yl) (s:=hHeld) (h:=?_);refine zc 10 (h:=fun K hK=>?_)
 (try rw[if_pos (by rfl)])
 go_simp
 go_at_call 31
 refine (HFL.out _ (HZ.out.trans (hHeld.mono HZ.out.size))).mono ?_;rintro e w1 ⟨A,c,rfl,ho1,hb1⟩;have hz1:=hHeld.size;have hh1:=hHeld.trans (hb1.mono hHeld.size);clear hHeld hb1
 (try go_wp2_with fail)
 refine hK.out _ _ (.inr hh1) (fun _=>nm ?_);clear hK K;refine zc 15 (h:=fun K hK=>?_)
 (try rw[if_pos (by rfl)])
 go_simp
 go_at_call 31
 refine (HTL.out _ (HZ.out.trans (hh1.mono HZ.out.size))).mono ?_;rintro e w2 ⟨B,d,rfl,ho2,hb2⟩;have hz2:=hh1.size;have hh2:=hh1.trans (hb2.mono hh1.size);have ho3:=zW ho1 hb2;clear hh1 hb2 ho1
 (try go_wp2_with fail)
 refine hK.out _ _ (.inr hh2) (fun _=>nm ?_);clear hK K;refine za 16 (s:=hh2) (h:=?_);refine zc 17 (h:=fun K hK=>?_);obtain ⟨_,⟨d0,d1,d2,d3,d4,d5,d6⟩,f0,f1,f2,f3,f4,f5,f6⟩:=HBX.out w2 hh2;have H7:=hid (HBX.out w2 hh2).2
 go_simp
 clear d0 d1 d2 d3 d4 d5 d6 f0 f1 f2 f3 f4 f5 f6;show K _ (zeY w2 (w.heap.size+1) (.string r.method) (.string r.target) (.int .i64 r.major) (.int .i64 r.minor) (.slice A r.fields.length c) (.string r.body) (.slice B r.trailers.length d));have HK:=hid (zbA (E:=fun k=>k=w.heap.size+1) w2 rfl (.string r.method) (.string r.target) (.int .i64 r.major) (.int .i64 r.minor) (.slice A r.fields.length c) (.string r.body) (.slice B r.trailers.length d));have HR:=hid (H7.out.put (r:=r) (FA:=A) (fc:=c) (TA:=B) (tc:=d));have hsz:=HS.out;have HO1:=hid (zP ho3 HK.out (fun k h=>by omega));have HO2:=hid (zP ho2 HK.out (fun k h=>by omega));have HW:=hid (zt HK.out (fun k h=>by omega) (HZ.out.trans (hh2.mono HZ.out.size)));clear H7 HK ho2 ho3 hsz hz1 hz2 hh2;generalize zeY w2 (w.heap.size+1) (.string r.method) (.string r.target) (.int .i64 r.major) (.int .i64 r.minor) (.slice A r.fields.length c) (.string r.body) (.slice B r.trailers.length d)=w9 at *;refine hK.out _ _ (.inl (by rfl)) (fun _=>nm ?_);clear hK K;refine zy (by kernel_rfl) ?_ _;obtain ⟨a0,a1,a2,a3,a4,a5,a6⟩:=HR.out
 go_wp2
 exact bodyPost_ret (w:=w9) (v:=rqV r A c B d) (by simp[results,Tryz.results12,go_sem,rqV,a0,a1,a2,a3,a4,a5,a6]) rfl ⟨A,c,B,d,rfl,zak HO1.out,zak HO2.out,HW.out⟩
end Go.Proofs.YtbnafbdhomdcoaaGreatDoor
