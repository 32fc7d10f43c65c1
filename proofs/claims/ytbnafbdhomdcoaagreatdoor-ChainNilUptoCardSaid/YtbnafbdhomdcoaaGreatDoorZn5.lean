/-
  CjC2, CjE, without what the claim does not reach.
-/
import Derived.Test.YtbnafbdhomdcoaaGreatDoorZm9
import Derived.Test.YtbnafbdhomdcoaaGreatDoorZCjDj
import Derived.Test.YtbnafbdhomdcoaaGreatDoorZm7
import Derived.Deep.DeepCutAuto
import Derived.Deep.RegionWith
namespace Go.Proofs.YtbnafbdhomdcoaaGreatDoor
open Go.RowKit Go.Shelf Go.Lib
theorem ztb {m:zY} (hk:m.kind=8) (h0:0<m.list.length):zjN m 71:=by
 refine ⟨fun args w=>Tryz.call71 args w,fun D Pre n0 N T f w r A c FA fc TA tc hE hP hX hn0 hN8 hN hA hcap hF hT hm hr=>?_⟩;have key:DoR m 71 r:=by
  cases hfr:zcq m r with
  |none=>exact znO hk h0 hfr
  |some ov=>
   by_cases hmo:r.method=zdI
   ·cases haq:zaD r.fields zd5 with
    |none=>exact ziD hk h0 hfr (.inl haq)
    |some v=>exact zlL hk h0 hfr haq hmo
   ·exact ziD hk h0 hfr (.inr hmo)
 exact key D Pre n0 N T f w A c FA fc TA tc hE hP hX hn0 hN8 hN hA hcap hF hT hm hr
theorem zj7 {m:zY} (h:zcz m.kind=true):m.kind=1∨m.kind=2∨m.kind=3∨m.kind=4∨m.kind=5∨m.kind=6∨m.kind=7∨m.kind=8∨m.kind=9∨m.kind=10:=by
 unfold zcz at h;simp at h
 omega
theorem zuj {m:zY} (h:zr m=true):∃dg,zmD[(m.kind - 1).toNat*3+2]?=some (.func (.func dg) #[] #[])∧zjN m dg:=by
 unfold zr at h;rw[Bool.and_eq_true,Bool.and_eq_true] at h;obtain ⟨h1,_,h3⟩:=h
 rcases zj7 h1 with hk|hk|hk|hk|hk|hk|hk|hk|hk|hk
 ·exact ⟨_,by rw[hk];rfl,zwW hk⟩
 ·exact ⟨_,by rw[hk];rfl,zwT hk⟩
 ·exact ⟨_,by rw[hk];rfl,zvr hk⟩
 ·exact ⟨_,by rw[hk];rfl,zqH hk⟩
 ·exact ⟨_,by rw[hk];rfl,zwb hk⟩
 ·refine ⟨_,by rw[hk];rfl,zua hk ?_⟩
  unfold zab at h3;rw[hk] at h3
  simpa using h3
 ·refine ⟨_,by rw[hk];rfl,zud hk ?_⟩
  unfold zab at h3;rw[hk] at h3;simp at h3;exact h3.2.1
 ·refine ⟨_,by rw[hk];rfl,ztb hk ?_⟩
  unfold zab at h3;rw[hk] at h3;simp at h3;exact h3.2.1
 ·exact ⟨_,by rw[hk];rfl,ztZ hk⟩
 ·exact ⟨_,by rw[hk];rfl,zva hk⟩
set_option maxRecDepth 20000 in
theorem zur (m:zY) (A:Option Addr) (c:Nat) (w:World) (hk:zcz m.kind=false):
  Calls Tryz.prog 34 #[zL m A c] w fun e w'=>e= .returned (.int .i64 190)∧Below w.heap.size w w':=by
 have HW:=hid ziF;have hkk:m.kind<1∨¬m.kind<1∧10<m.kind:=by
  unfold zcz at hk;simp at hk
  omega
 clear hk;unfold zL
 rcases hkk with h|⟨h0,h⟩
 ·have h1:decide (m.kind<1)=true:=decide_eq_true h
  go_enter Tryz.func34,Tryz.ntmps34
  go_wp2_with fail
  refine (HW.out _).mono ?_;rintro e w1 ⟨rfl,hw1⟩;have hb:Below w.heap.size w w1:=by rw[hw1];exact ((Below.refl _ w).alloc (Nat.le_refl _) _).alloc (by simp) _
  have c0:w1.cell? ⟨w.heap.size,0,none⟩=some (.int .i64 m.kind):=by rw[hw1,World.cell?_alloc_lt _ _ _ (by simp)];simp
  clear hw1
  go_wp2
  go_ret
  exact ⟨rfl,hb⟩
 ·have h1:decide (m.kind<1)=false:=decide_eq_false h0
  have h2:decide (10<m.kind)=true:=decide_eq_true h
  go_enter Tryz.func34,Tryz.ntmps34
  go_wp2_with fail
  refine (HW.out _).mono ?_;rintro e w1 ⟨rfl,hw1⟩;have hb:Below w.heap.size w w1:=by rw[hw1];exact ((Below.refl _ w).alloc (Nat.le_refl _) _).alloc (by simp) _
  have c0:w1.cell? ⟨w.heap.size,0,none⟩=some (.int .i64 m.kind):=by rw[hw1,World.cell?_alloc_lt _ _ _ (by simp)];simp
  clear hw1
  go_wp2
  go_ret
  exact ⟨rfl,hb⟩
theorem zvO {m:zY} {t1 t2 t3 t4:Bool} (h1:zwN m.kind=t1) (h2:zwL m.kind=t2) (h3:zw1 m.kind=t3) (h4:zwm m.kind=t4) (hk:zcz m.kind=true):(zih t1 t2 t3 t4 m&&zab m)=zr m:=by
 unfold zr zcP;rw[h1,h2,h3,h4,hk,Bool.true_and]
 rfl
theorem zsv (m:zY) (A:Option Addr) (c:Nat) (w:World) (hr:Row w A (m.list.map .string)) (hc:m.list.length≤c) (hm:zaY m) (hg:zdF w):
  Calls Tryz.prog 34 #[zL m A c] w fun e w'=>e= .returned (.int .i64 (zaq (zr m)))∧Below w.heap.size w w':=by
 cases hko:zcz m.kind
 ·refine (zur m A c w hko).mono fun e w' h=>⟨?_,h.2⟩
  rw[h.1];have:zr m=false:=by unfold zr;rw[hko];rfl
  rw[this]
  rfl
 ·have fin:∀{t1 t2 t3 t4:Bool},zwN m.kind=t1→zwL m.kind=t2→zw1 m.kind=t3→zwm m.kind=t4→
    Calls Tryz.prog 34 #[zL m A c] w (fun e w'=>e= .returned (.int .i64 (zaq (zih t1 t2 t3 t4 m&&zab m)))∧Below w.heap.size w w')→
    Calls Tryz.prog 34 #[zL m A c] w fun e w'=>e= .returned (.int .i64 (zaq (zr m)))∧Below w.heap.size w w':=fun h1 h2 h3 h4 h=>h.mono fun e w' g=>⟨by rw[g.1,zvO h1 h2 h3 h4 hko],g.2⟩
  rcases zj7 hko with hk|hk|hk|hk|hk|hk|hk|hk|hk|hk
  ·exact fin (by rw[hk];rfl) (by rw[hk];rfl) (by rw[hk];rfl) (by rw[hk];rfl) (zci m A c w 0 (by decide) (by rw[hk];rfl) 3 _ _ true true false false (zab m) rfl rfl rfl (by kernel_rfl) (by kernel_rfl) (by kernel_rfl) (by kernel_rfl) (fun args w=>Tryz.call53 args w)
    (fun W h=>(zkC m A c W hm (hg.beyond h).g).mono fun e w' g=>⟨by rw[g.1];unfold zab;rw[if_pos (.inl hk)],g.2⟩))
  ·exact fin (by rw[hk];rfl) (by rw[hk];rfl) (by rw[hk];rfl) (by rw[hk];rfl) (zci m A c w 1 (by decide) (by rw[hk];rfl) 3 _ _ true true false false (zab m) rfl rfl rfl (by kernel_rfl) (by kernel_rfl) (by kernel_rfl) (by kernel_rfl) (fun args w=>Tryz.call53 args w)
    (fun W h=>(zkC m A c W hm (hg.beyond h).g).mono fun e w' g=>⟨by rw[g.1];unfold zab;rw[if_pos (.inr hk)],g.2⟩))
  ·exact fin (by rw[hk];rfl) (by rw[hk];rfl) (by rw[hk];rfl) (by rw[hk];rfl) (zci m A c w 2 (by decide) (by rw[hk];rfl) 1 _ _ true false false false (zab m) rfl rfl rfl (by kernel_rfl) (by kernel_rfl) (by kernel_rfl) (by kernel_rfl) (fun args w=>Tryz.call58 args w)
    (fun W h=>(zqa m A c W hm (hg.beyond h).g).mono fun e w' g=>⟨by rw[g.1];unfold zab;rw[if_neg (by omega),if_pos hk],g.2⟩))
  ·exact fin (by rw[hk];rfl) (by rw[hk];rfl) (by rw[hk];rfl) (by rw[hk];rfl) (zci m A c w 3 (by decide) (by rw[hk];rfl) 4 _ _ false false true false (zab m) rfl rfl rfl (by kernel_rfl) (by kernel_rfl) (by kernel_rfl) (by kernel_rfl) (fun args w=>Tryz.call60 args w)
    (fun W h=>(zq0 m A c W (hr.below h) hc hm (hg.beyond h).g).mono fun e w' g=>⟨by rw[g.1];unfold zab;rw[if_neg (by omega),if_neg (by omega),if_pos hk],g.2⟩))
  ·exact fin (by rw[hk];rfl) (by rw[hk];rfl) (by rw[hk];rfl) (by rw[hk];rfl) (zci m A c w 4 (by decide) (by rw[hk];rfl) 8 _ _ false false false true (zab m) rfl rfl rfl (by kernel_rfl) (by kernel_rfl) (by kernel_rfl) (by kernel_rfl) (fun args w=>Tryz.call63 args w)
    (fun W _=>(zpF m A c W).mono fun e w' g=>⟨by rw[g.1];unfold zab;rw[if_neg (by omega),if_neg (by omega),if_neg (by omega),if_pos hk],g.2⟩))
  ·exact fin (by rw[hk];rfl) (by rw[hk];rfl) (by rw[hk];rfl) (by rw[hk];rfl) (zci m A c w 5 (by decide) (by rw[hk];rfl) 2 _ _ false true false false (zab m) rfl rfl rfl (by kernel_rfl) (by kernel_rfl) (by kernel_rfl) (by kernel_rfl) (fun args w=>Tryz.call65 args w)
    (fun W h=>(zqu m A c W hm (hg.beyond h)).mono fun e w' g=>⟨by rw[g.1];unfold zab;rw[if_neg (by omega),if_neg (by omega),if_neg (by omega),if_neg (by omega),if_pos hk],g.2⟩))
  ·exact fin (by rw[hk];rfl) (by rw[hk];rfl) (by rw[hk];rfl) (by rw[hk];rfl) (zci m A c w 6 (by decide) (by rw[hk];rfl) 5 _ _ true false true false (zab m) rfl rfl rfl (by kernel_rfl) (by kernel_rfl) (by kernel_rfl) (by kernel_rfl) (fun args w=>Tryz.call68 args w)
    (fun W h=>(zkT m A c W (hr.below h) hm).mono fun e w' g=>⟨by rw[g.1];unfold zab;rw[if_neg (by omega),if_neg (by omega),if_neg (by omega),if_neg (by omega),if_neg (by omega),if_pos hk],g.2⟩))
  ·exact fin (by rw[hk];rfl) (by rw[hk];rfl) (by rw[hk];rfl) (by rw[hk];rfl) (zci m A c w 7 (by decide) (by rw[hk];rfl) 14 _ _ false true true true (zab m) rfl rfl rfl (by kernel_rfl) (by kernel_rfl) (by kernel_rfl) (by kernel_rfl) (fun args w=>Tryz.call70 args w)
    (fun W h=>(zjM m A c W (hr.below h) hm (hg.beyond h).g).mono fun e w' g=>⟨by rw[g.1];unfold zab;rw[if_neg (by omega),if_neg (by omega),if_neg (by omega),if_neg (by omega),if_neg (by omega),if_neg (by omega),if_pos hk],g.2⟩))
  ·exact fin (by rw[hk];rfl) (by rw[hk];rfl) (by rw[hk];rfl) (by rw[hk];rfl) (zci m A c w 8 (by decide) (by rw[hk];rfl) 2 _ _ false true false false (zab m) rfl rfl rfl (by kernel_rfl) (by kernel_rfl) (by kernel_rfl) (by kernel_rfl) (fun args w=>Tryz.call72 args w)
    (fun W _=>(zpO m A c W hm).mono fun e w' g=>⟨by rw[g.1];unfold zab;rw[if_neg (by omega),if_neg (by omega),if_neg (by omega),if_neg (by omega),if_neg (by omega),if_neg (by omega),if_neg (by omega),if_pos hk],g.2⟩))
  ·exact fin (by rw[hk];rfl) (by rw[hk];rfl) (by rw[hk];rfl) (by rw[hk];rfl) (zci m A c w 9 (by decide) (by rw[hk];rfl) 4 _ _ false false true false (zab m) rfl rfl rfl (by kernel_rfl) (by kernel_rfl) (by kernel_rfl) (by kernel_rfl) (fun args w=>Tryz.call74 args w)
    (fun W h=>(zlj m A c W (hr.below h) hm (hg.beyond h)).mono fun e w' g=>⟨by rw[g.1];unfold zab;rw[if_neg (by omega),if_neg (by omega),if_neg (by omega),if_neg (by omega),if_neg (by omega),if_neg (by omega),if_neg (by omega),if_neg (by omega)],g.2⟩))
theorem zos {D:Nat→Prop} {n0 N b:Nat} {R:World→Rs→Option Addr→Nat→World→Prop} {w W w2:World} {x:Rs} {A:Option Addr} {c:Nat}
  (hR:∀w3,Below w.heap.size w W→R W x A c w2→zb (Btw w W) w2 w3→R w x A c w3)
  (hn:n0≤w.heap.size) (h0:Below w.heap.size w W) (hb1:w.heap.size≤b) (hb2:b<W.heap.size) (hr:zQ (Out D n0 W) w2 A (zj x.fields)) (hf:zbH N x) (hT:R W x A c w2) (hk:zb D W w2) (v0 v1 v2 v3:Value):
  zcB D n0 N R w (.returned (rsV x A c)) (zal w2 b v0 v1 v2 v3):=by
 have hB:zb (Btw w W) w2 (zal w2 b v0 v1 v2 v3):=z7 w2 ⟨hb1,hb2⟩ v0 v1 v2 v3;refine ⟨x,A,c,rfl,hr.back hn h0.size hB,hf,hR _ h0 hT hB,?_⟩;refine ⟨hB.os.trans (hk.os.trans h0.os),hB.tape.trans (hk.tape.trans h0.tape),hB.output.trans (hk.output.trans h0.output),Nat.le_trans h0.size (Nat.le_trans hk.size hB.size),fun k hk1 hn1=>?_⟩;have h3:k<W.heap.size:=Nat.lt_of_lt_of_le hk1 h0.size;rw[hB.block k (Nat.lt_of_lt_of_le h3 hk.size) (fun hd=>by have:=hd.1;omega),hk.block k h3 hn1,h0.block k hk1]
def Y2 (w:World) (b:Array Value):World:=(w.alloc (.cells b 27)).alloc (.cells zei 29)
section
variable {D:Nat→Prop} {w w':World} {b:Array Value}
theorem zdt (w:World) (b:Array Value):(Y2 w b).heap.size=w.heap.size+2:=by simp[Y2]
theorem zgG (w:World) (b:Array Value):Below w.heap.size w (Y2 w b):=((Below.refl _ w).alloc (Nat.le_refl _) _).alloc (by simp) _
theorem zhC (hD:∀k,D k→k<w.heap.size) (h:zb D (Y2 w b) w') (j:Nat):w'.cell? ⟨w.heap.size,j,none⟩=b[j]?:=by
 rw[h.cell (p:=⟨w.heap.size,j,none⟩) (by rw[zdt];simp) (fun hd=>by have h3:w.heap.size<w.heap.size:=hD _ hd;omega)];unfold Y2;rw[World.cell?_alloc_lt _ _ _ (by simp),World.cell?_alloc_new]
theorem zgR (hD:∀k,D k→k<w.heap.size) (h:zb D (Y2 w b) w') (j:Nat):w'.cell? ⟨w.heap.size+1,j,none⟩=zei[j]?∧w'.frozen? ⟨w.heap.size+1,j,none⟩=false:=by
 have hn:¬D (w.heap.size+1):=fun hd=>by have:=hD _ hd;omega
 refine ⟨?_,?_⟩
 ·rw[h.cell (p:=⟨w.heap.size+1,j,none⟩) (by rw[zdt];simp) hn]
  exact World.cell?_alloc_at _ _ _ _ (by simp)
 ·rw[h.frozen (p:=⟨w.heap.size+1,j,none⟩) (by rw[zdt];simp) hn]
  exact World.frozen?_alloc_at _ _ _ _ (by simp)
theorem znu (hD:∀k,D k→k<w.heap.size) (h:zb D (Y2 w b) w'):
  ((w'.cell? ⟨w.heap.size+1,0,none⟩=some (.int .i64 0)∧w'.cell? ⟨w.heap.size+1,1,none⟩=some (.string ⟨#[]⟩)∧w'.cell? ⟨w.heap.size+1,2,none⟩=some (.slice none 0 0)∧w'.cell? ⟨w.heap.size+1,3,none⟩=some (.string ⟨#[]⟩))∧
  (w'.frozen? ⟨w.heap.size+1,0,none⟩=false∧w'.frozen? ⟨w.heap.size+1,1,none⟩=false∧w'.frozen? ⟨w.heap.size+1,2,none⟩=false∧w'.frozen? ⟨w.heap.size+1,3,none⟩=false))∧w.heap.size+1<w'.heap.size:=
 ⟨⟨⟨(zgR hD h 0).1,(zgR hD h 1).1,(zgR hD h 2).1,(zgR hD h 3).1⟩,(zgR hD h 0).2,(zgR hD h 1).2,(zgR hD h 2).2,(zgR hD h 3).2⟩,by have:=h.size;rw[zdt] at this;omega⟩
end
def noT:Ans:=fun _ w x A c w'=>x=zT 404 []∧ziZ w w' x A c∧Below w.heap.size w w'
set_option maxRecDepth 20000 in
theorem zvF {D:Nat→Prop} {Pre:World→Prop} {n0 N:Nat} {w0:World} (hE:Env D Pre w0) (hN:8≤N):Nx D Pre n0 N w0 (.func (.func 33) #[] #[]) noT:=by
 refine ⟨33,#[],rfl,fun args w=>Tryz.call33 args w,fun W r FA fc TA tc hk hp hF hT hr=>?_⟩;have hl:∀k,D k→k<W.heap.size:=fun k hd=>Nat.lt_of_lt_of_le (hE.low k hd) hk.size
 have HL:=hid hl;have HPL:=hid (zdV 404 none 0 [] (Y2 W (zu r FA fc TA tc)) (Row.nil _ _) (by decide) (by decide) (by decide) (hE.glob _ (hk.step (zgG _ _))));have HBD:=hid (show zT 404 []=⟨404,⟨#[]⟩,[ctF],zao 404⟩ from rfl);have HB0:=hid (zgG W (zu r FA fc TA tc));generalize zao 404=bd at *;clear hl hk hp hF hT hr hE;show Calls Tryz.prog 33 #[rqV r FA fc TA tc] W (zcB D n0 N (noT r) W);unfold rqV
 go_enter Tryz.func33,Tryz.ntmps33
 go_wp2_with fail
 refine HPL.out.mono ?_;rintro e w2 ⟨A1,c1,rfl,ho,hb⟩;obtain ⟨⟨⟨r0,r1,r2,r3⟩,f0,f1,f2,f3⟩,hz⟩:=znu HL.out (zb.of hb);have HO:=hid ho;have HB:=hid hb;clear ho hb HPL
 go_wp2
 refine bodyPost_ret (v:=rsV ⟨404,⟨#[]⟩,[ctF],bd⟩ A1 c1) (by simp[results,Tryz.results33,go_sem,rsV,r0,r1,r2,r3]) rfl ?_;have hbz:Below W.heap.size W w2:=HB0.out.trans (HB.out.mono HB0.out.size);have hB:zb (Btw W (Y2 W (zu r FA fc TA tc))) w2 (zal w2 (W.heap.size+1) (.int .i64 404) (.string ⟨#[]⟩) (.slice A1 1 c1) (.string bd)):=z7 w2 ⟨Nat.le_succ _,by rw[zdt];omega⟩ _ _ _ _;have ho2:(zal w2 (W.heap.size+1) (.int .i64 404) (.string ⟨#[]⟩) (.slice A1 1 c1) (.string bd)).ownsRow (Y2 W (zu r FA fc TA tc)).heap.size 59 2 (.slice A1 [ctF].length c1) [ctF].length (zj [ctF]):=zP HO.out hB (fun k hk=>hk.2);have hbl:Below W.heap.size W (zal w2 (W.heap.size+1) (.int .i64 404) (.string ⟨#[]⟩) (.slice A1 1 c1) (.string bd)):=⟨hB.os.trans hbz.os,hB.tape.trans hbz.tape,hB.output.trans hbz.output,Nat.le_trans hbz.size hB.size,fun k hk=>by
  rw[hB.block k (Nat.lt_of_lt_of_le hk hbz.size) (fun hd=>by have:=hd.1;omega),hbz.block k hk]⟩
 exact ⟨⟨404,⟨#[]⟩,[ctF],bd⟩,A1,c1,rfl,zQ.of_new ho2 HL.out HB0.out.size,(show zbH 8 (⟨404,⟨#[]⟩,[ctF],bd⟩:Rs) by rw[←HBD.out];exact zaJ 404 zR (by simp)).more hN,⟨HBD.out.symm,zn ho2 HB0.out.size,hbl⟩,zb.of hbl⟩
set_option maxRecDepth 20000 in
theorem zvV {D:Nat→Prop} {Pre:World→Prop} {n0 N:Nat} {w0:World} {T:Ans} {m:zY} {A:Option Addr} {c:Nat} {dg:FuncId} {fv:Value} {b1 b2 b3:Nat} (hd:zjN m dg) (hE:Env D Pre w0) (hX:Nx D Pre n0 N w0 fv T) (hn0:n0≤w0.heap.size) (hN8:8≤N) (hN:N≤1099511627776)
  (hA:zQ D w0 A (m.list.map .string)) (hcap:m.list.length≤c) (hm:zaY m)
  (h1:w0.cell? ⟨b1,0,none⟩=some (.func (.func dg) #[] #[]))
  (h2:∀j,j<5→w0.cell? ⟨b2,j,none⟩=(zf m A c)[j]?)
  (h3:w0.cell? ⟨b3,0,none⟩=some fv) (hl:(b1<w0.heap.size∧b2<w0.heap.size∧b3<w0.heap.size)∧(¬D b1∧¬D b2∧¬D b3)):
  Nx D Pre n0 (N+2) w0 (.func (.func 36) #[] #[.pointer (some ⟨b1,0,none⟩),.pointer (some ⟨b2,0,none⟩),.pointer (some ⟨b3,0,none⟩)]) (doT m T):=by
 refine ⟨36,_,rfl,fun args w=>Tryz.call36 args w,fun W r FA fc TA tc hk hp hF hT hr=>?_⟩;have hlw:∀k,D k→k<W.heap.size:=fun k hd=>Nat.lt_of_lt_of_le (hE.low k hd) hk.size
 have HL:=hid hlw;have HB0:=hid (zgG W (zu r FA fc TA tc));have hkY:zb D w0 (Y2 W (zu r FA fc TA tc)):=hk.step HB0.out;have HDO:=hid (hd.2 D Pre n0 N T fv (Y2 W (zu r FA fc TA tc)) r A c FA fc TA tc (hE.later hkY) (hE.stays _ _ hk hp HB0.out) (hX.later hkY) (Nat.le_trans hn0 hkY.size) hN8 hN (hA.keep hkY) hcap (hF.below HB0.out) (hT.below HB0.out) hm hr);have HN0:=hid (Nat.le_trans hn0 hk.size);obtain ⟨⟨l1,l2,l3⟩,n1,n2,n3⟩:=hl;have k1:=(hk.cell (p:=⟨b1,0,none⟩) l1 n1).trans h1;have k20:W.cell? ⟨b2,0,none⟩=some (.int .i64 m.kind):=(hk.cell (p:=⟨b2,0,none⟩) l2 n2).trans (h2 0 (by omega));have k21:W.cell? ⟨b2,1,none⟩=some (.string m.name):=(hk.cell (p:=⟨b2,1,none⟩) l2 n2).trans (h2 1 (by omega));have k22:W.cell? ⟨b2,2,none⟩=some (.string m.value):=(hk.cell (p:=⟨b2,2,none⟩) l2 n2).trans (h2 2 (by omega));have k23:W.cell? ⟨b2,3,none⟩=some (.slice A m.list.length c):=(hk.cell (p:=⟨b2,3,none⟩) l2 n2).trans (h2 3 (by omega));have k24:W.cell? ⟨b2,4,none⟩=some (.int .i64 m.n):=(hk.cell (p:=⟨b2,4,none⟩) l2 n2).trans (h2 4 (by omega));have k3:=(hk.cell (p:=⟨b3,0,none⟩) l3 n3).trans h3;have q1:b1<W.heap.size:=Nat.lt_of_lt_of_le l1 hk.size;have q2:b2<W.heap.size:=Nat.lt_of_lt_of_le l2 hk.size;have q3:b3<W.heap.size:=Nat.lt_of_lt_of_le l3 hk.size;obtain ⟨g,lb,rfl,_,_⟩:=hX;have he:∀args w,(callFunc dg args).run Tryz.prog w= .ok (.enter dg args) w:=hd.1;clear hd hE hn0 hN8 hN hA hcap hm h1 h2 h3 l1 l2 l3 n1 n2 n3 hk hp hF hT hr hkY hlw;show Calls Tryz.prog 36 #[rqV r FA fc TA tc,.pointer (some ⟨b1,0,none⟩),.pointer (some ⟨b2,0,none⟩),.pointer (some ⟨b3,0,none⟩)] W (zcB D n0 (N+2) (doT m T r) W);unfold zL rqV at *
 go_enter Tryz.func36,Tryz.ntmps36
 go_wp2_with fail
 refine HDO.out.mono ?_;rintro e w2 ⟨y,A1,c1,rfl,hrow,hfit,hTT,hk⟩;obtain ⟨⟨⟨r0,r1,r2,r3⟩,f0,f1,f2,f3⟩,hz⟩:=znu HL.out hk;have HE:=hid (zos (N:=N+2) (b:=W.heap.size+1) (R:=doT m T r) (fun w3=>fun g1 g2 g3=>ztH g1 g2 g3) HN0.out HB0.out (Nat.le_succ _) (by rw[zdt];omega) hrow hfit hTT hk (.int .i64 y.status) (.string y.reason) (.slice A1 y.fields.length c1) (.string y.body));clear hrow hfit hTT hk HDO;unfold rsV at *
 go_wp2
 exact bodyPost_ret (v:=rsV y A1 c1) (by simp[results,Tryz.results36,go_sem,rsV,r0,r1,r2,r3]) rfl HE.out
end Go.Proofs.YtbnafbdhomdcoaaGreatDoor
