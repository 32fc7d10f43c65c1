/-
 ChC, without what this claim does not reach.
-/
import Derived.Test.YtbnafbdhomdcoaaGreatDoorZm4
import Derived.Test.YtbnafbdhomdcoaaGreatDoorZm2
import Derived.Deep.DeepCutAuto
import Derived.Deep.RegionWith
namespace Go.Proofs.YtbnafbdhomdcoaaGreatDoor
open Go.RowKit Go.Shelf Go.Lib
set_option maxRecDepth 20000 in
set_option maxHeartbeats 2000000 in
theorem zqv (w:World):
  Calls Tryz.prog 28 #[.agg #[.string ⟨#[]⟩,.string ⟨#[]⟩,.int .i64 0,.int .i64 0,.slice none 0 0,.string ⟨#[]⟩,.slice none 0 0]] w fun e w'=>e= .returned (.agg #[.int .i64 200,.string ⟨#[]⟩,.slice none 0 0,.string ⟨#[]⟩])∧Below w.heap.size w w':=by
 go_enter Tryz.func28,Tryz.ntmps28
 go_wp2
 exact bodyPost_ret (v:=.agg #[.int .i64 200,.string ⟨#[]⟩,.slice none 0 0,.string ⟨#[]⟩]) (by simp[results,Tryz.results28,go_sem]) rfl ⟨rfl,by (repeat (first|(with_reducible refine Below.setCell ?_ (by simp) _)));exact ((Below.refl _ w).alloc (Nat.le_refl _) _).alloc (by simp) _⟩
def zkG:Array Value:=#[.string ⟨#[]⟩,.string ⟨#[]⟩,.int .i64 0,.int .i64 0,.slice none 0 0,.string ⟨#[]⟩,.slice none 0 0]
def W3 (w:World):World:=((w.alloc (.cells #[.int .i64 1,.string ⟨#[88]⟩,.string ⟨#[49]⟩,.slice none 0 0,.int .i64 0] 24)).alloc (.cells #[.string ⟨#[]⟩,.string ⟨#[]⟩,.int .i64 0,.int .i64 0,.slice none 0 0,.string ⟨#[]⟩,.slice none 0 0] 27)).alloc (.cells #[.int .i64 0,.string ⟨#[]⟩,.slice none 0 0,.string ⟨#[]⟩] 29)
theorem zjU (w:World):(W3 w).heap.size=w.heap.size+3:=by simp[W3]
theorem ztv (w:World):Below w.heap.size w (W3 w):=(((Below.refl _ w).alloc (Nat.le_refl _) _).alloc (by simp) _).alloc (by simp;omega) _
theorem ztT {w w':World} (h:Below (w.heap.size+2) (W3 w) w') (j:Nat):w'.cell? ⟨w.heap.size,j,none⟩=(#[.int .i64 1,.string ⟨#[88]⟩,.string ⟨#[49]⟩,.slice none 0 0,.int .i64 0]:Array Value)[j]?:=by
 rw[h.cell (p:=⟨w.heap.size,j,none⟩) (by simp)];unfold W3;rw[World.cell?_alloc_lt _ _ _ (by simp;omega),World.cell?_alloc_lt _ _ _ (by simp),World.cell?_alloc_new]
theorem zhR {w w':World} (h:Below (w.heap.size+2) (W3 w) w') (j:Nat):w'.cell? ⟨w.heap.size+1,j,none⟩=zkG[j]?:=by
 rw[h.cell (p:=⟨w.heap.size+1,j,none⟩) (by simp)];unfold W3;rw[World.cell?_alloc_lt _ _ _ (by simp)];exact World.cell?_alloc_at _ _ _ _ (by simp)
theorem zm2 {w w':World} (h:Below (w.heap.size+3) (W3 w) w') (j:Nat):w'.cell? ⟨w.heap.size+1+1,j,none⟩=(#[.int .i64 0,.string ⟨#[]⟩,.slice none 0 0,.string ⟨#[]⟩]:Array Value)[j]?∧w'.frozen? ⟨w.heap.size+1+1,j,none⟩=false:=by
 refine ⟨?_,?_⟩
 ·rw[h.cell (p:=⟨w.heap.size+1+1,j,none⟩) (by simp)]
  exact World.cell?_alloc_at _ _ _ _ (by simp)
 ·rw[h.frozen (p:=⟨w.heap.size+1+1,j,none⟩) (by simp)]
  exact World.frozen?_alloc_at _ _ _ _ (by simp)
theorem zxp {w w':World} (h:Below (w.heap.size+2) (W3 w) w'):Below (w.heap.size+2) (W3 w) w'∧(w'.cell? ⟨w.heap.size,1,none⟩=some (.string ⟨#[88]⟩)∧w'.cell? ⟨w.heap.size,2,none⟩=some (.string ⟨#[49]⟩))∧(w'.cell? ⟨w.heap.size+1,0,none⟩=some (.string ⟨#[]⟩)∧w'.cell? ⟨w.heap.size+1,1,none⟩=some (.string ⟨#[]⟩)∧w'.cell? ⟨w.heap.size+1,2,none⟩=some (.int .i64 0)∧w'.cell? ⟨w.heap.size+1,3,none⟩=some (.int .i64 0)∧w'.cell? ⟨w.heap.size+1,4,none⟩=some (.slice none 0 0)∧w'.cell? ⟨w.heap.size+1,5,none⟩=some (.string ⟨#[]⟩)∧w'.cell? ⟨w.heap.size+1,6,none⟩=some (.slice none 0 0)):=
 ⟨h,⟨ztT h 1,ztT h 2⟩,zhR h 0,zhR h 1,zhR h 2,zhR h 3,zhR h 4,zhR h 5,zhR h 6⟩
theorem zko {w w':World} {n:Nat} (hn:n≤w.heap.size+3) (h:Below n (W3 w) w') (o:Obj):Below n (W3 w) (w'.alloc o):=h.alloc (by have:=h.size;rw[zjU] at this;omega) o
theorem zhd {w w' w2:World} {n m:Nat} (hm:m≤w.heap.size+3) (h2:Below n w' w2) (hn:n=w'.heap.size) (h:Below m (W3 w) w'):Below m (W3 w) w2:=h.trans (h2.mono (by have:=h.size;rw[zjU] at this;omega))
set_option maxRecDepth 20000 in
set_option maxHeartbeats 2000000 in
theorem zvI (w:World):
  Calls Tryz.prog 56 #[.agg #[.int .i64 1,.string ⟨#[88]⟩,.string ⟨#[49]⟩,.slice none 0 0,.int .i64 0],.agg #[.string ⟨#[]⟩,.string ⟨#[]⟩,.int .i64 0,.int .i64 0,.slice none 0 0,.string ⟨#[]⟩,.slice none 0 0],.func (.func 28) #[] #[]] w (zjP w 200 ⟨#[]⟩ [(⟨#[88]⟩,⟨#[49]⟩)] ⟨#[]⟩):=by
 go_enter Tryz.func56,Tryz.ntmps56
 go_wp2_with fail
 rw[show ((w.alloc (.cells #[.int .i64 1,.string ⟨#[88]⟩,.string ⟨#[49]⟩,.slice none 0 0,.int .i64 0] 24)).alloc (.cells #[.string ⟨#[]⟩,.string ⟨#[]⟩,.int .i64 0,.int .i64 0,.slice none 0 0,.string ⟨#[]⟩,.slice none 0 0] 27)).alloc (.cells #[.int .i64 0,.string ⟨#[]⟩,.slice none 0 0,.string ⟨#[]⟩] 29)=W3 w from rfl];obtain ⟨h0,⟨m1,m2⟩,q0,q1,q2,q3,q4,q5,q6⟩:=zxp (Below.refl (w.heap.size+2) (W3 w));obtain ⟨W0,hW0⟩:∃W0,W0=W3 w:=⟨_,rfl⟩;rw[←hW0] at m1 m2 q0 q1 q2 q3 q4 q5 q6 ⊢;clear h0;have h3:Below (w.heap.size+3) (W3 w) W0:=by rw[hW0];exact Below.refl _ _
 have h2:Below (w.heap.size+2) (W3 w) W0:=h3.mono (by omega);have HS:=hid (fun w' (h:Below (w.heap.size+2) (W3 w) w')=>zxp h);have HW:=hid hW0;clear hW0
 go_region_held3 (fun w'=>Below (w.heap.size+2) (W3 w) w'∧(w'.cell? ⟨w.heap.size,1,none⟩=some (.string ⟨#[88]⟩)∧w'.cell? ⟨w.heap.size,2,none⟩=some (.string ⟨#[49]⟩))∧(w'.cell? ⟨w.heap.size+1,0,none⟩=some (.string ⟨#[]⟩)∧w'.cell? ⟨w.heap.size+1,1,none⟩=some (.string ⟨#[]⟩)∧w'.cell? ⟨w.heap.size+1,2,none⟩=some (.int .i64 0)∧w'.cell? ⟨w.heap.size+1,3,none⟩=some (.int .i64 0)∧w'.cell? ⟨w.heap.size+1,4,none⟩=some (.slice none 0 0)∧w'.cell? ⟨w.heap.size+1,5,none⟩=some (.string ⟨#[]⟩)∧w'.cell? ⟨w.heap.size+1,6,none⟩=some (.slice none 0 0)))
  (first|assumption|(refine HS.out _ ?_;repeat (first|exact h2|(with_reducible refine Below.setCell ?_ (by simp) _)|(with_reducible refine zar ?_)|(with_reducible refine zko (by omega) ?_ _)|refine zhd (by omega) b3 (by simp) ?_|refine zhd (by omega) b2 (by simp) ?_)))
  (first
   |(go_at_call 28;refine (zqv _).mono ?_;rintro e w2 ⟨rfl,b2⟩)
   |(go_at_call 93;refine (zbV 200 ⟨#[]⟩ ⟨#[]⟩ none _ 0 _ [] [(⟨#[88]⟩,⟨#[49]⟩)] _ (Row.nil _ _) (by first|exact za1 _ #[.string ⟨#[88]⟩,.string ⟨#[49]⟩] 59 (by simp)|exact Row.drew (za1 _ #[.string ⟨#[88]⟩,.string ⟨#[49]⟩] 59 (by simp))|exact (Row.drew (za1 _ #[.string ⟨#[88]⟩,.string ⟨#[49]⟩] 59 (by simp))).below b2|exact (za1 _ #[.string ⟨#[88]⟩,.string ⟨#[49]⟩] 59 (by simp)).below b2) (by decide) (by decide)).mono ?_;rintro e w3 ⟨A3,c3,rfl,o3,b3⟩;have hb9:Below (w.heap.size+3) (W3 w) w3:=(by refine zhd (by omega) b3 (by simp) ?_;repeat (first|exact h3|(with_reducible refine zar ?_)|(with_reducible refine zko (by omega) ?_ _)|refine zhd (by omega) b2 (by simp) ?_));obtain ⟨r0,s0⟩:=zm2 hb9 0;obtain ⟨r1,s1⟩:=zm2 hb9 1;obtain ⟨r2,s2⟩:=zm2 hb9 2;obtain ⟨r3,s3⟩:=zm2 hb9 3;have hb9z:w.heap.size+1+1<w3.heap.size:=(by have:=hb9.size;rw[zjU] at this;omega)))
 all_goals
  have HBW:=hid ((ztv w).trans (hb9.mono (by omega)));have hz:w.heap.size+3≤w2.heap.size:=by
   have e1:=b2.size;have e2:=h3.size;rw[zjU] at e2;simp at e1
   omega
  have o4:=zn (b':=w.heap.size+3) o3 (by first|exact hz|(simp;omega));have HO:=hid o4;clear o3 o4 b2 h2 h3 b3 hb9 q0 q1 q2 q3 q4 q5 q6 m1 m2 hz
  go_wp2
  exact bodyPost_ret (v:=.agg #[.int .i64 200,.string ⟨#[]⟩,.slice A3 1 c3,.string ⟨#[]⟩]) (by simp[results,Tryz.results56,go_sem,r0,r1,r2,r3]) rfl ⟨A3,c3,rfl,zn (ownsRow_setCell_below (ownsRow_setCell_below (ownsRow_setCell_below (ownsRow_setCell_below HO.out (by simp) _) (by simp) _) (by simp) _) (by simp) _) (by omega),by (repeat (first|(with_reducible refine Below.setCell ?_ (by simp;omega) _)|(with_reducible refine Below.setCell ?_ (by simp) _)));exact HBW.out⟩
theorem zuK (w:World) (b1 b2 b3:Nat) (h1:w.cell? ⟨b1,0,none⟩=some (.func (.func 56) #[] #[]))
  (m0:w.cell? ⟨b2,0,none⟩=some (.int .i64 1)) (m1:w.cell? ⟨b2,1,none⟩=some (.string ⟨#[88]⟩)) (m2:w.cell? ⟨b2,2,none⟩=some (.string ⟨#[49]⟩)) (m3:w.cell? ⟨b2,3,none⟩=some (.slice none 0 0)) (m4:w.cell? ⟨b2,4,none⟩=some (.int .i64 0))
  (h3:w.cell? ⟨b3,0,none⟩=some (.func (.func 28) #[] #[])) (l1:b1<w.heap.size) (l2:b2<w.heap.size) (l3:b3<w.heap.size):
  Calls Tryz.prog 36 #[.agg #[.string ⟨#[]⟩,.string ⟨#[]⟩,.int .i64 0,.int .i64 0,.slice none 0 0,.string ⟨#[]⟩,.slice none 0 0],.pointer (some ⟨b1,0,none⟩),.pointer (some ⟨b2,0,none⟩),.pointer (some ⟨b3,0,none⟩)] w (zjP w 200 ⟨#[]⟩ [(⟨#[88]⟩,⟨#[49]⟩)] ⟨#[]⟩):=by
 have HA:=hid zvI
 go_enter Tryz.func36,Tryz.ntmps36
 go_wp2_with fail
 refine (HA.out _).mono ?_;rintro e w1 ⟨A1,c1,rfl,ow,hb⟩;have hb':Below (w.heap.size+2) ((w.alloc (.cells #[.string ⟨#[]⟩,.string ⟨#[]⟩,.int .i64 0,.int .i64 0,.slice none 0 0,.string ⟨#[]⟩,.slice none 0 0] 27)).alloc (.cells #[.int .i64 0,.string ⟨#[]⟩,.slice none 0 0,.string ⟨#[]⟩] 29)) w1:=by simpa using hb
 have HO:=hid (zn (b':=w.heap.size+2) ow (by simp));have K1:∀j,w1.cell? ⟨w.heap.size+1,j,none⟩=(#[.int .i64 0,.string ⟨#[]⟩,.slice none 0 0,.string ⟨#[]⟩]:Array Value)[j]?∧w1.frozen? ⟨w.heap.size+1,j,none⟩=false:=fun j=>by
  refine ⟨?_,?_⟩
  ·rw[hb'.cell (p:=⟨w.heap.size+1,j,none⟩) (by simp)];exact World.cell?_alloc_at _ _ _ _ (by simp)
  ·rw[hb'.frozen (p:=⟨w.heap.size+1,j,none⟩) (by simp)];exact World.frozen?_alloc_at _ _ _ _ (by simp)
 obtain ⟨j0,f0⟩:=K1 0;obtain ⟨j1,f1⟩:=K1 1;obtain ⟨j2,f2⟩:=K1 2;obtain ⟨j3,f3⟩:=K1 3;have hz1:w.heap.size+1<w1.heap.size:=by have:=hb'.size;simp at this;omega
 have HBW:=hid (show Below w.heap.size w w1 from (((Below.refl _ w).alloc (Nat.le_refl _) _).alloc (by simp) _).trans (hb'.mono (by omega)));clear ow hb hb' K1
 go_wp2
 exact bodyPost_ret (v:=.agg #[.int .i64 200,.string ⟨#[]⟩,.slice A1 1 c1,.string ⟨#[]⟩]) (by simp[results,Tryz.results36,go_sem,j0,j1,j2,j3]) rfl ⟨A1,c1,rfl,zn (ownsRow_setCell_below (ownsRow_setCell_below (ownsRow_setCell_below (ownsRow_setCell_below HO.out (by simp) _) (by simp) _) (by simp) _) (by simp) _) (by omega),by (repeat (first|(with_reducible refine Below.setCell ?_ (by simp;omega) _)|(with_reducible refine Below.setCell ?_ (by simp) _)));exact HBW.out⟩
def W2 (w:World):World:=(w.alloc (.cells #[.string ⟨#[]⟩,.string ⟨#[]⟩,.int .i64 0,.int .i64 0,.slice none 0 0,.string ⟨#[]⟩,.slice none 0 0] 27)).alloc (.cells #[.int .i64 0,.string ⟨#[]⟩,.slice none 0 0,.string ⟨#[]⟩] 29)
theorem zf8 (w:World):(W2 w).heap.size=w.heap.size+2:=by simp[W2]
theorem zoV (w:World):Below w.heap.size w (W2 w):=((Below.refl _ w).alloc (Nat.le_refl _) _).alloc (by simp) _
theorem zhx {w w':World} (h:Below (w.heap.size+2) (W2 w) w') (j:Nat):w'.cell? ⟨w.heap.size,j,none⟩=zkG[j]?:=by
 rw[h.cell (p:=⟨w.heap.size,j,none⟩) (by simp)];unfold W2;rw[World.cell?_alloc_lt _ _ _ (by simp),World.cell?_alloc_new]
 rfl
theorem znD {w w':World} (h:Below (w.heap.size+2) (W2 w) w') (j:Nat):w'.cell? ⟨w.heap.size+1,j,none⟩=(#[.int .i64 0,.string ⟨#[]⟩,.slice none 0 0,.string ⟨#[]⟩]:Array Value)[j]?∧w'.frozen? ⟨w.heap.size+1,j,none⟩=false:=by
 refine ⟨?_,?_⟩
 ·rw[h.cell (p:=⟨w.heap.size+1,j,none⟩) (by simp)]
  exact World.cell?_alloc_at _ _ _ _ (by simp)
 ·rw[h.frozen (p:=⟨w.heap.size+1,j,none⟩) (by simp)]
  exact World.frozen?_alloc_at _ _ _ _ (by simp)
theorem zby {n:Nat} {W w':World} (hW:W.heap.size=n) (h:Below n W w') (o:Obj):Below n W (w'.alloc o):=h.alloc (by have:=h.size;omega) o
theorem zif {n m:Nat} {W w' w2:World} (hW:W.heap.size=n) (h2:Below m w' w2) (hm:m=w'.heap.size) (h:Below n W w'):Below n W w2:=h.trans (h2.mono (by have:=h.size;omega))
def zqV (n:Nat) (W:World) (F G x y:Value) (wx:World):Prop:=∃p q:Nat,x= .pointer (some ⟨p,0,none⟩)∧y= .pointer (some ⟨q,0,none⟩)∧wx.cell? ⟨p,0,none⟩=some F∧wx.cell? ⟨q,0,none⟩=some G∧(p<wx.heap.size∧q<wx.heap.size)∧Below n W wx
section
variable {n k:Nat} {W w2:World} {F G:Value} {t u:TypeId}
theorem zwv (hW:W.heap.size=n) (h:Below n W w2):zqV n W F G (.pointer (some ⟨w2.heap.size+1,0,none⟩)) (.pointer (some ⟨w2.heap.size,0,none⟩)) ((w2.alloc (.cells #[G] t)).alloc (.cells #[F] u)):=
 ⟨_,_,rfl,rfl,by simp,by simp,⟨by simp,by simp;omega⟩,zby hW (zby hW h _) _⟩
theorem zwZ (hW:W.heap.size=n) (h:Below n W w2):zqV n W F G (.pointer (some ⟨w2.heap.size,0,none⟩)) (.pointer (some ⟨w2.heap.size+1,0,none⟩)) ((w2.alloc (.cells #[F] t)).alloc (.cells #[G] u)):=
 ⟨_,_,rfl,rfl,by simp,by simp,⟨by simp;omega,by simp⟩,zby hW (zby hW h _) _⟩
theorem zwH (hW:W.heap.size=n) (h:Below n W w2) (hn:n≤k) (hk:k<w2.heap.size) {v:Value} (hx:w2.cell? ⟨k,0,none⟩=some v):zqV n W F G (.pointer (some ⟨k,0,none⟩)) (.pointer (some ⟨w2.heap.size,0,none⟩)) ((w2.setCell ⟨k,0,none⟩ F).alloc (.cells #[G] u)):=
 ⟨_,_,rfl,rfl,by rw[World.cell?_alloc_lt _ _ _ (by simpa using hk)];exact World.cell?_setCell_same _ _ _ hx,World.cell?_alloc_at _ _ _ _ (by simp),⟨by simp;omega,by simp⟩,zby hW (h.setCell hn _) _⟩
theorem zwp (hW:W.heap.size=n) (h:Below n W w2) (hn:n≤k) (hk:k<w2.heap.size) {v:Value} (hx:w2.cell? ⟨k,0,none⟩=some v):zqV n W F G (.pointer (some ⟨w2.heap.size,0,none⟩)) (.pointer (some ⟨k,0,none⟩)) ((w2.setCell ⟨k,0,none⟩ G).alloc (.cells #[F] u)):=
 ⟨_,_,rfl,rfl,World.cell?_alloc_at _ _ _ _ (by simp),by rw[World.cell?_alloc_lt _ _ _ (by simpa using hk)];exact World.cell?_setCell_same _ _ _ hx,⟨by simp,by simp;omega⟩,zby hW (h.setCell hn _) _⟩
theorem zwS (h:Below n W w2) (hn:n≤k) (hk:k+1<w2.heap.size) {v v':Value} (hx:w2.cell? ⟨k,0,none⟩=some v) (hy:w2.cell? ⟨k+1,0,none⟩=some v'):zqV n W F G (.pointer (some ⟨k,0,none⟩)) (.pointer (some ⟨k+1,0,none⟩)) ((w2.setCell ⟨k,0,none⟩ F).setCell ⟨k+1,0,none⟩ G):=
 ⟨_,_,rfl,rfl,by rw[World.cell?_setCell_far _ _ _ _ (by simp)];exact World.cell?_setCell_same _ _ _ hx,World.cell?_setCell_same (u:=v') _ _ _ (by rw[World.cell?_setCell_far _ _ _ _ (by simp)];exact hy),⟨by simp;omega,by simp;omega⟩,(h.setCell hn _).setCell (Nat.le_succ_of_le hn) _⟩
theorem zwK (h:Below n W w2) (hn:n≤k) (hk:k+1<w2.heap.size) {v v':Value} (hx:w2.cell? ⟨k,0,none⟩=some v) (hy:w2.cell? ⟨k+1,0,none⟩=some v'):zqV n W F G (.pointer (some ⟨k+1,0,none⟩)) (.pointer (some ⟨k,0,none⟩)) ((w2.setCell ⟨k+1,0,none⟩ F).setCell ⟨k,0,none⟩ G):=
 ⟨_,_,rfl,rfl,by rw[World.cell?_setCell_far _ _ _ _ (by simp)];exact World.cell?_setCell_same _ _ _ hy,World.cell?_setCell_same (u:=v) _ _ _ (by rw[World.cell?_setCell_far _ _ _ _ (by simp)];exact hx),⟨by simp;omega,by simp;omega⟩,(h.setCell (Nat.le_succ_of_le hn) _).setCell hn _⟩
end
theorem zmH {n:Nat} {W w2:World} {t:TypeId} (bw:Below n (W.alloc (.cells #[.nilFunc] t)).drew w2) (hn:n=(W.alloc (.cells #[.nilFunc] t)).heap.size):w2.cell? ⟨W.heap.size,0,none⟩=some .nilFunc∧w2.frozen? ⟨W.heap.size,0,none⟩=false:=by
 subst hn;refine ⟨?_,?_⟩
 ·rw[bw.cell (p:=⟨W.heap.size,0,none⟩) (by simp)]
  show (W.alloc (.cells #[.nilFunc] t)).cell? _=_;simp
 ·rw[bw.frozen (p:=⟨W.heap.size,0,none⟩) (by simp)]
  show (W.alloc (.cells #[.nilFunc] t)).frozen? _=_;simp
theorem zmp {n:Nat} {W w2:World} {t u:TypeId} (bw:Below n ((W.alloc (.cells #[.nilFunc] t)).alloc (.cells #[.nilFunc] u)).drew w2) (hn:n=((W.alloc (.cells #[.nilFunc] t)).alloc (.cells #[.nilFunc] u)).heap.size):w2.cell? ⟨W.heap.size,0,none⟩=some .nilFunc∧w2.frozen? ⟨W.heap.size,0,none⟩=false∧w2.cell? ⟨W.heap.size+1,0,none⟩=some .nilFunc∧w2.frozen? ⟨W.heap.size+1,0,none⟩=false:=by
 subst hn;refine ⟨?_,?_,?_,?_⟩
 ·rw[bw.cell (p:=⟨W.heap.size,0,none⟩) (by simp;omega)]
  show ((W.alloc (.cells #[.nilFunc] t)).alloc (.cells #[.nilFunc] u)).cell? _=_;rw[World.cell?_alloc_lt _ _ _ (by simp)];simp
 ·rw[bw.frozen (p:=⟨W.heap.size,0,none⟩) (by simp;omega)]
  show ((W.alloc (.cells #[.nilFunc] t)).alloc (.cells #[.nilFunc] u)).frozen? _=_;simp
 ·rw[bw.cell (p:=⟨W.heap.size+1,0,none⟩) (by simp)]
  show ((W.alloc (.cells #[.nilFunc] t)).alloc (.cells #[.nilFunc] u)).cell? _=_;exact World.cell?_alloc_at _ _ _ _ (by simp)
 ·rw[bw.frozen (p:=⟨W.heap.size+1,0,none⟩) (by simp)]
  show ((W.alloc (.cells #[.nilFunc] t)).alloc (.cells #[.nilFunc] u)).frozen? _=_;exact World.frozen?_alloc_at _ _ _ _ (by simp)
def zxo (w:World) (f:Value) (wr:World):Prop:=∃b1 b2 b3:Nat,f= .func (.func 36) #[] #[.pointer (some ⟨b1,0,none⟩),.pointer (some ⟨b2,0,none⟩),.pointer (some ⟨b3,0,none⟩)]∧
 wr.cell? ⟨b1,0,none⟩=some (.func (.func 56) #[] #[])∧
 (wr.cell? ⟨b2,0,none⟩=some (.int .i64 1)∧wr.cell? ⟨b2,1,none⟩=some (.string ⟨#[88]⟩)∧wr.cell? ⟨b2,2,none⟩=some (.string ⟨#[49]⟩)∧wr.cell? ⟨b2,3,none⟩=some (.slice none 0 0)∧wr.cell? ⟨b2,4,none⟩=some (.int .i64 0))∧
 wr.cell? ⟨b3,0,none⟩=some (.func (.func 28) #[] #[])∧(b1<wr.heap.size∧b2<wr.heap.size∧b3<wr.heap.size)∧
 Below (w.heap.size+2) (W2 w) wr
set_option maxRecDepth 20000 in
set_option maxHeartbeats 4000000 in
theorem zvT (w:World) (g:Nat) (hg:Glob w) (hl:g<w.heap.size) (m0:w.cell? ⟨g,0,none⟩=some (.int .i64 1)) (m1:w.cell? ⟨g,1,none⟩=some (.string ⟨#[88]⟩)) (m2:w.cell? ⟨g,2,none⟩=some (.string ⟨#[49]⟩)) (m3:w.cell? ⟨g,3,none⟩=some (.slice none 0 0)) (m4:w.cell? ⟨g,4,none⟩=some (.int .i64 0)):
  Calls Tryz.prog 15 #[.slice (some ⟨g,0,none⟩) 1 1,.agg #[.string ⟨#[]⟩,.string ⟨#[]⟩,.int .i64 0,.int .i64 0,.slice none 0 0,.string ⟨#[]⟩,.slice none 0 0],.func (.func 28) #[] #[]] w (zjP w 200 ⟨#[]⟩ [(⟨#[88]⟩,⟨#[49]⟩)] ⟨#[]⟩):=by
 have hmf:∀(fn:Fn) (first cap:Array Value) (w:World),(Instr.makeFunc fn first cap).run Tryz.prog w= .ok (.func fn first cap) w:=fun _ _ _ _=>rfl
 have hfe:∀w:World,(binOp .eql 53 (.func (.func 28) #[] #[]) Value.nilFunc).run Tryz.prog w= .ok (.bool false) w:=fun _=>by kernel_rfl
 have HCK:=hid zsm;have HR2:=hid zuK;have HWK:=hid zmn
 go_enter Tryz.func15,Tryz.ntmps15
 go_wp2_with fail
 go_loopw [7,8] (fun f i wr=>(f= .func (.func 28) #[] #[]∧i= .int .i64 0∧wr=(w.alloc (.cells #[.string ⟨#[]⟩,.string ⟨#[]⟩,.int .i64 0,.int .i64 0,.slice none 0 0,.string ⟨#[]⟩,.slice none 0 0] 27)).alloc (.cells #[.int .i64 0,.string ⟨#[]⟩,.slice none 0 0,.string ⟨#[]⟩] 29))∨(i= .int .i64 (-1)∧zxo w f wr)) (fun _ i _=>(RowKit.intOf i+1).toNat)
 case atStart=>exact .inl ⟨rfl,rfl,rfl⟩
 case round=>
  rcases hrel with ⟨rfl,rfl,rfl⟩|⟨rfl,hx⟩
  ·have hgW:=hg.beyond (zoV w)
   go_wp2_with fail
   refine (HCK.out _ (Glob.beyond hgW ((Below.refl _ (W2 w)).alloc (Nat.le_refl _) _))).mono ?_;rintro e w1 ⟨rfl,b1⟩;have b1':Below (w.heap.size+3) ((W2 w).alloc (.cells #[.int .i64 1,.string ⟨#[88]⟩,.string ⟨#[49]⟩,.slice none 0 0,.int .i64 0] 24)) w1:=by
    have:=zf8 w
    simpa [W2] using b1
   clear b1;have hMW:((W2 w).alloc (.cells #[.int .i64 1,.string ⟨#[88]⟩,.string ⟨#[49]⟩,.slice none 0 0,.int .i64 0] 24)).heap.size=w.heap.size+3:=by simp[W2]
   have hMid:∀w' j,Below (w.heap.size+3) ((W2 w).alloc (.cells #[.int .i64 1,.string ⟨#[88]⟩,.string ⟨#[49]⟩,.slice none 0 0,.int .i64 0] 24)) w'→w'.cell? ⟨w.heap.size+1+1,j,none⟩=(#[.int .i64 1,.string ⟨#[88]⟩,.string ⟨#[49]⟩,.slice none 0 0,.int .i64 0]:Array Value)[j]?:=fun w' j h=>by
    rw[h.cell (p:=⟨w.heap.size+1+1,j,none⟩) (by simp)];exact World.cell?_alloc_at _ _ _ _ (by rw[zf8])
   have hM2:Below (w.heap.size+2) (W2 w) ((W2 w).alloc (.cells #[.int .i64 1,.string ⟨#[88]⟩,.string ⟨#[49]⟩,.slice none 0 0,.int .i64 0] 24)):=(Below.refl _ _).alloc (by rw[zf8];omega) _;have HM2:=hid hM2;have HMID:=hid hMid;have HMW:=hid hMW;clear hM2 hMid hMW;generalize (W2 w).alloc (.cells #[.int .i64 1,.string ⟨#[88]⟩,.string ⟨#[49]⟩,.slice none 0 0,.int .i64 0] 24)=MW at *;have hsz1:w.heap.size+3≤w1.heap.size:=by rw[←HMW.out];exact b1'.size
   have hs1z:w.heap.size+1+1<w1.heap.size:=by omega
   have hs1y:w.heap.size+1<w1.heap.size:=by omega
   obtain ⟨kk,hkk⟩:∃kk:Int,kk=1:=⟨_,rfl⟩;obtain ⟨j,hj⟩:∃j:Nat,j=0:=⟨_,rfl⟩;have hw1:IntKind.i64.wrap (kk - 1)=(j:Int):=by rw[hkk,hj];rfl
   have hj0:(0:Int)≤(j:Int):=by omega
   have hj1:(j:Int)<10:=by omega
   have hj2:j<10:=by omega
   have HS:=hid (fun (w':World) (h:Below (w.heap.size+3) MW w')=>(⟨h,by rw[hkk];exact HMID.out w' 0 h⟩:Below (w.heap.size+3) MW w'∧w'.cell? ⟨w.heap.size+1+1,0,none⟩=some (.int .i64 kk)));have HWJ:=hid (show ∀w:World,Calls Tryz.prog 35 #[] w fun e w'=>e= .returned (.slice (some ⟨w.heap.size,0,none⟩) 10 10)∧w'.cell? ⟨w.heap.size,j*3+2,none⟩=some (.func (.func 56) #[] #[])∧w.heap.size<w'.heap.size∧Below w.heap.size w w' by
    intro w;rw[hj];exact (HWK.out w).mono fun e w' h=>⟨h.1,h.2.1.2.2,h.2.2⟩)
   clear hkk hj;obtain ⟨_,d0⟩:=HS.out w1 b1'
   go_upto_region 9 with (fail)
   go_cut [10,11] (fun x y wx=>zqV (w.heap.size+3) MW (.func (.func 56) #[] #[]) (.func (.func 28) #[] #[]) x y wx)
   case first=>
    go_region_with (first
     |(go_at_call 35;refine (HWJ.out _).mono ?_;rintro e w2 ⟨rfl,k2,hs2,bw⟩;(have bq:Below w1.heap.size w1 w2:=(by refine zif (W:=w1) rfl bw (by simp) ?_;repeat (first|exact Below.refl _ _|(with_reducible refine zar ?_)|(with_reducible refine zby rfl ?_ _))));(have bz:w.heap.size+1+1<w2.heap.size:=Nat.lt_of_lt_of_le hs1z bq.size);(have by_:w.heap.size+1<w2.heap.size:=by omega);(have d1:w2.cell? ⟨w.heap.size+1+1,0,none⟩=some (.int .i64 kk):=(bq.cell hs1z).trans d0);(have bs:w1.heap.size<w2.heap.size:=Nat.lt_of_le_of_lt (by first|(simp;done)|(simp;omega)) hs2);(have hb2:Below (w.heap.size+3) MW w2:=zif HMW.out bq rfl b1');(first|(obtain ⟨x0,y0,x1,y1⟩:=zmp (W:=w1) bw rfl;change w2.cell? ⟨w1.heap.size,0,none⟩=_ at x0;change w2.frozen? ⟨w1.heap.size,0,none⟩=_ at y0;change w2.cell? ⟨w1.heap.size+1,0,none⟩=_ at x1;change w2.frozen? ⟨w1.heap.size+1,0,none⟩=_ at y1;(have bt:w1.heap.size+1<w2.heap.size:=Nat.lt_of_le_of_lt (by first|(simp;done)|(simp;omega)) hs2))|(obtain ⟨x0,y0⟩:=zmH (W:=w1) bw rfl;change w2.cell? ⟨w1.heap.size,0,none⟩=_ at x0;change w2.frozen? ⟨w1.heap.size,0,none⟩=_ at y0)|skip);(first|simp at k2|skip);(first|simp at hs2|skip)))
    all_goals
     go_wp2_with fail
     go_meet
     first
      |exact zwv HMW.out hb2
      |exact zwZ HMW.out hb2
      |exact zwH HMW.out hb2 hsz1 bs x0
      |exact zwp HMW.out hb2 hsz1 bs x0
      |exact zwS hb2 hsz1 bt x0 x1
      |exact zwK hb2 hsz1 bt x0 x1
   obtain ⟨p,q,rfl,rfl,hp,hq,⟨hpl,hql⟩,hbx⟩:=hcut;have hR:zxo w (.func (.func 36) #[] #[.pointer (some ⟨p,0,none⟩),.pointer (some ⟨w.heap.size+1+1,0,none⟩),.pointer (some ⟨q,0,none⟩)]) wc:=
    ⟨p,w.heap.size+1+1,q,rfl,hp,⟨HMID.out wc 0 hbx,HMID.out wc 1 hbx,HMID.out wc 2 hbx,HMID.out wc 3 hbx,HMID.out wc 4 hbx⟩,hq,⟨hpl,by have:=hbx.size;rw[HMW.out] at this;omega,hql⟩,HM2.out.trans (hbx.mono (by omega))⟩
   have HR:=hid hR;clear hR hp hq hpl hql
   go_wp2
   go_roundw
   case rel=>exact .inr ⟨rfl,HR.out⟩
   case measure=>simp[RowKit.intOf]
  ·obtain ⟨b1,b2,b3,rfl,h1,⟨n0,n1,n2,n3,n4⟩,h3,⟨l1,l2,l3⟩,hb⟩:=hx
   have q0:=zhx hb 0;have q1:=zhx hb 1;have q2:=zhx hb 2;have q3:=zhx hb 3;have q4:=zhx hb 4;have q5:=zhx hb 5;have q6:=zhx hb 6;simp only[zkG] at q0 q1 q2 q3 q4 q5 q6;have HRR:=hid (HR2.out wr b1 b2 b3 h1 n0 n1 n2 n3 n4 h3 l1 l2 l3);have hlw:w.heap.size<wr.heap.size:=by have:=hb.size;rw[zf8] at this;omega
   go_wp2_with fail
   refine HRR.out.mono ?_;rintro e w1 ⟨A1,c1,rfl,ow,hb1⟩;have hb2:Below (w.heap.size+2) (W2 w) w1:=hb.trans (hb1.mono (by have:=hb.size;rw[zf8] at this;omega));have HO:=hid (zn (b':=w.heap.size+2) ow (by have:=hb.size;rw[zf8] at this;omega));obtain ⟨j0,f0⟩:=znD hb2 0;obtain ⟨j1,f1⟩:=znD hb2 1;obtain ⟨j2,f2⟩:=znD hb2 2;obtain ⟨j3,f3⟩:=znD hb2 3;have hz1:w.heap.size+1<w1.heap.size:=by have:=hb2.size;rw[zf8] at this;omega
   have HBW:=hid (show Below w.heap.size w w1 from (zoV w).trans (hb2.mono (by omega)));clear ow hb hb1 hb2
   go_wp2
   exact bodyPost_ret (v:=.agg #[.int .i64 200,.string ⟨#[]⟩,.slice A1 1 c1,.string ⟨#[]⟩]) (by simp[results,Tryz.results15,go_sem,j0,j1,j2,j3]) rfl ⟨A1,c1,rfl,zn (ownsRow_setCell_below (ownsRow_setCell_below (ownsRow_setCell_below (ownsRow_setCell_below HO.out (by simp) _) (by simp) _) (by simp) _) (by simp) _) (by omega),by (repeat (first|(with_reducible refine Below.setCell ?_ (by simp;omega) _)|(with_reducible refine Below.setCell ?_ (by simp) _)));exact HBW.out⟩
end Go.Proofs.YtbnafbdhomdcoaaGreatDoor
