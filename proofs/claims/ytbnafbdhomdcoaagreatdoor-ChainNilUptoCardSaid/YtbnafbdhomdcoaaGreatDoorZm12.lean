/-
  CkFb, CkFe, without what the claim does not reach.
-/
import Derived.Test.YtbnafbdhomdcoaaGreatDoorZm10
import Derived.Test.YtbnafbdhomdcoaaGreatDoorZm7
import Derived.Deep.DeepCutAuto
import Derived.Deep.RegionWith
namespace Go.Proofs.YtbnafbdhomdcoaaGreatDoor
open Go.RowKit Go.Shelf Go.Lib
set_option maxRecDepth 20000 in
set_option maxHeartbeats 4000000 in
theorem znR (m:zY) (A:Option Addr) (c:Nat) (w:World) (hk:m.kind=4) (hr:Row w A (m.list.map .string)) (hc:m.list.length≤c) (hm:zaY m):
  Calls Tryz.prog 40 #[zL m A c] w fun e w'=>e= .returned (.int .i64 (zaq (zr m)))∧Below w.heap.size w w':=by
 have HBX:=hid (show Below w.heap.size w (w.alloc (.cells #[.int .i64 4,.string m.name,.string m.value,.slice A m.list.length c,.int .i64 m.n] 65)) from (Below.refl _ w).alloc (Nat.le_refl _) _);have HNO:=hid (fun h=>zck (m:=m) h);have HYES:=hid (fun h=>(zdl (m:=m) (by rw[hk];rfl) h).trans (zv5 hk));have HBR:=hid (show zcP m=((false||decide (m.name.size=0))&&((false||decide (m.value.size=0))&&((true||decide (m.list.length=0))&&(false||decide (m.n=0))))) by unfold zcP;rw[hk];rfl);have HL:=hid (fun o=>zqt m A c (w.alloc o) hk (hr.alloc o) hc hm);unfold zL at HL;rw[hk] at HL;clear hr hc hm;unfold zL;rw[hk];clear hk;generalize m.list.length=ll at *
 by_cases hA:m.name.size=0
 ·have fA:=zaR hA
  by_cases hV:m.value.size=0
  ·have fV:=zaR hV
   by_cases hN:m.n=0
   ·have fN:(m.n !=0)=false:=bne_eq_false_iff_eq.2 hN
    have HYE:=hid (HYES.out (by rw[HBR.out,decide_eq_true hA,decide_eq_true hV,decide_eq_true hN];first|rfl|simp));clear HYES HBR HNO hA hV hN
    cases h1:(zcw [] m.list&&decide (0<ll))
    all_goals
     have HRES:=hid (HYE.out.trans h1);rw[h1] at HL;clear h1
     go_enter Tryz.func40,Tryz.ntmps40
     go_wp2_with fail
     refine (HL.out _).mono ?_;rintro e w1 ⟨rfl,b1⟩;have hbw:=zbL b1 rfl;clear b1
     go_wp2
     go_ret
     exact ⟨zp (by rw[HRES.out];rfl),hbw⟩
   ·have HRES:=hid (show zr m=false from HNO.out (by rw[HBR.out,decide_eq_true hA,decide_eq_true hV,decide_eq_false hN];first|rfl|simp))
    have fN:(m.n !=0)=true:=bne_iff_ne.2 hN;clear hA hV hN HYES HBR HNO
    go_enter Tryz.func40,Tryz.ntmps40
    go_wp2
    go_ret
    exact ⟨zp (by rw[HRES.out];rfl),HBX.out⟩
  ·have HRES:=hid (show zr m=false from HNO.out (by rw[HBR.out,decide_eq_true hA,decide_eq_false hV];first|rfl|simp))
   have fV:=zaa hV;clear hA hV HYES HBR HNO
   go_enter Tryz.func40,Tryz.ntmps40
   go_wp2
   go_ret
   exact ⟨zp (by rw[HRES.out];rfl),HBX.out⟩
 ·have HRES:=hid (show zr m=false from HNO.out (by rw[HBR.out,decide_eq_false hA];first|rfl|simp))
  have fA:=zaa hA;clear hA HYES HBR HNO
  go_enter Tryz.func40,Tryz.ntmps40
  go_wp2
  go_ret
  exact ⟨zp (by rw[HRES.out];rfl),HBX.out⟩
set_option maxRecDepth 20000 in
set_option maxHeartbeats 4000000 in
theorem zm8 (m:zY) (A:Option Addr) (c:Nat) (w:World) (hk:m.kind=10) (hr:Row w A (m.list.map .string)) (hc:m.list.length≤c) (hm:zaY m):
  Calls Tryz.prog 40 #[zL m A c] w fun e w'=>e= .returned (.int .i64 (zaq (zr m)))∧Below w.heap.size w w':=by
 have HBX:=hid (show Below w.heap.size w (w.alloc (.cells #[.int .i64 10,.string m.name,.string m.value,.slice A m.list.length c,.int .i64 m.n] 65)) from (Below.refl _ w).alloc (Nat.le_refl _) _);have HNO:=hid (fun h=>zck (m:=m) h);have HYES:=hid (fun h=>(zdl (m:=m) (by rw[hk];rfl) h).trans (ztc hk));have HBR:=hid (show zcP m=((false||decide (m.name.size=0))&&((false||decide (m.value.size=0))&&((true||decide (m.list.length=0))&&(false||decide (m.n=0))))) by unfold zcP;rw[hk];rfl);have HL:=hid (fun o=>zpm m A c (w.alloc o) hk (hr.alloc o) hc hm);unfold zL at HL;rw[hk] at HL;clear hr hc hm;unfold zL;rw[hk];clear hk;generalize m.list.length=ll at *
 by_cases hA:m.name.size=0
 ·have fA:=zaR hA
  by_cases hV:m.value.size=0
  ·have fV:=zaR hV
   by_cases hN:m.n=0
   ·have fN:(m.n !=0)=false:=bne_eq_false_iff_eq.2 hN
    have HYE:=hid (HYES.out (by rw[HBR.out,decide_eq_true hA,decide_eq_true hV,decide_eq_true hN];first|rfl|simp));clear HYES HBR HNO hA hV hN
    cases h1:zbX zcu m.list
    all_goals
     have HRES:=hid (HYE.out.trans h1);rw[h1] at HL;clear h1
     go_enter Tryz.func40,Tryz.ntmps40
     go_wp2_with fail
     refine (HL.out _).mono ?_;rintro e w1 ⟨rfl,b1⟩;have hbw:=zbL b1 rfl;clear b1
     go_wp2
     go_ret
     exact ⟨zp (by rw[HRES.out];rfl),hbw⟩
   ·have HRES:=hid (show zr m=false from HNO.out (by rw[HBR.out,decide_eq_true hA,decide_eq_true hV,decide_eq_false hN];first|rfl|simp))
    have fN:(m.n !=0)=true:=bne_iff_ne.2 hN;clear hA hV hN HYES HBR HNO
    go_enter Tryz.func40,Tryz.ntmps40
    go_wp2
    go_ret
    exact ⟨zp (by rw[HRES.out];rfl),HBX.out⟩
  ·have HRES:=hid (show zr m=false from HNO.out (by rw[HBR.out,decide_eq_true hA,decide_eq_false hV];first|rfl|simp))
   have fV:=zaa hV;clear hA hV HYES HBR HNO
   go_enter Tryz.func40,Tryz.ntmps40
   go_wp2
   go_ret
   exact ⟨zp (by rw[HRES.out];rfl),HBX.out⟩
 ·have HRES:=hid (show zr m=false from HNO.out (by rw[HBR.out,decide_eq_false hA];first|rfl|simp))
  have fA:=zaa hA;clear hA HYES HBR HNO
  go_enter Tryz.func40,Tryz.ntmps40
  go_wp2
  go_ret
  exact ⟨zp (by rw[HRES.out];rfl),HBX.out⟩
set_option maxRecDepth 20000 in
set_option maxHeartbeats 4000000 in
theorem zpu (m:zY) (A:Option Addr) (c:Nat) (w:World) (hk:m.kind=5) (_hr:Row w A (m.list.map .string)) (_hc:m.list.length≤c) (_hm:zaY m):
  Calls Tryz.prog 40 #[zL m A c] w fun e w'=>e= .returned (.int .i64 (zaq (zr m)))∧Below w.heap.size w w':=by
 have HBX:=hid (show Below w.heap.size w (w.alloc (.cells #[.int .i64 5,.string m.name,.string m.value,.slice A m.list.length c,.int .i64 m.n] 65)) from (Below.refl _ w).alloc (Nat.le_refl _) _);have HNO:=hid (fun h=>zck (m:=m) h);have HYES:=hid (fun h=>(zdl (m:=m) (by rw[hk];rfl) h).trans (zvX hk));have HBR:=hid (show zcP m=((false||decide (m.name.size=0))&&((false||decide (m.value.size=0))&&((false||decide (m.list.length=0))&&(true||decide (m.n=0))))) by unfold zcP;rw[hk];rfl);unfold zL;rw[hk];clear hk;generalize m.list.length=ll at *
 by_cases hA:m.name.size=0
 ·have fA:=zaR hA
  by_cases hV:m.value.size=0
  ·have fV:=zaR hV
   by_cases hL:ll=0
   ·have fL:=hL
    have HYE:=hid (HYES.out (by rw[HBR.out,decide_eq_true hA,decide_eq_true hV,decide_eq_true hL];first|rfl|simp));clear HYES HBR HNO hA hV hL;subst fL
    by_cases h1:0≤m.n
    ·have hd:decide (0≤m.n)=true:=decide_eq_true h1
     have HRES:=hid (HYE.out.trans (decide_eq_true h1))
     go_enter Tryz.func40,Tryz.ntmps40
     go_wp2
     go_ret
     exact ⟨zp (by rw[HRES.out];rfl),HBX.out⟩
    ·have HRES:=hid (HYE.out.trans (decide_eq_false h1))
     have hd:decide (0≤m.n)=false:=decide_eq_false h1;have hn:m.n<0:=by omega
     clear h1
     go_enter Tryz.func40,Tryz.ntmps40
     go_wp2
     go_ret
     exact ⟨zp (by rw[HRES.out];rfl),HBX.out⟩
   ·have HRES:=hid (show zr m=false from HNO.out (by rw[HBR.out,decide_eq_true hA,decide_eq_true hV,decide_eq_false hL];first|rfl|simp))
    have fL:(0:Int)<(ll:Int):=by omega
    clear hA hV hL HYES HBR HNO
    go_enter Tryz.func40,Tryz.ntmps40
    go_wp2
    go_ret
    exact ⟨zp (by rw[HRES.out];rfl),HBX.out⟩
  ·have HRES:=hid (show zr m=false from HNO.out (by rw[HBR.out,decide_eq_true hA,decide_eq_false hV];first|rfl|simp))
   have fV:=zaa hV;clear hA hV HYES HBR HNO
   go_enter Tryz.func40,Tryz.ntmps40
   go_wp2
   go_ret
   exact ⟨zp (by rw[HRES.out];rfl),HBX.out⟩
 ·have HRES:=hid (show zr m=false from HNO.out (by rw[HBR.out,decide_eq_false hA];first|rfl|simp))
  have fA:=zaa hA;clear hA HYES HBR HNO
  go_enter Tryz.func40,Tryz.ntmps40
  go_wp2
  go_ret
  exact ⟨zp (by rw[HRES.out];rfl),HBX.out⟩
theorem zdj {w w':World} {t:TypeId} {k n:Int} {a b:ByteArray} {v:Value} (h:Below (w.heap.size+1) (w.alloc (.cells #[.int .i64 k,.string a,.string b,v,.int .i64 n] t)) w'):
  w'.cell? ⟨w.heap.size,0,none⟩=some (.int .i64 k)∧w'.cell? ⟨w.heap.size,1,none⟩=some (.string a)∧w'.cell? ⟨w.heap.size,2,none⟩=some (.string b)∧w'.cell? ⟨w.heap.size,3,none⟩=some v∧w'.cell? ⟨w.heap.size,4,none⟩=some (.int .i64 n):=
 ⟨(zH h 0).1,(zH h 1).1,(zH h 2).1,(zH h 3).1,(zH h 4).1⟩
set_option maxRecDepth 20000 in
set_option maxHeartbeats 4000000 in
theorem zon (m:zY) (A:Option Addr) (c:Nat) (w:World) (hk:m.kind=8) (hr:Row w A (m.list.map .string)) (hc:m.list.length≤c) (hm:zaY m):
  Calls Tryz.prog 40 #[zL m A c] w fun e w'=>e= .returned (.int .i64 (zaq (zr m)))∧Below w.heap.size w w':=by
 have HT:=hid (fun W=>znZ m.value W hm.value);have HJ:=hid (fun B d (L:List ByteArray) (W:World) (h:Row W B (L.map .string)) (hl:(L.map (·.size)).sum+L.length*3≤1099511627776)=>zmO B d L W h hl);have HL:=hid (fun (W:World) (h:Below w.heap.size w W)=>zp5 m A c W hk (hr.below h) hc hm);have HNO:=hid (fun h=>zck (m:=m) h);have HYES:=hid (fun h=>(zdl (m:=m) (by rw[hk];rfl) h).trans (znw hk));have HBR:=hid (show zcP m=((false||decide (m.name.size=0))&&((true||decide (m.value.size=0))&&((true||decide (m.list.length=0))&&(true||decide (m.n=0))))) by unfold zcP;rw[hk];rfl);have HSZ:=hid (fun l (h:zdf m.value=some l)=>(show (l.map (·.size)).sum+l.length*3≤1099511627776 by
  unfold zdf at h
  cases he:zek m.value with
  |none=>rw[he] at h;cases h
  |some x=>
   rw[he] at h;dsimp only at h
   split at h
   ·cases h
    obtain ⟨h1,_,h3⟩:=zet he;have:=hm.value
    omega
   ·cases h))
 have HBX:=hid (show Below w.heap.size w (w.alloc (.cells (zf m A c) 65)) from (Below.refl _ w).alloc (Nat.le_refl _) _);have HTN:=hid (fun h=>zw5 (s:=m.value) h);have HTO:=hid (fun l h=>zws (s:=m.value) (l:=l) h);clear hr hc hm;unfold zL zf at *;rw[hk] at *;clear hk
 by_cases hA:m.name.size=0
 case neg=>
  have HRES:=hid (show zr m=false from HNO.out (by rw[HBR.out,decide_eq_false hA];first|rfl|simp));have fA:=zaa hA;clear hA
  go_enter Tryz.func40,Tryz.ntmps40
  go_wp2
  go_ret
  exact ⟨zp (by rw[HRES.out];rfl),HBX.out⟩
 case pos=>
  have fA:=zaR hA;have HYE:=hid (HYES.out (by rw[HBR.out,decide_eq_true hA];first|rfl|simp));clear hA HYES HBR HNO
  cases ho:zdf m.value with
  |none=>
   have HRES:=hid (show zr m=false by rw[HYE.out,HTN.out ho];rfl);rw[ho] at HT;clear ho
   go_enter Tryz.func40,Tryz.ntmps40
   go_wp2_with fail
   refine (HT.out _).mono ?_;rintro e w1 ⟨B,d,L,n,rfl,hown,b1,hn,hL⟩;have hne:(n==0)=false:=beq_eq_false_iff_ne.2 hn;have hbw:=zbL b1 rfl;have H2:=hid (zdj (zfi b1));obtain ⟨a0,a1,a2,a3,a4⟩:=H2.out;clear b1 hn
   go_wp2_with fail
   go_quiet (fail)
   go_wp2
   go_ret
   exact ⟨zp (by rw[HRES.out];rfl),zbb hbw _⟩
  |some l=>
   have HTE:=hid (HTO.out l ho);have hsz:=HSZ.out l ho;rw[ho] at HT;clear ho;have HJ2:=hid (fun B d (W:World) (h:Row W B (l.map .string))=>HJ.out B d l W h hsz);clear hsz
   go_enter Tryz.func40,Tryz.ntmps40
   go_wp2_with fail
   refine (HT.out _).mono ?_;rintro e w1 ⟨B,d,L,n,rfl,hown,b1,rfl,hLl⟩;subst hLl;have hbw:=zbL b1 rfl;have hbx:=zfi b1;have HBB:=hid hbx;have HRW:=hid (zak hown);clear b1 hown
   by_cases hj:zaw L=m.value
   ·have hjb:((zaw L).toList==m.value.toList)=true:=by rw[hj];simp
    by_cases hn:0≤m.n
    ·have hnb:decide (0≤m.n)=true:=decide_eq_true hn
     cases hq:zbX (zai m.list.length) m.list
     all_goals
      have HRES:=hid (HYE.out.trans (by rw[HTE.out,decide_eq_true hj,hnb,hq]));rw[hq] at HL;clear hq HYE HTE
     ·skip
      have hz1:w.heap.size+1≤w1.heap.size:=by have h:=hbx.size;simpa using h
      have hHe0:Below w1.heap.size w1 w1.drew:=zaM (Below.refl _ _);clear hbx
      go_wp2_with fail
      refine zO (t:=18) (S:=fun W=>Below w1.heap.size w1 W) (by kernel_rfl) hHe0 (fun hHeld=>?_);refine za 0 (s:=hHeld) (h:=?_);refine za 1 (s:=hHeld) (h:=?_);refine za 2 (s:=hHeld) (h:=?_);refine za 3 (s:=hHeld) (h:=?_);refine za 5 (s:=hHeld) (h:=?_);refine za 6 (y:=fun w hSw=>by (try dsimp only at hSw);obtain ⟨a0,a1,a2,a3,a4⟩:=zdj (HBB.out.trans (hSw.mono hz1));exact yl) (s:=hHeld) (h:=?_);refine zc 4 (h:=fun K hK=>?_)
      (try rw[if_pos (by rfl)])
      go_simp
      go_at_call 42
      refine (HJ2.out B d _ (HRW.out.below hHeld)).mono ?_;rintro e w4 ⟨rfl,hb4⟩;have hHeld4:=hHeld.trans (hb4.mono hHeld.size);clear hb4
      (try go_wp2_with fail)
      refine hK.out _ _ (.inr hHeld4) (fun _=>nm ?_);clear hK K;refine za 7 (s:=hHeld4) (h:=?_);refine za 8 (s:=hHeld4) (h:=?_);refine za 9 (s:=hHeld4) (h:=?_);refine za 10 (s:=hHeld4) (h:=?_);refine za 11 (y:=fun w hSw=>by (try dsimp only at hSw);obtain ⟨a0,a1,a2,a3,a4⟩:=zdj (HBB.out.trans (hSw.mono hz1));exact yl) (s:=hHeld4) (h:=?_);refine za 12 (s:=hHeld4) (h:=?_);refine za 13 (s:=hHeld4) (h:=?_);refine za 14 (s:=hHeld4) (h:=?_);refine za 15 (y:=fun w hSw=>by (try dsimp only at hSw);obtain ⟨a0,a1,a2,a3,a4⟩:=zdj (HBB.out.trans (hSw.mono hz1));exact yl) (s:=hHeld4) (h:=?_);refine zc 16 (h:=fun K hK=>?_)
      (try rw[if_pos (by rfl)])
      go_simp
      go_at_call 82
      refine (HL.out _ (hbw.trans (hHeld4.mono hbw.size))).mono ?_;rintro e w5 ⟨rfl,hb5⟩;have hHe5:=hHeld4.trans (hb5.mono hHeld4.size);clear hb5
      (try go_wp2_with fail)
      refine hK.out _ _ (.inr hHe5) (fun _=>nm ?_);clear hK K;refine za 17 (s:=hHe5) (h:=?_);refine zc 18 (h:=fun K hK=>?_)
      (try go_simp)
      refine hK.out _ _ (.inl (by rfl)) (fun _=>nm ?_);clear hK K;refine zy (by kernel_rfl) ?_ _;have HZ:=hid (hbw.trans (hHe5.mono hbw.size))
      go_wp2
      go_ret
      exact ⟨zp (by rw[HRES.out];rfl),HZ.out⟩
     ·skip
      have hz1:w.heap.size+1≤w1.heap.size:=by have h:=hbx.size;simpa using h
      have hHe0:Below w1.heap.size w1 w1.drew:=zaM (Below.refl _ _);clear hbx
      go_wp2_with fail
      refine zO (t:=18) (S:=fun W=>Below w1.heap.size w1 W) (by kernel_rfl) hHe0 (fun hHeld=>?_);refine za 0 (s:=hHeld) (h:=?_);refine za 1 (s:=hHeld) (h:=?_);refine za 2 (s:=hHeld) (h:=?_);refine za 3 (s:=hHeld) (h:=?_);refine za 5 (s:=hHeld) (h:=?_);refine za 6 (y:=fun w hSw=>by (try dsimp only at hSw);obtain ⟨a0,a1,a2,a3,a4⟩:=zdj (HBB.out.trans (hSw.mono hz1));exact yl) (s:=hHeld) (h:=?_);refine zc 4 (h:=fun K hK=>?_)
      (try rw[if_pos (by rfl)])
      go_simp
      go_at_call 42
      refine (HJ2.out B d _ (HRW.out.below hHeld)).mono ?_;rintro e w4 ⟨rfl,hb4⟩;have hHeld4:=hHeld.trans (hb4.mono hHeld.size);clear hb4
      (try go_wp2_with fail)
      refine hK.out _ _ (.inr hHeld4) (fun _=>nm ?_);clear hK K;refine za 7 (s:=hHeld4) (h:=?_);refine za 8 (s:=hHeld4) (h:=?_);refine za 9 (s:=hHeld4) (h:=?_);refine za 10 (s:=hHeld4) (h:=?_);refine za 11 (y:=fun w hSw=>by (try dsimp only at hSw);obtain ⟨a0,a1,a2,a3,a4⟩:=zdj (HBB.out.trans (hSw.mono hz1));exact yl) (s:=hHeld4) (h:=?_);refine za 12 (s:=hHeld4) (h:=?_);refine za 13 (s:=hHeld4) (h:=?_);refine za 14 (s:=hHeld4) (h:=?_);refine za 15 (y:=fun w hSw=>by (try dsimp only at hSw);obtain ⟨a0,a1,a2,a3,a4⟩:=zdj (HBB.out.trans (hSw.mono hz1));exact yl) (s:=hHeld4) (h:=?_);refine zc 16 (h:=fun K hK=>?_)
      (try rw[if_pos (by rfl)])
      go_simp
      go_at_call 82
      refine (HL.out _ (hbw.trans (hHeld4.mono hbw.size))).mono ?_;rintro e w5 ⟨rfl,hb5⟩;have hHe5:=hHeld4.trans (hb5.mono hHeld4.size);clear hb5
      (try go_wp2_with fail)
      refine hK.out _ _ (.inr hHe5) (fun _=>nm ?_);clear hK K;refine za 17 (s:=hHe5) (h:=?_);refine zc 18 (h:=fun K hK=>?_)
      (try go_simp)
      refine hK.out _ _ (.inl (by rfl)) (fun _=>nm ?_);clear hK K;refine zy (by kernel_rfl) ?_ _;have HZ:=hid (hbw.trans (hHe5.mono hbw.size))
      go_wp2
      go_ret
      exact ⟨zp (by rw[HRES.out];rfl),HZ.out⟩
    ·have hnb:decide (0≤m.n)=false:=decide_eq_false hn
     have hn':m.n<0:=by omega
     have HRES:=hid (show zr m=false by rw[HYE.out,hnb];simp);clear HYE HTE hn;have hz1:w.heap.size+1≤w1.heap.size:=by have h:=hbx.size;simpa using h
     have hHe0:Below w1.heap.size w1 w1.drew:=zaM (Below.refl _ _);clear hbx
     go_wp2_with fail
     refine zO (t:=18) (S:=fun W=>Below w1.heap.size w1 W) (by kernel_rfl) hHe0 (fun hHeld=>?_);refine za 0 (s:=hHeld) (h:=?_);refine za 1 (s:=hHeld) (h:=?_);refine za 2 (s:=hHeld) (h:=?_);refine za 3 (s:=hHeld) (h:=?_);refine za 5 (s:=hHeld) (h:=?_);refine za 6 (y:=fun w hSw=>by (try dsimp only at hSw);obtain ⟨a0,a1,a2,a3,a4⟩:=zdj (HBB.out.trans (hSw.mono hz1));exact yl) (s:=hHeld) (h:=?_);refine zc 4 (h:=fun K hK=>?_)
     (try rw[if_pos (by rfl)])
     go_simp
     go_at_call 42
     refine (HJ2.out B d _ (HRW.out.below hHeld)).mono ?_;rintro e w4 ⟨rfl,hb4⟩;have hHeld4:=hHeld.trans (hb4.mono hHeld.size);clear hb4
     (try go_wp2_with fail)
     refine hK.out _ _ (.inr hHeld4) (fun _=>nm ?_);clear hK K;refine za 7 (s:=hHeld4) (h:=?_);refine za 8 (s:=hHeld4) (h:=?_);refine za 9 (s:=hHeld4) (h:=?_);refine za 10 (s:=hHeld4) (h:=?_);refine za 11 (y:=fun w hSw=>by (try dsimp only at hSw);obtain ⟨a0,a1,a2,a3,a4⟩:=zdj (HBB.out.trans (hSw.mono hz1));exact yl) (s:=hHeld4) (h:=?_);refine za 12 (s:=hHeld4) (h:=?_);refine za 13 (s:=hHeld4) (h:=?_);refine za 14 (s:=hHeld4) (h:=?_);refine' zdD (i:=15) (v:=undef) rfl (by kernel_rfl) (by kernel_rfl) (by kernel_rfl) (by kernel_rfl) (by rfl) (fun _ _ _ h=>h) (Or.inr ⟨by rfl,rfl⟩) hHeld4 ?h47r;refine nm ?_;refine' zdD (i:=16) (v:=undef) rfl (by kernel_rfl) (by kernel_rfl) (by kernel_rfl) (by kernel_rfl) (by rfl) (fun _ _ _ h=>h) (Or.inr ⟨by rfl,rfl⟩) hHeld4 ?h48r;refine nm ?_;refine za 17 (s:=hHeld4) (h:=?_);refine zc 18 (h:=fun K hK=>?_)
     (try go_simp)
     refine hK.out _ _ (.inl (by rfl)) (fun _=>nm ?_);clear hK K;refine zy (by kernel_rfl) ?_ _;have HZ:=hid (hbw.trans (hHeld4.mono hbw.size))
     go_wp2
     go_ret
     exact ⟨zp (by rw[HRES.out];rfl),HZ.out⟩
   ·have hjb:((zaw L).toList==m.value.toList)=false:=beq_eq_false_iff_ne.2 fun h=>hj (zV (by rw[←Lib.toList_data,←Lib.toList_data];exact h))
    have HRES:=hid (show zr m=false by rw[HYE.out,HTE.out,decide_eq_false hj];rfl);clear HYE HTE hj;have hz1:w.heap.size+1≤w1.heap.size:=by have h:=hbx.size;simpa using h
    have hHe0:Below w1.heap.size w1 w1.drew:=zaM (Below.refl _ _);clear hbx
    go_wp2_with fail
    refine zO (t:=18) (S:=fun W=>Below w1.heap.size w1 W) (by kernel_rfl) hHe0 (fun hHeld=>?_);refine za 0 (s:=hHeld) (h:=?_);refine za 1 (s:=hHeld) (h:=?_);refine za 2 (s:=hHeld) (h:=?_);refine za 3 (s:=hHeld) (h:=?_);refine za 5 (s:=hHeld) (h:=?_);refine za 6 (y:=fun w hSw=>by (try dsimp only at hSw);obtain ⟨a0,a1,a2,a3,a4⟩:=zdj (HBB.out.trans (hSw.mono hz1));exact yl) (s:=hHeld) (h:=?_);refine zc 4 (h:=fun K hK=>?_)
    (try rw[if_pos (by rfl)])
    go_simp
    go_at_call 42
    refine (HJ2.out B d _ (HRW.out.below hHeld)).mono ?_;rintro e w4 ⟨rfl,hb4⟩;have hHeld4:=hHeld.trans (hb4.mono hHeld.size);clear hb4
    (try go_wp2_with fail)
    refine hK.out _ _ (.inr hHeld4) (fun _=>nm ?_);clear hK K;refine za 7 (s:=hHeld4) (h:=?_);refine za 8 (s:=hHeld4) (h:=?_);refine za 9 (s:=hHeld4) (h:=?_);refine' zdD (i:=10) (v:=undef) rfl (by kernel_rfl) (by kernel_rfl) (by kernel_rfl) (by kernel_rfl) (by rfl) (fun _ _ _ h=>h) (Or.inr ⟨by rfl,rfl⟩) hHeld4 ?h59r;refine nm ?_;refine' zdD (i:=11) (v:=undef) rfl (by kernel_rfl) (by kernel_rfl) (by kernel_rfl) (by kernel_rfl) (by rfl) (fun _ _ _ h=>h) (Or.inr ⟨by rfl,rfl⟩) hHeld4 ?h60r;refine nm ?_;refine' zdD (i:=12) (v:=undef) rfl (by kernel_rfl) (by kernel_rfl) (by kernel_rfl) (by kernel_rfl) (by rfl) (fun _ _ _ h=>h) (Or.inr ⟨by rfl,rfl⟩) hHeld4 ?h61r;refine nm ?_;refine za 13 (s:=hHeld4) (h:=?_);refine za 14 (s:=hHeld4) (h:=?_);refine' zdD (i:=15) (v:=undef) rfl (by kernel_rfl) (by kernel_rfl) (by kernel_rfl) (by kernel_rfl) (by rfl) (fun _ _ _ h=>h) (Or.inr ⟨by rfl,rfl⟩) hHeld4 ?h64r;refine nm ?_;refine' zdD (i:=16) (v:=undef) rfl (by kernel_rfl) (by kernel_rfl) (by kernel_rfl) (by kernel_rfl) (by rfl) (fun _ _ _ h=>h) (Or.inr ⟨by rfl,rfl⟩) hHeld4 ?h65r;refine nm ?_;refine za 17 (s:=hHeld4) (h:=?_);refine zc 18 (h:=fun K hK=>?_)
    (try go_simp)
    refine hK.out _ _ (.inl (by rfl)) (fun _=>nm ?_);clear hK K;refine zy (by kernel_rfl) ?_ _;have HZ:=hid (hbw.trans (hHeld4.mono hbw.size))
    go_wp2
    go_ret
    exact ⟨zp (by rw[HRES.out];rfl),HZ.out⟩
end Go.Proofs.YtbnafbdhomdcoaaGreatDoor
