/-
  ChD, ChQ, ChF, ChL, without what the claim does not reach.
-/
import Derived.Test.YtbnafbdhomdcoaaGreatDoorZm1
import Derived.Lib.ItoaNum
import Derived.Lib.ItoaLen
import Derived.Lib.LaidTab
import Derived.Lib.AppendIntMem
import Derived.Deep.RegionHeld3
import Derived.Deep.QuietTactic
import Derived.BigQuiet
import Derived.WalkSpells
import Derived.Below
namespace Go.Proofs.YtbnafbdhomdcoaaGreatDoor
open Go.RowKit Go.Shelf Go.Lib
theorem zuI:Tryz.prog.globalNamed "internal/strconv.uint64pow10" =some 2:=by kernel_rfl
theorem ziY {P:Program} {w w':World} {name:String} {k:IntKind} {zs:List Int} {g B:Nat} (h:Lib.TabIs P w name k zs) (hg:P.globalNamed name=some g) (hb:Below B w w') (hB:g<B):Lib.TabIs P w' name k zs:=by
 unfold Lib.TabIs World.var? at *;rw[hg] at h ⊢;simp only[Option.bind_some] at h ⊢;rw[hb.block g hB];exact h
structure zdF (w:World):Prop where
 g:Glob w
 pow:Lib.TabIs Tryz.prog w "internal/strconv.uint64pow10" .u64 Lib.pow10Tab
theorem zdF.beyond {w w':World} (h:zdF w) (hb:Below w.heap.size w w'):zdF w':=⟨h.g.beyond hb,ziY h.pow zuI hb (Nat.lt_of_lt_of_le (by decide) h.g.size)⟩
def zat (b:UInt8):Value:=.int .u8 (b.toNat:Int)
theorem zbq (l:List UInt8):∀u∈l.map zat,u.oneCell'=true:=by
 intro u hu;obtain ⟨b,_,rfl⟩:=List.mem_map.1 hu
 rfl
theorem zcI:(Tryz.prog.info? 5).map (fun i=>(i.zero,i.size,i.bytes))=some (some (.int .u8 0),1,1):=by kernel_rfl
def zZ (w:World) (base:Nat) (v:Value) (l:List UInt8):Prop:=w.ownsRow base 5 1 v l.length (l.map zat)
theorem zZ.conv {w:World} {base:Nat} {v:Value} {l:List UInt8} (h:zZ w base v l):(convert 80 9 v).run Tryz.prog w= .ok (.string ⟨l.toArray⟩) w:=by
 obtain ⟨A,c,rfl⟩:=zC h
 rcases h.2 with ⟨h1,h2⟩|⟨g,cap,cur,h1,_⟩
 ·simp only[Value.slice.injEq] at h1
  obtain ⟨h1,h3,h4⟩:=h1;have hl:l=[]:=List.eq_nil_of_length_eq_zero h3;subst hl;rw[h1];have:=run_convert_bytes_nil (P:=Tryz.prog) w 80 5 Tryz.underlying80 Tryz.underlying5 0 c 9 Tryz.underlying9;exact this
 ·simp only[Value.slice.injEq] at h1
  obtain ⟨h1,h3,h4⟩:=h1;subst h1;have hc:=h.cells (g:=g) rfl;have hB:zbM w g l:=⟨fun i hi=>by
   have h6:=hc i (zat l[i]) (by rw[List.getElem?_map,List.getElem?_eq_getElem hi];rfl);have e:(⟨g,0,none⟩:Addr).add i=⟨g,i,none⟩:=by
    unfold Addr.add
    split
    ·rename_i h0;rw[h0]
    ·simp
   rw[e] at h6;rw[h6,List.getD_eq_getElem?_getD,List.getElem?_eq_getElem hi]
   rfl,fun i _=>h.frozenAt i⟩
  exact hB.conv Tryz.underlying80 Tryz.underlying5 Tryz.underlying9 c
def za3 (n:Int):ByteArray:=⟨(Lib.itoa n).toArray⟩
theorem zfV (n:Int) (w:World) (h0:-9223372036854775808≤n) (h1:n≤9223372036854775807) (hg:zdF w):
  Calls Tryz.prog 39 #[.int .i64 n] w fun e w'=>e= .returned (.string (za3 n))∧Below w.heap.size w w':=by
 have HI:Calls Tryz.prog 79 #[.int .i64 n] w fun e w'=>e= .returned (.string (za3 n))∧Below w.heap.size w w':=(Tryz.strconv_Itoa n h0 h1 w hg.pow).mono fun e w' ⟨he,k,os,hw⟩=>⟨he,by rw[hw];exact Lib.below_grow _ _ (Nat.le_refl _) k os⟩
 have HI:=hid HI
 go_enter Tryz.func39,Tryz.ntmps39
 go_wp2_with fail
 refine HI.out.mono ?_;rintro e w' ⟨rfl,hb⟩
 go_wp2
 go_ret
 exact ⟨rfl,hb⟩
def zcy (m:Nat):List UInt8:=if m=0 then [] else Lib.decDigits m
theorem ze2 {m:Nat} (h:m≠0):zcy m=zcy (m / 10)++[UInt8.ofNat (48+m % 10)]:=by
 unfold zcy;rw[if_neg h]
 by_cases h10:m<10
 ·rw[if_pos (by omega),Lib.decDigits_one h10,Nat.mod_eq_of_lt h10]
  rfl
 ·rw[if_neg (by omega),Lib.decDigits,dif_neg h10]
theorem zdK (b:UInt8) (l:List UInt8):((⟨#[b]⟩:ByteArray)++(⟨l.toArray⟩:ByteArray)).data.toList=b::l:=by
 rw[ByteArray.data_append];simp
theorem zgV (w:World) (v:Int) (h0:0≤v) (h1:v<256):(convert 80 9 (.slice (some ⟨w.heap.size,0,none⟩) 1 1)).run Tryz.prog (w.alloc (.cells #[.int .u8 v] 5))= .ok (.string ⟨#[UInt8.ofNat v.toNat]⟩) (w.alloc (.cells #[.int .u8 v] 5)):=by
 have e:(Value.int .u8 v)=zat (UInt8.ofNat v.toNat):=by
  unfold zat;rw[UInt8.toNat_ofNat']
  congr 1
  omega
 rw[e];have h:zZ (w.alloc (.cells #[zat (UInt8.ofNat v.toNat)] 5)) w.heap.size (.slice (some ⟨w.heap.size,0,none⟩) 1 1) [UInt8.ofNat v.toNat]:=World.ownsRow_lit w #[zat (UInt8.ofNat v.toNat)] 1 (Nat.le_refl _) (by unfold maxLen;omega) rfl;exact h.conv
set_option maxRecDepth 20000 in
set_option maxHeartbeats 2000000 in
theorem zgX (n:Nat) (w:World) (h1:(n:Int)≤9223372036854775807):
  Calls Tryz.prog 24 #[.int .i64 (n:Int)] w fun e w'=>e= .returned (.string (za3 n))∧Below w.heap.size w w':=by
 have hI:za3 (n:Int)=⟨(Lib.decDigits n).toArray⟩:=by unfold za3 Lib.itoa;rw[if_neg (by omega)];rfl
 have HI:=hid hI;clear hI
 by_cases hz:n=0
 ·subst hz
  have hZ:=hid (show za3 ((0:Nat):Int)=⟨#[48]⟩ by rw[HI.out,Lib.decDigits_one (by omega)];rfl);rw[show ((0:Nat):Int)=0 from rfl] at *
  go_enter Tryz.func24,Tryz.ntmps24
  go_wp2
  go_ret
  exact ⟨zbz hZ.out.symm,Below.refl _ _⟩
 ·have hne:((n:Int)==0)=false:=by simpa using hz
  have hneg:decide ((n:Int)<0)=false:=decide_eq_false (by omega);have HD:=hid (show zcy n=Lib.decDigits n by unfold zcy;rw[if_neg hz]);clear hz
  go_enter Tryz.func24,Tryz.ntmps24
  go_wp2
  go_loopw [0,4] (fun v o wr=>∃(m:Nat) (out:List UInt8),m≤n∧v= .int .i64 (m:Int)∧o= .string ⟨out.toArray⟩∧zcy m++out=Lib.decDigits n∧Below w.heap.size w wr) (fun v _ _=>(RowKit.intOf v).toNat)
  case atStart=>exact ⟨n,[],Nat.le_refl _,rfl,rfl,by rw[List.append_nil];exact HD.out,Below.refl _ _⟩
  case round=>
   obtain ⟨m,out,hmn,rfl,rfl,hout,hbw⟩:=hrel;have hol:out.length≤20:=by
    have h2:=congrArg List.length hout;rw[List.length_append,Lib.decDigits_length] at h2;have:=Lib.nDigits_le20 n (by omega)
    omega
   have HO:=hid hout;clear hout
   by_cases hm:m=0
   ·have hne2:((m:Int)!=0)=false:=by simpa using hm
    have HZ:=hid (show out=Lib.decDigits n by have h:=HO.out;rw[hm] at h;exact h);clear hm
    go_wp2
    go_ret
    exact ⟨zbz (by rw[HI.out,HZ.out]),hbw⟩
   ·have hne2:((m:Int)!=0)=true:=by simpa using hm
    have hm0:0≤(m:Int):=by omega
    have hr0:0≤(m:Int) % 10:=by omega
    have hr1:(m:Int) % 10<10:=by omega
    have hcv:=zgV wr (48+(m:Int) % 10) (by omega) (by omega);have hw8:IntKind.u8.wrap (48+(m:Int) % 10)=48+(m:Int) % 10:=IntWalk.u8_in _ (by omega);have hb48:UInt8.ofNat (48+(m:Int) % 10).toNat=UInt8.ofNat (48+m % 10):=by rw[show (48+(m:Int) % 10).toNat=48+m % 10 by omega]
    have HS:=hid (show zcy (m / 10)++((UInt8.ofNat (48+(m:Int) % 10).toNat)::out)=Lib.decDigits n by rw[hb48,←HO.out,ze2 hm];simp);have hmd:m / 10<m:=by omega
    clear hm hb48;generalize UInt8.ofNat (48+(m:Int) % 10).toNat=b at *
    go_wp2
    go_roundw
    case rel=>exact ⟨m / 10,b::out,by omega,by rw[Int.natCast_ediv];rfl,congrArg Value.string (zV (zdK b out)),HS.out,hbw.alloc hbw.size _⟩
    case measure=>simp[RowKit.intOf];omega
set_option maxRecDepth 20000 in
set_option maxHeartbeats 2000000 in
theorem zoJ (n:Nat) (w:World) (h0:0<n) (h1:(n:Int)≤9223372036854775808):
  Calls Tryz.prog 24 #[.int .i64 (-(n:Int))] w fun e w'=>e= .returned (.string (za3 (-(n:Int))))∧Below w.heap.size w w':=by
 have hI:za3 (-(n:Int))=(⟨#[45]⟩:ByteArray)++⟨(Lib.decDigits n).toArray⟩:=by
  apply zV
  rw[zdK];unfold za3 Lib.itoa;rw[if_pos (by omega),show (-(n:Int)).natAbs=n by omega]
 have HI:=hid hI;clear hI;have hne:((-(n:Int))==0)=false:=by rw[beq_eq_false_iff_ne];omega
 have hneg:decide ((-(n:Int))<0)=true:=decide_eq_true (by omega);have HD:=hid (show zcy n=Lib.decDigits n by unfold zcy;rw[if_neg (by omega)]);generalize hN:-(n:Int)=N at *
 go_enter Tryz.func24,Tryz.ntmps24
 go_wp2
 go_loopw [0,4] (fun v o wr=>∃(m:Nat) (out:List UInt8),m≤n∧v= .int .i64 (-(m:Int))∧o= .string ⟨out.toArray⟩∧zcy m++out=Lib.decDigits n∧Below w.heap.size w wr) (fun v _ _=>(-(RowKit.intOf v)).toNat)
 case atStart=>exact ⟨n,[],Nat.le_refl _,by rw[hN],rfl,by rw[List.append_nil];exact HD.out,Below.refl _ _⟩
 case round=>
  obtain ⟨m,out,hmn,rfl,rfl,hout,hbw⟩:=hrel;have hol:out.length≤20:=by
   have h2:=congrArg List.length hout;rw[List.length_append,Lib.decDigits_length] at h2;have:=Lib.nDigits_le20 n (by omega)
   omega
  have HO:=hid hout;clear hout
  by_cases hm:m=0
  ·have hne2:((-(m:Int))!=0)=false:=by rw[hm];rfl
   have HZ:=hid (show out=Lib.decDigits n by have h:=HO.out;rw[hm] at h;exact h);generalize -(m:Int)=M at *;clear hm
   go_wp2
   go_ret
   exact ⟨zbz (by rw[HI.out,HZ.out]),hbw⟩
  ·have hne2:((-(m:Int))!=0)=true:=by rw[bne_iff_ne];omega
   have hr:(-(m:Int)).tmod 10=-((m:Int) % 10):=by rw[Int.neg_tmod,Int.tmod_eq_emod_of_nonneg (by omega)]
   have hq:(-(m:Int)).tdiv 10=-((m / 10:Nat):Int):=by rw[Int.neg_tdiv,Int.tdiv_eq_ediv_of_nonneg (by omega)];omega
   have hqw:IntKind.i64.wrap (-((m / 10:Nat):Int))=-((m / 10:Nat):Int):=IntWalk.i64_in _ (by omega);have hcv:=zgV wr (48+(m:Int) % 10) (by omega) (by omega);have hw8:IntKind.u8.wrap (48+(m:Int) % 10)=48+(m:Int) % 10:=IntWalk.u8_in _ (by omega);have hb48:UInt8.ofNat (48+(m:Int) % 10).toNat=UInt8.ofNat (48+m % 10):=by rw[show (48+(m:Int) % 10).toNat=48+m % 10 by omega]
   have HS:=hid (show zcy (m / 10)++((UInt8.ofNat (48+(m:Int) % 10).toNat)::out)=Lib.decDigits n by rw[hb48,←HO.out,ze2 hm];simp);have hmd:m / 10<m:=by omega
   have hd0:0≤(m:Int) % 10:=by omega
   have hd1:(m:Int) % 10<10:=by omega
   clear hm hb48;generalize UInt8.ofNat (48+(m:Int) % 10).toNat=b at *;generalize (m:Int) % 10=d at *
   rcases Int.lt_or_le 0 d with hd|hd
   ·have hlt:decide (-d<0)=true:=decide_eq_true (by omega)
    go_wp2
    go_roundw
    case rel=>exact ⟨m / 10,b::out,by omega,rfl,congrArg Value.string (zV (zdK b out)),HS.out,hbw.alloc hbw.size _⟩
    case measure=>simp[RowKit.intOf];omega
   ·obtain rfl:d=0:=by omega
    simp only[Int.add_zero] at hcv hw8
    go_wp2
    go_roundw
    case rel=>exact ⟨m / 10,b::out,by omega,rfl,congrArg Value.string (zV (zdK b out)),HS.out,hbw.alloc hbw.size _⟩
    case measure=>simp[RowKit.intOf];omega
theorem zjz (n:Int) (w:World) (h0:-9223372036854775808≤n) (h1:n≤9223372036854775807):
  Calls Tryz.prog 24 #[.int .i64 n] w fun e w'=>e= .returned (.string (za3 n))∧Below w.heap.size w w':=by
 rcases Int.lt_or_le n 0 with h|h
 ·have e:n=-((n.natAbs:Nat):Int):=by omega
  rw[e];exact zoJ n.natAbs w (by omega) (by omega)
 ·obtain ⟨k,rfl⟩:=Int.eq_ofNat_of_zero_le h
  exact zgX k w (by omega)
def zh6 (n:Int):ByteArray:=if n<0 then ⟨#[45]⟩ else za3 n
theorem zgP {m:Nat} (h:10≤m):Lib.decDigits m=Lib.decDigits (m / 10)++[UInt8.ofNat (48+m % 10)]:=by
 rw[Lib.decDigits,dif_neg (by omega)]
theorem zjd {m:Nat} (h:m<10):Lib.decDigits m=[UInt8.ofNat (48+m % 10)]:=by rw[Lib.decDigits_one h,Nat.mod_eq_of_lt h]
set_option maxRecDepth 20000 in
set_option maxHeartbeats 2000000 in
theorem zsO (n:Nat) (w:World) (h1:(n:Int)≤9223372036854775807):
  Calls Tryz.prog 51 #[.int .i64 (n:Int)] w fun e w'=>e= .returned (.string (za3 n))∧Below w.heap.size w w':=by
 have hI:za3 (n:Int)=⟨(Lib.decDigits n).toArray⟩:=by unfold za3 Lib.itoa;rw[if_neg (by omega)];rfl
 have HI:=hid hI;clear hI;have hneg:decide ((n:Int)<0)=false:=decide_eq_false (by omega)
 go_enter Tryz.func51,Tryz.ntmps51
 go_wp2
 go_loopw [0,3] (fun v o wr=>∃(m:Nat) (out:List UInt8),m≤n∧v= .int .i64 (m:Int)∧o= .string ⟨out.toArray⟩∧Lib.decDigits m++out=Lib.decDigits n∧Below w.heap.size w wr) (fun v _ _=>(RowKit.intOf v).toNat)
 case atStart=>exact ⟨n,[],Nat.le_refl _,rfl,rfl,by rw[List.append_nil],Below.refl _ _⟩
 case round=>
  obtain ⟨m,out,hmn,rfl,rfl,hout,hbw⟩:=hrel;have hol:out.length≤20:=by
   have h2:=congrArg List.length hout;rw[List.length_append,Lib.decDigits_length (u:=n)] at h2;have:=Lib.nDigits_le20 n (by omega)
   omega
  have HO:=hid hout;clear hout;have hm0:0≤(m:Int):=by omega
  have hr0:0≤(m:Int) % 10:=by omega
  have hr1:(m:Int) % 10<10:=by omega
  have hcv:=zgV wr (48+(m:Int) % 10) (by omega) (by omega);have hw8:IntKind.u8.wrap (48+(m:Int) % 10)=48+(m:Int) % 10:=IntWalk.u8_in _ (by omega);have hb48:UInt8.ofNat (48+(m:Int) % 10).toNat=UInt8.ofNat (48+m % 10):=by rw[show (48+(m:Int) % 10).toNat=48+m % 10 by omega]
  by_cases hz:m<10
  ·have HS:=hid (show (UInt8.ofNat (48+(m:Int) % 10).toNat)::out=Lib.decDigits n by rw[hb48,←HO.out,zjd hz];rfl)
   have hq0:(m:Int) / 10=0:=by omega
   have hq1:((m:Int) / 10==0)=true:=by rw[hq0];rfl
   clear hb48 hz;generalize UInt8.ofNat (48+(m:Int) % 10).toNat=b at *
   go_wp2
   go_ret
   exact ⟨zbz (by rw[HI.out,←HS.out];exact zV (zdK b out)),hbw.alloc hbw.size _⟩
  ·have HS:=hid (show Lib.decDigits (m / 10)++((UInt8.ofNat (48+(m:Int) % 10).toNat)::out)=Lib.decDigits n by rw[hb48,←HO.out,zgP (m:=m) (by omega),List.append_assoc];rfl)
   have hq1:((m:Int) / 10==0)=false:=by rw[beq_eq_false_iff_ne];omega
   have hmd:m / 10<m:=by omega
   clear hb48 hz;generalize UInt8.ofNat (48+(m:Int) % 10).toNat=b at *
   go_wp2
   go_roundw
   case rel=>exact ⟨m / 10,b::out,by omega,by rw[Int.natCast_ediv];rfl,congrArg Value.string (zV (zdK b out)),HS.out,hbw.alloc hbw.size _⟩
   case measure=>simp[RowKit.intOf];omega
set_option maxRecDepth 20000 in
theorem zsc (n:Int) (w:World) (h1:n≤9223372036854775807):
  Calls Tryz.prog 51 #[.int .i64 n] w fun e w'=>e= .returned (.string (zh6 n))∧Below w.heap.size w w':=by
 unfold zh6
 by_cases h:n<0
 ·rw[if_pos h]
  have hd:decide (n<0)=true:=decide_eq_true h
  go_enter Tryz.func51,Tryz.ntmps51
  go_wp2
  go_ret
  exact ⟨rfl,Below.refl _ _⟩
 ·rw[if_neg h]
  obtain ⟨k,rfl⟩:=Int.eq_ofNat_of_zero_le (show 0≤n by omega);exact zsO k w h1
theorem zlO (D:ByteArray) (j:Nat) (hj:j<787) (h:zf7 D j=true) (hn:∀k,k<j→zf7 D k=false):zcr D=zfr.extract (frm j+4) j:=by
 unfold zcr;rw[(List.find?_range_eq_some (n:=787) (i:=j) (p:=zf7 D)).2 ⟨h,List.mem_range.2 hj,fun k hk=>by rw[hn k hk];rfl⟩]
theorem zlH {D:ByteArray} (hn:∀k,k<787→zf7 D k=false):zcr D=⟨#[]⟩:=by
 unfold zcr;rw[List.find?_eq_none.2 fun k hk=>by rw[hn k (List.mem_range.1 hk)];decide]
set_option maxRecDepth 20000 in
set_option maxHeartbeats 4000000 in
theorem zs8:(⟨((((([49,48,48,32,67,111,110,116,105,110,117,101,124,49,48,49,32,83,119,105,116,99,104,105,110,103,32,80,114,111,116,111,99,111,108,115,124,50,48,48,32,79,75,124,50,48,49,32,67]:List UInt8).append [114,101,97,116,101,100,124,50,48,50,32,65,99,99,101,112,116,101,100,124,50,48,52,32,78,111,32,67,111,110,116,101,110,116,124,50,48,54,32,80,97,114,116,105,97,108,32,67,111]).append (([110,116,101,110,116,124,51,48,49,32,77,111,118,101,100,32,80,101,114,109,97,110,101,110,116,108,121,124,51,48,50,32,70,111,117,110,100,124,51,48,51,32,83,101,101,32,79,116,104]:List UInt8).append [101,114,124,51,48,52,32,78,111,116,32,77,111,100,105,102,105,101,100,124,51,48,55,32,84,101,109,112,111,114,97,114,121,32,82,101,100,105,114,101,99,116,124,51,48,56,32,80,101])).append ((([114,109,97,110,101,110,116,32,82,101,100,105,114,101,99,116,124,52,48,48,32,66,97,100,32,82,101,113,117,101,115,116,124,52,48,49,32,85,110,97,117,116,104,111,114,105,122,101,100]:List UInt8).append [124,52,48,51,32,70,111,114,98,105,100,100,101,110,124,52,48,52,32,78,111,116,32,70,111,117,110,100,124,52,48,53,32,77,101,116,104,111,100,32,78,111,116,32,65,108,108,111,119]).append (([101,100,124,52,48,54,32,78,111,116,32,65,99,99,101,112,116,97,98,108,101,124,52,48,56,32,82,101,113,117,101,115,116,32,84,105,109,101,111,117,116,124,52,49,49,32,76,101,110]:List UInt8).append [103,116,104,32,82,101,113,117,105,114,101,100,124,52,49,50,32,80,114,101,99,111,110,100,105,116,105,111,110,32,70,97,105,108,101,100,124,52,49,51,32,67,111,110,116,101,110,116,32,84]))).append (((([111,111,32,76,97,114,103,101,124,52,49,52,32,85,82,73,32,84,111,111,32,76,111,110,103,124,52,49,53,32,85,110,115,117,112,112,111,114,116,101,100,32,77,101,100,105,97,32,84]:List UInt8).append [121,112,101,124,52,49,54,32,82,97,110,103,101,32,78,111,116,32,83,97,116,105,115,102,105,97,98,108,101,124,52,49,55,32,69,120,112,101,99,116,97,116,105,111,110,32,70,97,105]).append (([108,101,100,124,52,50,49,32,77,105,115,100,105,114,101,99,116,101,100,32,82,101,113,117,101,115,116,124,52,50,50,32,85,110,112,114,111,99,101,115,115,97,98,108,101,32,67,111,110]:List UInt8).append [116,101,110,116,124,52,50,54,32,85,112,103,114,97,100,101,32,82,101,113,117,105,114,101,100,124,52,50,56,32,80,114,101,99,111,110,100,105,116,105,111,110,32,82,101,113,117,105,114,101])).append ((([100,124,52,50,57,32,84,111,111,32,77,97,110,121,32,82,101,113,117,101,115,116,115,124,52,51,49,32,82,101,113,117,101,115,116,32,72,101,97,100,101,114,32,70,105,101,108,100,115]:List UInt8).append [32,84,111,111,32,76,97,114,103,101,124,53,48,48,32,73,110,116,101,114,110,97,108,32,83,101,114,118,101,114,32,69,114,114,111,114,124,53,48,49,32,78,111,116,32,73,109,112,108]).append (([101,109,101,110,116,101,100,124,53,48,50,32,66,97,100,32,71,97,116,101,119,97,121,124,53,48,51,32,83,101,114,118,105,99,101,32,85,110,97,118,97,105,108,97,98,108,101,124,53]:List UInt8).append [48,52,32,71,97,116,101,119,97,121,32,84,105,109,101,111,117,116,124,53,48,53,32,72,84,84,80,32,86,101,114,115,105,111,110,32,78,111,116,32,83,117,112,112,111,114,116,101,100,124])))).toArray⟩:ByteArray)=zfr:=by kernel_rfl
theorem zar {B:Nat} {w w':World} (h:Below B w w'):Below B w w'.drew:=⟨h.os,h.tape,h.output,h.size,h.block⟩
theorem zwC {D:ByteArray} {j:Nat} (h:¬bt zfr j=124):zf7 D j=false:=by
 unfold zf7;rw[decide_eq_false h];rfl
theorem zs0 {D:ByteArray} {j:Nat} (h:¬zfr.extract (frm j) (frm j+3)=D):zf7 D j=false:=by
 unfold zf7;rw[decide_eq_false h,Bool.and_false]
theorem zvY {D:ByteArray} {j:Nat} (h:bt zfr j=124) (h2:zfr.extract (frm j) (frm j+3)=D):zf7 D j=true:=by
 unfold zf7;rw[decide_eq_true h,decide_eq_true h2];rfl
set_option maxRecDepth 20000 in
set_option maxHeartbeats 4000000 in
theorem zn7 (n:Int) (w:World) (h1:n≤9223372036854775807):
  Calls Tryz.prog 32 #[.int .i64 n] w fun e w'=>e= .returned (.string (zcr (zh6 n)))∧Below w.heap.size w w':=by
 have HD:∀w:World,Calls Tryz.prog 51 #[.int .i64 n] w fun e w'=>e= .returned (.string (zh6 n))∧Below w.heap.size w w':=fun w=>zsc n w h1
 have HD:=hid HD;generalize hDD:zh6 n=D at *;clear hDD;have HN:=hid (zlH (D:=D));have HH:=hid (zlO D);have HE:=hid zgw;have hsz:=zfw
 go_enter Tryz.func32,Tryz.ntmps32
 rw[zs8];generalize hR:zfr=R at *
 go_wp2
 go_loopw [4,5] (fun v i wr=>∃k:Nat,k≤787∧v= .int .i64 (frm k:Int)∧i= .int .i64 (k:Int)∧Below w.heap.size w wr∧∀j,j<k→zf7 D j=false) (fun _ i _=>787 - (RowKit.intOf i).toNat)
 case atStart=>exact ⟨0,by omega,rfl,rfl,Below.refl _ _,fun j hj=>absurd hj (by omega)⟩
 case round=>
  obtain ⟨k,hk,rfl,rfl,hbw,hno⟩:=hrel;have HO:=hid hno;clear hno
  by_cases hlt:k<787
  ·have hks:k<R.size:=by omega
   have hki:(k:Int)<(R.size:Int):=by omega
   have hfk:=zuP k
   by_cases hbar:bt R k=124
   ·have hnb:((R[k].toNat:Int)!=124)=false:=by rw[show ((R[k].toNat:Nat):Int)=bt R k from zE hks,hbar];rfl
    have HB:=hid hbar;have h4:=(HE.out k hlt hbar).1;clear hbar;have HF:=hid (zvl (i:=k));obtain ⟨f,hf⟩:∃f,f=frm k:=⟨_,rfl⟩;have HFK:=hid hf;rw[←hf] at hfk h4 ⊢;clear hf;have hw3:IntKind.i64.wrap ((f:Int)+3)=(f:Int)+3:=IntWalk.i64_in _ (by omega);have hw4:IntKind.i64.wrap ((f:Int)+4)=(f:Int)+4:=IntWalk.i64_in _ (by omega);have ht3:((f:Int)+3).toNat=f+3:=by omega
    have ht4:((f:Int)+4).toNat=f+4:=by omega
    have hf0:(0:Int)≤(f:Int):=by omega
    have hf3:(0:Int)≤(f:Int)+3:=by omega
    have hff3:(f:Int)≤(f:Int)+3:=by omega
    have hsl:(f:Int)+3≤787:=by omega
    have hsn:f+3≤787:=by omega
    cases hx:((R.extract f (f+3)).toList==D.toList)
    ·have HX:=hid (show zf7 D k=false by
      refine zs0 ?_;rw[←HFK.out,hR];exact fun e=>by rw[e] at hx;simp at hx)
     go_wp2_with fail
     go_region_held3 (fun _=>True) (trivial) ((go_at_call 51;(with_reducible refine (HD.out _).mono ?_);rintro e w2 ⟨rfl,b2⟩))
     all_goals
      have hb3:=(zar hbw).trans (b2.mono (zar hbw).size)
      go_wp2
      go_roundw
      case rel=>exact ⟨k+1,by omega,by rw[HF.out (by rw[hR];exact HB.out)];go_num,by go_num,hb3,fun j hj=>by
       rcases Nat.lt_succ_iff_lt_or_eq.1 hj with h|rfl
       ·exact HO.out j h
       ·exact HX.out⟩
      case measure=>simp[RowKit.intOf];omega
    ·have HX:=hid (show zcr D=R.extract (f+4) k by
      have he:R.extract f (f+3)=D:=of_decide_eq_true ((zaj _ _).symm.trans hx);have h5:=HH.out k hlt (zvY (by rw[hR];exact HB.out) (by rw[hR,←HFK.out];exact he)) HO.out;rw[h5,←HFK.out])
     have hsl2:(f:Int)+4≤(k:Int):=by omega
     have hsl3:(k:Int)≤787:=by omega
     have hsl4:f+4≤k:=h4;have hsl5:k≤787:=by omega
     go_wp2_with fail
     go_region_held3 (fun _=>True) (trivial) ((go_at_call 51;(with_reducible refine (HD.out _).mono ?_);rintro e w2 ⟨rfl,b2⟩))
     all_goals
      have hb3:=(zar hbw).trans (b2.mono (zar hbw).size)
      go_wp2
      go_ret
      exact ⟨zbz HX.out.symm,hb3⟩
   ·have hnb:((R[k].toNat:Int)!=124)=true:=by rw[show ((R[k].toNat:Nat):Int)=bt R k from zE hks,bne_iff_ne];exact hbar
    have HX:=hid (show zf7 D k=false from zwC (by rw[hR];exact hbar));have HF:=hid (zwG (i:=k) (by rw[hR];exact hbar));clear hbar
    go_wp2
    go_roundw
    case rel=>exact ⟨k+1,by omega,by rw[HF.out],by go_num,hbw,fun j hj=>by
     rcases Nat.lt_succ_iff_lt_or_eq.1 hj with h|rfl
     ·exact HO.out j h
     ·exact HX.out⟩
    case measure=>simp[RowKit.intOf];omega
  ·obtain rfl:k=787:=by omega
   go_wp2
   go_ret
   exact ⟨zbz (HN.out HO.out).symm,hbw⟩
theorem zbb {B:Nat} {w w':World} (h:Below B w w') (n:Nat):Below B w (w'.drewN n):=⟨h.os,h.tape,h.output,h.size,h.block⟩
theorem za1 (w:World) (cs:Array Value) (t:TypeId) {n:Nat} (hn:n=w.heap.size):Row (w.alloc (.cells cs t)) (some ⟨n,0,none⟩) cs.toList:=fun _=>by
 subst hn;refine ⟨w.heap.size,0,rfl,by simp,fun j v hv=>?_⟩;have hj:j<cs.size:=by
  have:=(List.getElem?_eq_some_iff.1 hv).1
  simpa using this
 rw[Nat.zero_add];simp only[World.cell?_alloc_new];rw[←hv,Array.getElem?_toList]
theorem zeT {w w2:World} {row:Option Nat} (hg:w.grownBy w2 row) (p:Addr) (hp:p.block<w.heap.size) (hne:some p.block≠row):w2.cell? p=w.cell? p:=World.cell?_of_block (hg.block p.block hp hne)
theorem zs7 (w:World):(w.alloc (.cells #[] 69)).ownsRow w.heap.size 69 2 (.slice (some ⟨w.heap.size,0,none⟩) 0 0) 0 []:=World.ownsRow_lit w #[] 0 (Nat.le_refl _) (by unfold maxLen;omega) rfl
set_option maxRecDepth 20000 in
set_option maxHeartbeats 2000000 in
theorem zkc (A:Option Addr) (c:Nat) (l:List Fl) (w:World) (hr:Row w A (zj l)) (hl:l.length≤4398046511104):
  Calls Tryz.prog 31 #[.slice A l.length c] w (zgf 69 w l):=by
 obtain ⟨i0,hi0,hz0,hz1,hz2⟩:=info_parts zbQ
 go_enter Tryz.func31,Tryz.ntmps31
 go_wp2
 go_loopw [3,4] (fun v i wr=>∃k:Nat,k≤l.length∧i= .int .i64 k∧wr.ownsRow w.heap.size 69 2 v k (zj (l.take k))∧Below w.heap.size w wr) (fun _ i _=>l.length - (RowKit.intOf i).toNat)
 case atStart=>exact ⟨0,by omega,rfl,zs7 w,(Below.refl _ _).alloc (Nat.le_refl _) _⟩
 case round=>
  obtain ⟨k,hk,rfl,hown,hbw⟩:=hrel
  by_cases hlt:k<l.length
  ·obtain ⟨⟨x,y⟩,hxy⟩:=zD hlt
   obtain ⟨b,off,rfl,hb,h0,h1⟩:=(hr.below hbw).pair hxy;have hki:(k:Int)<(l.length:Int):=by omega
   have HS:=hid (zb6 hxy);have HC:=hid (And.intro h0 h1);have hbw0:b<w.heap.size:=by
    obtain ⟨b2,o2,e,h,_⟩:=hr.pair hxy
    cases e
    exact h
   clear hxy;have HNB:=hid (show some b≠u3.ownBlock from fun e=>by have:=zI hown _ e.symm;omega)
   go_wp2_with fail
   go_region_held3 (fun w'=>w'.cell? ⟨b,off+k*2,none⟩=some (.string x)∧w'.cell? ⟨b,off+k*2+1,none⟩=some (.string y)) (first|exact HC.out|exact ⟨hSB0,hSB1⟩|assumption|go_keep) ((refine zaO _ rfl (.tmp 12) (.tmp 24) 37 rfl w.heap.size 69 i0 (.agg #[.string ⟨#[]⟩,.string ⟨#[]⟩]) 2 32 Tryz.underlying37 hi0 hz0 hz1 hz2 rfl (by decide) _ _ _ (by rfl) (hown.drew.alloc _) _ (some ⟨wr.heap.size,0,none⟩) 1 1 [.string x,.string y] (by rfl) (zv (za1 _ _ _ (by simp)) rfl (by decide)) (zA [(x,y)]) (by unfold maxLen;omega) (by omega) (by have:=hbw.size;simp;omega) ?_;intro v' w2 hown2 hg2 alt2;have hSB0:=(zeT hg2 ⟨b,off+k*2,none⟩ (by simp;omega) HNB.out).trans ((World.cell?_alloc_lt _ _ _ (by simp;omega)).trans h0);have hSB1:=(zeT hg2 ⟨b,off+k*2+1,none⟩ (by simp;omega) HNB.out).trans ((World.cell?_alloc_lt _ _ _ (by simp;omega)).trans h1)))
   all_goals
    have hb5:=((zar hbw).alloc (by have:=hbw.size;simpa using this) (.cells #[.string x,.string y] 69)).grown hg2 (by have:=hbw.size;simp;omega) (zI hown);have hov:w2.ownsRow w.heap.size 69 2 v' (k+1) (zj (l.take (k+1))):=by rw[HS.out,zX];exact hown2
    clear hown2 hg2 alt2 hSB0 hSB1 HNB HC
    go_wp2
    go_roundw
    case rel=>exact ⟨k+1,by omega,by go_num,hov,hb5⟩
    case measure=>simp[RowKit.intOf];omega
  ·obtain rfl:k=l.length:=by omega
   rw[List.take_length] at hown;obtain ⟨A',c',rfl⟩:=zC hown
   go_wp2
   go_ret
   exact ⟨A',c',rfl,hown,hbw⟩
set_option maxRecDepth 20000 in
set_option maxHeartbeats 2000000 in
theorem zkb (A B:Option Addr) (c d:Nat) (l m:List Fl) (w:World) (hr:Row w A (zj l)) (hs:Row w B (zj m)) (hl:l.length≤4398046511104) (_hm:m.length≤4398046511104):
  Calls Tryz.prog 22 #[.slice A l.length c,.slice B m.length d] w fun e w'=>e= .returned (.bool (decide (l=m)))∧Below w.heap.size w w':=by
 by_cases hlen:l.length=m.length
 ·have hne:((l.length:Int)!=(m.length:Int))=false:=by simp;omega
  have hml:m.length≤l.length:=by omega
  have HL:=hid hlen;clear hlen
  go_enter Tryz.func22,Tryz.ntmps22
  go_wp2
  go_loopw [5] (fun i wr=>∃(k q:Nat),k≤l.length∧i= .int .i64 k∧wr=w.drewN q∧l.take k=m.take k) (fun i _=>l.length - (RowKit.intOf i).toNat)
  case atStart=>exact ⟨0,0,by omega,rfl,rfl,rfl⟩
  case round=>
   obtain ⟨k,q,hk,rfl,rfl,htk⟩:=hrel;have HT:=hid htk;clear htk
   by_cases hlt:k<l.length
   ·obtain ⟨⟨x,y⟩,hxy⟩:=zD hlt
    obtain ⟨⟨x',y'⟩,hxy'⟩:=zD (show k<m.length by have:=HL.out;omega);obtain ⟨b,off,rfl,hb,h0,h1⟩:=hr.pair hxy;obtain ⟨b',off',rfl,hb',h0',h1'⟩:=hs.pair hxy';have hkm:k<m.length:=zky hxy';have HX:=hid hxy;have HX':=hid hxy';clear hxy hxy';have hki:(k:Int)<(l.length:Int):=by omega
    have hki':(k:Int)<(m.length:Int):=by omega
    cases hx:(x.toList==x'.toList)
    ·have hneq:¬l=m:=fun e=>by
      have h2:=HX.out;rw[e,HX'.out] at h2;injection h2 with h2;injection h2 with h2 _;rw[h2] at hx;simp at hx
     have HN:=hid hneq;clear hneq
     go_wp2_with fail
     go_quiet (fail)
     go_wp2
     go_ret
     exact ⟨zd (by rw[decide_eq_false HN.out]),zbb (zbb (Below.refl _ _) _) _⟩
    ·cases hy:(y.toList==y'.toList)
     ·have hneq:¬l=m:=fun e=>by
       have h2:=HX.out;rw[e,HX'.out] at h2;injection h2 with h2;injection h2 with _ h2;rw[h2] at hy;simp at hy
      have HN:=hid hneq;clear hneq
      go_wp2_with fail
      go_quiet (fail)
      go_wp2
      go_ret
      exact ⟨zd (by rw[decide_eq_false HN.out]),zbb (zbb (Below.refl _ _) _) _⟩
     ·have HE:=hid (show (x,y)=(x',y') by rw[of_decide_eq_true ((zaj x x').symm.trans hx),of_decide_eq_true ((zaj y y').symm.trans hy)])
      go_wp2_with fail
      go_quiet (fail)
      go_wp2
      go_roundw
      case rel=>exact ⟨k+1,_,by omega,by go_num,rfl,by rw[zb6 HX.out,zb6 HX'.out,HT.out,HE.out]⟩
      case measure=>simp[RowKit.intOf];omega
   ·obtain rfl:k=l.length:=by omega
    have he:l=m:=by
     have:=HT.out;rw[List.take_length,HL.out,List.take_length] at this;exact this
    have HN:=hid he;clear he
    go_wp2
    go_ret
    exact ⟨zd (by rw[decide_eq_true HN.out]),zbb (Below.refl _ _) _⟩
 ·have hne:((l.length:Int)!=(m.length:Int))=true:=by rw[bne_iff_ne];omega
  have HN:=hid (show ¬l=m from fun e=>hlen (by rw[e]));clear hlen
  go_enter Tryz.func22,Tryz.ntmps22
  go_wp2
  go_ret
  exact ⟨zd (by rw[decide_eq_false HN.out]),Below.refl _ _⟩
theorem zH {w w1:World} {cs:Array Value} {t:TypeId} (h:Below (w.heap.size+1) (w.alloc (.cells cs t)) w1) (k:Nat):w1.cell? ⟨w.heap.size,k,none⟩=cs[k]?∧w1.frozen? ⟨w.heap.size,k,none⟩=false:=by
 refine ⟨?_,?_⟩
 ·rw[h.cell (p:=⟨w.heap.size,k,none⟩) (by simp),World.cell?_alloc_new]
 ·rw[h.frozen (p:=⟨w.heap.size,k,none⟩) (by simp)];simp
theorem zn {w:World} {b b' sz n:Nat} {E:TypeId} {v:Value} {xs:List Value} (h:w.ownsRow b E sz v n xs) (hb:b'≤b):w.ownsRow b' E sz v n xs:=World.ownsRow.mono h hb
theorem zas {w w1:World} {o:Obj} (h:Below (w.heap.size+1) (w.alloc o) w1):w.heap.size<w1.heap.size:=by have:=h.size;simp at this;omega
def ctF:Fl:=(⟨#[67,111,110,116,101,110,116,45,84,121,112,101]⟩,⟨#[116,101,120,116,47,112,108,97,105,110,59,32,99,104,97,114,115,101,116,61,117,116,102,45,56]⟩)
def zel (n:Int):ByteArray:=if (za6 n).size=0 then (⟨#[83,116,97,116,117,115,32]⟩:ByteArray)++za3 n else za6 n
def zao (n:Int):ByteArray:=zel n++(⟨#[10]⟩:ByteArray)
theorem zip (n:Int):(za6 n).size≤64:=by
 by_cases h:∃x∈zeE,x.1=n
 ·obtain ⟨x,hx,rfl⟩:=h
  rw[zk7 hx];have h2:zeE.all (fun x=>decide (x.2.2.size≤64))=true:=by decide +kernel
  exact of_decide_eq_true (List.all_eq_true.1 h2 x hx)
 ·rw[zjw fun x hx e=>h ⟨x,hx,e⟩]
  decide
theorem zhA {n:Int} (h0:-9223372036854775808≤n) (h1:n≤9223372036854775807):(za3 n).size≤32:=by
 show (Lib.itoa n).toArray.size≤32;rw[List.size_toArray];unfold Lib.itoa
 split
 ·rw[List.length_cons,Lib.decDigits_length]
  have:=Lib.nDigits_le20 n.natAbs (by omega)
  omega
 ·rw[Lib.decDigits_length]
  have:=Lib.nDigits_le20 n.toNat (by omega)
  omega
def zth (T:TypeId) (w:World) (n:Int) (fs:List Fl) (b:ByteArray) (e:Ending) (w':World):Prop:=
 ∃A c,e= .returned (.agg #[.int .i64 n,.string ⟨#[]⟩,.slice A fs.length c,.string b])∧w'.ownsRow w.heap.size T 2 (.slice A fs.length c) fs.length (zj fs)∧Below w.heap.size w w'
set_option maxRecDepth 20000 in
set_option maxHeartbeats 4000000 in
theorem zdV (n:Int) (A:Option Addr) (c:Nat) (l:List Fl) (w:World) (hr:Row w A (zj l)) (hl:l.length≤4398046511102) (h0:-9223372036854775808≤n) (h1:n≤9223372036854775807) (hg:zdF w):
  Calls Tryz.prog 23 #[.int .i64 n,.slice A l.length c] w (zth 59 w n (ctF::l) (zao n)):=by
 obtain ⟨i0,hi0,hz0,hz1,hz2⟩:=info_parts zez;have HR:=hid (fun w=>show Calls Tryz.prog 38 #[.int .i64 n] w fun e w'=>e= .returned (.string (za6 n))∧Below w.heap.size w w' from (zhU n w).mono fun e w' h=>⟨h.1,by rw[←h.2];exact Below.refl _ _⟩);have HD:=hid (fun (w1:World) (hb:Below w.heap.size w w1)=>zfV n w1 h0 h1 (hg.beyond hb));have hz:=zip n;have hzi:=zhA h0 h1;have HB:=hid (show zao n=zel n++(⟨#[10]⟩:ByteArray) from rfl);have hfl:zj (ctF::l)=zj [ctF]++zj l:=zX [ctF] l;have HFL:=hid hfl;clear hfl;generalize zao n=bd at *
 by_cases hq:(za6 n).size=0
 ·have he:(za6 n).toList.isEmpty=true:=by rw[zo];exact decide_eq_true hq
  have HW:=hid (show zel n=(⟨#[83,116,97,116,117,115,32]⟩:ByteArray)++za3 n by unfold zel;rw[if_pos hq]);generalize zel n=wd at *;generalize za3 n=it at *;generalize za6 n=rs at *;clear hq
  go_enter Tryz.func23,Tryz.ntmps23
  go_wp2_with fail
  refine (HR.out _).mono ?_;rintro e w1 ⟨rfl,b1⟩;have b1':Below (w.heap.size+1) (w.alloc (.cells #[.int .i64 0,.string ⟨#[]⟩,.slice none 0 0,.string ⟨#[]⟩] 29)) w1:=by simpa using b1
  clear b1
  go_wp2_with fail
  refine (HD.out w1 (zw b1')).mono ?_;rintro e w2 ⟨rfl,b2⟩;have b2':=b1'.trans (b2.mono (by have:=b1'.size;simpa using this));clear b2 b1';have hsz:=zas b2';have hr2:=hr.below (zw b2');have hown0:(w2.alloc (.cells #[.string ctF.1,.string ctF.2] 59)).ownsRow (w.heap.size+1) 59 2 (.slice (some ⟨w2.heap.size,0,none⟩) 1 1) 1 (zj [ctF]):=zn (World.ownsRow_lit w2 #[.string ctF.1,.string ctF.2] 1 (Nat.le_refl _) (by unfold maxLen;omega) rfl) (by omega)
  go_wp2_with (at_builtin;refine zq _ rfl _ _ 25 rfl (w.heap.size+1) 59 i0 (.agg #[.string ⟨#[]⟩,.string ⟨#[]⟩]) 2 32 Tryz.underlying25 hi0 hz0 hz1 hz2 rfl (by decide) _ 1 (zj [ctF]) rfl hown0 _ A l.length c (zj l) rfl (zv (hr2.alloc _) (zK l) (by decide)) ?c1 ?c2 ?c3 ?c4 ?c5)
  case c1=>exact zA l
  case c2=>unfold maxLen;omega
  case c3=>omega
  case c4=>simp;omega
  case c5=>
   intro v' w3 hown hg _;have hb3:=(b2'.alloc (by omega) (.cells #[.string ctF.1,.string ctF.2] 59)).grown hg (by simp;omega) (fun k hk=>by simp[Value.ownBlock] at hk;omega);have hov:w3.ownsRow (w.heap.size+1) 59 2 v' (ctF::l).length (zj (ctF::l)):=by rw[HFL.out,List.length_cons,Nat.add_comm l.length 1];exact hown
   clear hg hown hown0 b2';obtain ⟨A',c',rfl⟩:=zC hov;obtain ⟨c0,f0⟩:=zH hb3 0;obtain ⟨c1,f1⟩:=zH hb3 1;obtain ⟨c2,f2⟩:=zH hb3 2;obtain ⟨c3,f3⟩:=zH hb3 3;have hsz3:=zas hb3;have hbw:=zw hb3;have HOV:=hid hov;have HBW:=hid hbw;clear hb3 hov hbw
   go_wp2
   exact bodyPost_ret (v:=.agg #[.int .i64 n,.string ⟨#[]⟩,.slice A' (l.length+1) c',.string (((⟨#[83,116,97,116,117,115,32]⟩:ByteArray)++it)++(⟨#[10]⟩:ByteArray))]) (by simp[results,Tryz.results23,go_sem,c0,c1,c2,c3]) rfl ⟨A',c',by rw[HB.out,HW.out];rfl,zn (ownsRow_setCell_below (ownsRow_setCell_below (ownsRow_setCell_below (ownsRow_setCell_below HOV.out (by simp) _) (by simp) _) (by simp) _) (by simp) _) (by omega),by (repeat (first|(with_reducible refine Below.setCell ?_ (by simp) _)));exact HBW.out⟩
 ·have he:(za6 n).toList.isEmpty=false:=by rw[zo];exact decide_eq_false hq
  have HW:=hid (show zel n=za6 n by unfold zel;rw[if_neg hq]);generalize zel n=wd at *;generalize za3 n=it at *;generalize za6 n=rs at *;clear hq
  go_enter Tryz.func23,Tryz.ntmps23
  go_wp2_with fail
  refine (HR.out _).mono ?_;rintro e w2 ⟨rfl,b1⟩;have b2':Below (w.heap.size+1) (w.alloc (.cells #[.int .i64 0,.string ⟨#[]⟩,.slice none 0 0,.string ⟨#[]⟩] 29)) w2:=by simpa using b1
  clear b1;have hsz:=zas b2';have hr2:=hr.below (zw b2');have hown0:(w2.alloc (.cells #[.string ctF.1,.string ctF.2] 59)).ownsRow (w.heap.size+1) 59 2 (.slice (some ⟨w2.heap.size,0,none⟩) 1 1) 1 (zj [ctF]):=zn (World.ownsRow_lit w2 #[.string ctF.1,.string ctF.2] 1 (Nat.le_refl _) (by unfold maxLen;omega) rfl) (by omega)
  go_wp2_with (at_builtin;refine zq _ rfl _ _ 25 rfl (w.heap.size+1) 59 i0 (.agg #[.string ⟨#[]⟩,.string ⟨#[]⟩]) 2 32 Tryz.underlying25 hi0 hz0 hz1 hz2 rfl (by decide) _ 1 (zj [ctF]) rfl hown0 _ A l.length c (zj l) rfl (zv (hr2.alloc _) (zK l) (by decide)) ?c1 ?c2 ?c3 ?c4 ?c5)
  case c1=>exact zA l
  case c2=>unfold maxLen;omega
  case c3=>omega
  case c4=>simp;omega
  case c5=>
   intro v' w3 hown hg _;have hb3:=(b2'.alloc (by omega) (.cells #[.string ctF.1,.string ctF.2] 59)).grown hg (by simp;omega) (fun k hk=>by simp[Value.ownBlock] at hk;omega);have hov:w3.ownsRow (w.heap.size+1) 59 2 v' (ctF::l).length (zj (ctF::l)):=by rw[HFL.out,List.length_cons,Nat.add_comm l.length 1];exact hown
   clear hg hown hown0 b2';obtain ⟨A',c',rfl⟩:=zC hov;obtain ⟨c0,f0⟩:=zH hb3 0;obtain ⟨c1,f1⟩:=zH hb3 1;obtain ⟨c2,f2⟩:=zH hb3 2;obtain ⟨c3,f3⟩:=zH hb3 3;have hsz3:=zas hb3;have hbw:=zw hb3;have HOV:=hid hov;have HBW:=hid hbw;clear hb3 hov hbw
   go_wp2
   exact bodyPost_ret (v:=.agg #[.int .i64 n,.string ⟨#[]⟩,.slice A' (l.length+1) c',.string (rs++(⟨#[10]⟩:ByteArray))]) (by simp[results,Tryz.results23,go_sem,c0,c1,c2,c3]) rfl ⟨A',c',by rw[HB.out,HW.out];rfl,zn (ownsRow_setCell_below (ownsRow_setCell_below (ownsRow_setCell_below (ownsRow_setCell_below HOV.out (by simp) _) (by simp) _) (by simp) _) (by simp) _) (by omega),by (repeat (first|(with_reducible refine Below.setCell ?_ (by simp) _)));exact HBW.out⟩
set_option maxRecDepth 20000 in
set_option maxHeartbeats 4000000 in
theorem zdT (n:Int) (A:Option Addr) (c:Nat) (l:List Fl) (w:World) (hr:Row w A (zj l)) (hl:l.length≤4398046511102) (h0:-9223372036854775808≤n) (h1:n≤9223372036854775807) (hD:∀x∈zeE,x.2.1=zh6 n↔x.1=n):
  Calls Tryz.prog 13 #[.int .i64 n,.slice A l.length c] w (zth 69 w n (ctF::l) (zao n)):=by
 obtain ⟨i0,hi0,hz0,hz1,hz2⟩:=info_parts zbQ;have HR:=hid (fun w=>(show Calls Tryz.prog 32 #[.int .i64 n] w fun e w'=>e= .returned (.string (za6 n))∧Below w.heap.size w w' by rw[←znv hD];exact zn7 n w h1));have HD:=hid (fun (w1:World) (_:Below w.heap.size w w1)=>zjz n w1 h0 h1);have hz:=zip n;have hzi:=zhA h0 h1;have HB:=hid (show zao n=zel n++(⟨#[10]⟩:ByteArray) from rfl);have hfl:zj (ctF::l)=zj [ctF]++zj l:=zX [ctF] l;have HFL:=hid hfl;clear hfl;generalize zao n=bd at *
 by_cases hq:(za6 n).size=0
 ·have he:(za6 n).toList.isEmpty=true:=by rw[zo];exact decide_eq_true hq
  have HW:=hid (show zel n=(⟨#[83,116,97,116,117,115,32]⟩:ByteArray)++za3 n by unfold zel;rw[if_pos hq]);generalize zel n=wd at *;generalize za3 n=it at *;generalize za6 n=rs at *;clear hq
  go_enter Tryz.func13,Tryz.ntmps13
  go_wp2_with fail
  refine (HR.out _).mono ?_;rintro e w1 ⟨rfl,b1⟩;have b1':Below (w.heap.size+1) (w.alloc (.cells #[.int .i64 0,.string ⟨#[]⟩,.slice none 0 0,.string ⟨#[]⟩] 39)) w1:=by simpa using b1
  clear b1
  go_wp2_with fail
  refine (HD.out w1 (zw b1')).mono ?_;rintro e w2 ⟨rfl,b2⟩;have b2':=b1'.trans (b2.mono (by have:=b1'.size;simpa using this));clear b2 b1';have hsz:=zas b2';have hr2:=hr.below (zw b2');have hown0:(w2.alloc (.cells #[.string ctF.1,.string ctF.2] 69)).ownsRow (w.heap.size+1) 69 2 (.slice (some ⟨w2.heap.size,0,none⟩) 1 1) 1 (zj [ctF]):=zn (World.ownsRow_lit w2 #[.string ctF.1,.string ctF.2] 1 (Nat.le_refl _) (by unfold maxLen;omega) rfl) (by omega)
  go_wp2_with (at_builtin;refine zq _ rfl _ _ 37 rfl (w.heap.size+1) 69 i0 (.agg #[.string ⟨#[]⟩,.string ⟨#[]⟩]) 2 32 Tryz.underlying37 hi0 hz0 hz1 hz2 rfl (by decide) _ 1 (zj [ctF]) rfl hown0 _ A l.length c (zj l) rfl (zv (hr2.alloc _) (zK l) (by decide)) ?c1 ?c2 ?c3 ?c4 ?c5)
  case c1=>exact zA l
  case c2=>unfold maxLen;omega
  case c3=>omega
  case c4=>simp;omega
  case c5=>
   intro v' w3 hown hg _;have hb3:=(b2'.alloc (by omega) (.cells #[.string ctF.1,.string ctF.2] 69)).grown hg (by simp;omega) (fun k hk=>by simp[Value.ownBlock] at hk;omega);have hov:w3.ownsRow (w.heap.size+1) 69 2 v' (ctF::l).length (zj (ctF::l)):=by rw[HFL.out,List.length_cons,Nat.add_comm l.length 1];exact hown
   clear hg hown hown0 b2';obtain ⟨A',c',rfl⟩:=zC hov;obtain ⟨c0,f0⟩:=zH hb3 0;obtain ⟨c1,f1⟩:=zH hb3 1;obtain ⟨c2,f2⟩:=zH hb3 2;obtain ⟨c3,f3⟩:=zH hb3 3;have hsz3:=zas hb3;have hbw:=zw hb3;have HOV:=hid hov;have HBW:=hid hbw;clear hb3 hov hbw
   go_wp2
   exact bodyPost_ret (v:=.agg #[.int .i64 n,.string ⟨#[]⟩,.slice A' (l.length+1) c',.string (((⟨#[83,116,97,116,117,115,32]⟩:ByteArray)++it)++(⟨#[10]⟩:ByteArray))]) (by simp[results,Tryz.results13,go_sem,c0,c1,c2,c3]) rfl ⟨A',c',by rw[HB.out,HW.out];rfl,zn (ownsRow_setCell_below (ownsRow_setCell_below (ownsRow_setCell_below (ownsRow_setCell_below HOV.out (by simp) _) (by simp) _) (by simp) _) (by simp) _) (by omega),by (repeat (first|(with_reducible refine Below.setCell ?_ (by simp) _)));exact HBW.out⟩
 ·have he:(za6 n).toList.isEmpty=false:=by rw[zo];exact decide_eq_false hq
  have HW:=hid (show zel n=za6 n by unfold zel;rw[if_neg hq]);generalize zel n=wd at *;generalize za3 n=it at *;generalize za6 n=rs at *;clear hq
  go_enter Tryz.func13,Tryz.ntmps13
  go_wp2_with fail
  refine (HR.out _).mono ?_;rintro e w2 ⟨rfl,b1⟩;have b2':Below (w.heap.size+1) (w.alloc (.cells #[.int .i64 0,.string ⟨#[]⟩,.slice none 0 0,.string ⟨#[]⟩] 39)) w2:=by simpa using b1
  clear b1;have hsz:=zas b2';have hr2:=hr.below (zw b2');have hown0:(w2.alloc (.cells #[.string ctF.1,.string ctF.2] 69)).ownsRow (w.heap.size+1) 69 2 (.slice (some ⟨w2.heap.size,0,none⟩) 1 1) 1 (zj [ctF]):=zn (World.ownsRow_lit w2 #[.string ctF.1,.string ctF.2] 1 (Nat.le_refl _) (by unfold maxLen;omega) rfl) (by omega)
  go_wp2_with (at_builtin;refine zq _ rfl _ _ 37 rfl (w.heap.size+1) 69 i0 (.agg #[.string ⟨#[]⟩,.string ⟨#[]⟩]) 2 32 Tryz.underlying37 hi0 hz0 hz1 hz2 rfl (by decide) _ 1 (zj [ctF]) rfl hown0 _ A l.length c (zj l) rfl (zv (hr2.alloc _) (zK l) (by decide)) ?c1 ?c2 ?c3 ?c4 ?c5)
  case c1=>exact zA l
  case c2=>unfold maxLen;omega
  case c3=>omega
  case c4=>simp;omega
  case c5=>
   intro v' w3 hown hg _;have hb3:=(b2'.alloc (by omega) (.cells #[.string ctF.1,.string ctF.2] 69)).grown hg (by simp;omega) (fun k hk=>by simp[Value.ownBlock] at hk;omega);have hov:w3.ownsRow (w.heap.size+1) 69 2 v' (ctF::l).length (zj (ctF::l)):=by rw[HFL.out,List.length_cons,Nat.add_comm l.length 1];exact hown
   clear hg hown hown0 b2';obtain ⟨A',c',rfl⟩:=zC hov;obtain ⟨c0,f0⟩:=zH hb3 0;obtain ⟨c1,f1⟩:=zH hb3 1;obtain ⟨c2,f2⟩:=zH hb3 2;obtain ⟨c3,f3⟩:=zH hb3 3;have hsz3:=zas hb3;have hbw:=zw hb3;have HOV:=hid hov;have HBW:=hid hbw;clear hb3 hov hbw
   go_wp2
   exact bodyPost_ret (v:=.agg #[.int .i64 n,.string ⟨#[]⟩,.slice A' (l.length+1) c',.string (rs++(⟨#[10]⟩:ByteArray))]) (by simp[results,Tryz.results13,go_sem,c0,c1,c2,c3]) rfl ⟨A',c',by rw[HB.out,HW.out];rfl,zn (ownsRow_setCell_below (ownsRow_setCell_below (ownsRow_setCell_below (ownsRow_setCell_below HOV.out (by simp) _) (by simp) _) (by simp) _) (by simp) _) (by omega),by (repeat (first|(with_reducible refine Below.setCell ?_ (by simp) _)));exact HBW.out⟩
end Go.Proofs.YtbnafbdhomdcoaaGreatDoor
