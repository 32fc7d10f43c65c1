/-
 TgE, without what this claim does not reach.
-/
import Derived.Test.YtbnafbdhomdcoaaGreatDoorZTgNum
import Derived.Test.YtbnafbdhomdcoaaGreatDoorZm1
import Derived.Deep.RegionHeld3
namespace Go.Proofs.YtbnafbdhomdcoaaGreatDoor.T5
open Go.RowKit Go.Shelf Go.Lib
def zat (b:UInt8):Value:=.int .u8 (b.toNat:Int)
theorem zbq (l:List UInt8):∀u∈l.map zat,u.oneCell'=true:=by
 intro u hu;obtain ⟨b,_,rfl⟩:=List.mem_map.1 hu
 rfl
theorem zcI:(Tryz.prog.info? 5).map (fun i=>(i.zero,i.size,i.bytes))=some (some (.int .u8 0),1,1):=by kernel_rfl
def zZ (w:World) (base:Nat) (v:Value) (l:List UInt8):Prop:=w.ownsRow base 5 1 v l.length (l.map zat)
theorem zZ.conv {w:World} {base:Nat} {v:Value} {l:List UInt8} (h:zZ w base v l):(convert 80 9 v).run Tryz.prog w= .ok (.string ⟨l.toArray⟩) w:=by
 obtain ⟨A,c,rfl⟩:=zC h
 rcases h.2 with ⟨h1,h2⟩|⟨g,cap,cur,h1,_⟩
 ·simp only[Value.slice.injEq] at h1
  obtain ⟨h1,h3,h4⟩:=h1;have hl:l=[]:=List.eq_nil_of_length_eq_zero h3;subst hl;rw[h1];have:=run_convert_bytes_nil (P:=Tryz.prog) w 80 5 Tryz.underlying80 Tryz.underlying5 0 c 9 Tryz.underlying9;exact this
 ·simp only[Value.slice.injEq] at h1
  obtain ⟨h1,h3,h4⟩:=h1;subst h1;have hc:=h.cells (g:=g) rfl;have hB:zbM w g l:=⟨fun i hi=>by
   have h6:=hc i (zat l[i]) (by rw[List.getElem?_map,List.getElem?_eq_getElem hi];rfl);have e:(⟨g,0,none⟩:Addr).add i=⟨g,i,none⟩:=by
    unfold Addr.add
    split
    ·rename_i h0;rw[h0]
    ·simp
   rw[e] at h6;rw[h6,List.getD_eq_getElem?_getD,List.getElem?_eq_getElem hi]
   rfl,fun i _=>h.frozenAt i⟩
  exact hB.conv Tryz.underlying80 Tryz.underlying5 Tryz.underlying9 c
theorem zvE:∀n:Nat,n<256→(⟨#[37]⟩:ByteArray)++(⟨#[48,49,50,51,52,53,54,55,56,57,65,66,67,68,69,70]⟩:ByteArray).extract (n / 16) (n / 16+1)++(⟨#[48,49,50,51,52,53,54,55,56,57,65,66,67,68,69,70]⟩:ByteArray).extract (n % 16) (n % 16+1)=⟨(pct (UInt8.ofNat n)).toArray⟩:=by decide +kernel
set_option maxRecDepth 20000 in
theorem zoQ (b:UInt8) (w:World):
  Calls Tryz.prog 147 #[.int .u8 (b.toNat:Int)] w fun e w'=>e= .returned (.string ⟨(pct b).toArray⟩)∧∃q:Nat,w'=w.drewN q:=by
 have hb:=b.toNat_lt;have h1:(b.toNat:Int)<256:=by omega
 go_enter Tryz.func147,Tryz.ntmps147
 go_wp2_with fail
 go_quiet (fail)
 go_wp2
 go_ret
 exact ⟨zbz (by have:=zvE b.toNat hb;rw[UInt8.ofNat_toNat] at this;exact this),_,rfl⟩
end Go.Proofs.YtbnafbdhomdcoaaGreatDoor.T5
